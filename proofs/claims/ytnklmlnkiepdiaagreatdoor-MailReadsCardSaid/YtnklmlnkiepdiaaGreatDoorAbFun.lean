/-
  FUNCTIONS: what denFun comes to is what the function does.
-/
import Derived.Test.YtnklmlnkiepdiaaGreatDoorAbCode2
import Derived.Test.YtnklmlnkiepdiaaGreatDoorAbRng
set_option linter.unusedVariables false
set_option linter.unusedSectionVars false
set_option linter.unusedSimpArgs false
namespace Go.Ab
variable [Tabs]
open Go.RowKit (Below)

/-! ### the frame that a call starts with -/
theorem argVs_deal : ∀ (ps : List (Bool × Nat)) (cs : List Cell), argVs ps cs = (deal ps cs).map fun p => mkV p.1 p.2 := by
  intro ps
  induction ps with
  | nil => intro cs; rfl
  | cons p ps ih => intro cs; obtain ⟨g, n⟩ := p; simp only [argVs, deal, List.map_cons, ih]

theorem ARels.get {k : Kx} : ∀ {as : List AVal} {vs : List Value}, ARels k as vs → ∀ i, ARel k (as.getD i (.one .undef)) (vs.getD i undef) := by
  intro as
  induction as with
  | nil => intro vs h i; exact Or.inl rfl
  | cons a as ih =>
    intro vs h i
    obtain ⟨v, r, e, h1, h2⟩ := h
    subst e
    cases i with
    | zero => exact h1
    | succ i => simpa using ih h2 i

/-- The frame of a call. -/
theorem init_rel {k : Kx} {as : List AVal} {vs : Array Value} (h : ARels k as vs.toList) (n : Nat) : FRel k (initFr n as) (vs ++ Array.replicate (n - vs.size) undef) := by
  have hl := h.len
  simp only [Array.length_toList] at hl
  refine ⟨by simp [initFr, hl], fun i => ?_⟩
  have hi := h.get i
  simp only [initFr, rdT, List.getD_eq_getElem?_getD, Array.getD_eq_getD_getElem?, List.getElem?_append, Array.getElem?_append] at hi ⊢
  by_cases hlt : i < as.length
  · rw [if_pos hlt, if_pos (by omega)]
    simpa using hi
  · rw [if_neg hlt, if_neg (by omega)]
    simp only [List.getElem?_replicate, Array.getElem?_replicate]
    split
    · exact Or.inl rfl
    · exact Or.inl rfl

/-! ### results -/
theorem run_mapM {α β : Type} {P : Program} {w : World} {f : α → Sem β} : ∀ (l : List α) (r : List β), l.length = r.length → (∀ i (h : i < l.length) (h' : i < r.length), (f l[i]).run P w = .ok r[i] w) → (l.mapM f).run P w = .ok r w := by
  intro l
  induction l with
  | nil => intro r hl _; cases r with | nil => simp | cons _ _ => simp at hl
  | cons a l ih =>
    intro r hl h
    cases r with
    | nil => simp at hl
    | cons b r =>
      have h0 := h 0 (by simp) (by simp)
      have hr := ih r (by simpa using hl) fun i hi hi' => by
        have := h (i + 1) (by simp; omega) (by simp; omega)
        simpa using this
      simp only [List.getElem_cons_zero] at h0
      simp only [List.mapM_cons, Sem.run_bind, h0, Result.andThen_ok, hr, Sem.run_pure]

def resOne (tmps : Array Value) : ResultVar → Sem Value
  | .tmp t => pure (tmps.getD t undef)
  | .cell a t => do loadVar t (← asAddr (tmps.getD a undef))

theorem resCells_rel {E : Env} {N : Nat} {k0 : Kx} {σ : St} {k : Kx} {a : Act} (hR : Rel N k0 σ k a) : ∀ (rs : List ResultVar) (l : List (Bool × List Cell)), resCells σ.hp σ.fr E rs = some l →
    ∃ us : List Value, PRels k l us ∧ us.length = rs.length ∧ ∀ i (h : i < rs.length) (h' : i < us.length), (resOne a.tmps rs[i]).run E.P k.w = .ok us[i] k.w := by
  intro rs
  induction rs with
  | nil => intro l h; simp only [resCells, Option.some.injEq] at h; subst h; exact ⟨[], rfl, rfl, fun i h => absurd h (by simp)⟩
  | cons r rs ih =>
    intro l h
    -- one more
    have more : ∀ (p : Bool × List Cell) (l' : List (Bool × List Cell)) (u : Value), l = p :: l' → resCells σ.hp σ.fr E rs = some l' → PRel k p.1 p.2 u →
        (resOne a.tmps r).run E.P k.w = .ok u k.w →
        ∃ us : List Value, PRels k l us ∧ us.length = (r :: rs).length ∧ ∀ i (h : i < (r :: rs).length) (h' : i < us.length), (resOne a.tmps (r :: rs)[i]).run E.P k.w = .ok us[i] k.w := by
      intro p l' u hl hl' hp hr
      obtain ⟨us, g1, g2, g3⟩ := ih l' hl'
      subst hl
      refine ⟨u :: us, ⟨u, us, rfl, hp, g1⟩, by simp [g2], fun i hi hi' => ?_⟩
      cases i with
      | zero => exact hr
      | succ i => simpa using g3 i (by simpa using hi) (by simpa using hi')
    cases r with
    | tmp t =>
      simp only [resCells] at h
      have hv := hR.f.2 t
      split at h
      · rename_i c l' hc hl'
        simp only [Option.some.injEq] at h
        rw [hc] at hv
        refine more (false, [c]) l' _ h.symm hl' ?_ rfl
        refine ⟨c, rfl, ?_⟩
        rcases hv with hv | hv
        · exact Or.inl hv
        · exact Or.inr ⟨hv, cells_one hv.one⟩
      · rename_i ty x l' hc hl'
        simp only [Option.some.injEq] at h
        rw [hc] at hv
        obtain ⟨_, vs, e, hv⟩ := hv
        exact more (true, flat ty x) l' _ h.symm hl' ⟨vs, e, (flat_rel ty x _).1 hv⟩ rfl
      · rename_i cs l' hc hl'
        simp only [Option.some.injEq] at h
        rw [hc] at hv
        exact more (true, cs) l' _ h.symm hl' hv rfl
      · cases h
    | cell x t =>
      simp only [resCells] at h
      have hv := hR.f.2 x
      split at h
      · rename_i n off l' hc hl'
        split at h
        · rename_i cs hcs
          cases hsp : span cs off (E.P.cellsOf t) with
          | none => rw [hsp] at h; cases h
          | some c =>
            rw [hsp] at h
            simp only at h
            split at h
            · rename_i hw
              simp only [Option.some.injEq] at h
              rw [hc] at hv
              rcases hv with hv | hv
              · cases hv
              · rw [← hR.hp] at hcs
                obtain ⟨B, hμ, hvB⟩ := hv.2 cs hcs
                obtain ⟨B', row, T, fz, hμ', hrow, hfz, hcr, _⟩ := hR.h.blk n _ hcs
                rw [hμ] at hμ'
                cases hμ'
                obtain ⟨h1, h2, h3⟩ := hcr.span hsp
                have hw' := hw
                simp only [wf1, Bool.and_eq_true, Bool.or_eq_true, decide_eq_true_eq] at hw'
                obtain ⟨d, hd⟩ := Option.isSome_iff_exists.1 hw'.2
                obtain ⟨u, hr, hu⟩ := run_loadVar (P := E.P) k.w t d B off row T fz hd hrow (by simpa using h3) (fun hg => by rcases hw'.1 with h1 | h1 <;> simp_all)
                refine more (aggT E.P t, c) l' u h.symm hl' ?_ ?_
                · have h1' : CRels k c (part_ row off (E.P.cellsOf t)) := by simpa [part_] using h1
                  have hlen : (part_ row off (E.P.cellsOf t)).length = E.P.cellsOf t := part_len (by simpa using h3)
                  unfold PRel
                  rw [hu]
                  cases hag : aggT E.P t with
                  | true => exact ⟨_, rfl, by simpa using h1'⟩
                  | false =>
                    have hone : E.P.cellsOf t = 1 := by rcases hw'.1 with h4 | h4 <;> simp_all
                    rw [hone] at h1' hlen ⊢
                    obtain ⟨q, hq⟩ := List.length_eq_one_iff.1 hlen
                    rw [hq] at h1' ⊢
                    obtain ⟨c', e1, g1⟩ := crels_one h1'
                    exact ⟨c', e1, Or.inr ⟨g1, cells_one g1.one⟩⟩
                · simp only [resOne, hvB, asAddr, Sem.run_bind, Sem.run_pure, Result.andThen_ok]
                  exact hr
            · cases h
        · cases h
      · cases h

end Go.Ab

/-
  FUNCTIONS: what is handed back; the theorems.
-/
set_option linter.unusedVariables false
set_option linter.unusedSimpArgs false
namespace Go.Ab
variable [Tabs]
open Go.RowKit (Below)

/-- the template of what is handed back -/
def tcsOf (own : List Nat) : Nat → Nat → List Cell → List TC
  | _, _, [] => []
  | k, nx, c :: r =>
    if own.contains k then
      match c with
      | .val (.slice e) xs => .own nx :: tcsOf own (k + 1) (nx + 1) r
      | c => .hole :: tcsOf own (k + 1) nx r
    else .hole :: tcsOf own (k + 1) nx r

def putsOf (hp : Hp) : List HAct := hp.map fun p => .put p.1 p.2

theorem ownize_fill : ∀ (own : List Nat) (cs : List Cell) (k nx : Nat), (fillCs (tcsOf own k nx cs) cs).1 = (ownize own k nx cs).1 ∧ putsOf (fillCs (tcsOf own k nx cs) cs).2.1 = (ownize own k nx cs).2.1 ∧
    (tcsOf own k nx cs).flatMap TC.owns = List.range' nx (ownize own k nx cs).2.2 ∧ (tcsOf own k nx cs).flatMap TC.refs = [] := by
  intro own cs
  induction cs with
  | nil => intro k nx; exact ⟨rfl, rfl, rfl, rfl⟩
  | cons c r ih =>
    intro k nx
    have plain : (fillCs (.hole :: tcsOf own (k + 1) nx r) (c :: r)).1 = c :: (ownize own (k + 1) nx r).1 ∧ putsOf (fillCs (.hole :: tcsOf own (k + 1) nx r) (c :: r)).2.1 = (ownize own (k + 1) nx r).2.1 ∧
        (TC.hole :: tcsOf own (k + 1) nx r).flatMap TC.owns = List.range' nx (ownize own (k + 1) nx r).2.2 ∧ (TC.hole :: tcsOf own (k + 1) nx r).flatMap TC.refs = [] := by
      obtain ⟨h1, h2, h3, h4⟩ := ih (k + 1) nx
      refine ⟨?_, ?_, ?_, ?_⟩
      · simp only [fillCs, fillC, h1]
      · simp only [fillCs, fillC, List.nil_append, h2]
      · simp only [List.flatMap_cons, TC.owns, List.nil_append, h3]
      · simp only [List.flatMap_cons, TC.refs, List.nil_append, h4]
    simp only [tcsOf, ownize]
    split
    · cases c with
      | val t x =>
       cases t with
       | slice e =>
        obtain ⟨h1, h2, h3, h4⟩ := ih (k + 1) (nx + 1)
        refine ⟨?_, ?_, ?_, ?_⟩
        · simp only [fillCs, fillC, h1]
        · simp only [fillCs, fillC, putsOf, List.map_append, List.map_cons, List.map_nil] at h2 ⊢
          rw [h2]; rfl
        · simp only [List.flatMap_cons, TC.owns, h3, List.range'_succ]; rfl
        · simp only [List.flatMap_cons, TC.refs, List.nil_append, h4]
       | _ => exact plain
      | _ => exact plain
    · exact plain

theorem acts_puts : ∀ (l hp : Hp), ((hp ++ l).map (·.1)).Nodup → acts hp (putsOf l) = hp ++ l := by
  intro l
  induction l with
  | nil => intro hp _; simp [putsOf, acts]
  | cons p r ih =>
    intro hp h
    obtain ⟨n, b⟩ := p
    have hput' : hput hp n b = hp ++ [(n, b)] := by
      have key : ∀ (hp : Hp), n ∉ hp.map (·.1) → hput hp n b = hp ++ [(n, b)] := by
        intro hp
        induction hp with
        | nil => intro _; rfl
        | cons q t iht =>
          intro hn
          obtain ⟨m, c⟩ := q
          simp only [List.map_cons, List.mem_cons, not_or] at hn
          simp only [hput, if_neg (Ne.symm hn.1), iht hn.2]
          rfl
      refine key hp fun hm => ?_
      simp only [List.map_append, List.map_cons] at h
      exact (List.nodup_append.1 h).2.2 n hm n (by simp) rfl
    show acts (hput hp n b) (putsOf r) = _
    rw [hput', ih _ (by simpa using h)]
    simp

theorem parse_its {look : Nat → Option Blk} : ∀ (t : Ty) (cs rest : List Cell) (x : t.den), parse look t cs = some (x, rest) → ∃ cs1, cs = cs1 ++ rest ∧ ∀ is ds, Its look is ds → Its look (cs1.map (fun c => (false, [c])) ++ is) (flat t x ++ ds) := by
  intro t
  induction t with
  | unit =>
    intro cs rest x h
    simp only [parse, Option.some.injEq, Prod.mk.injEq] at h
    exact ⟨[], h.2, fun is ds h => h⟩
  | pair a b iha ihb =>
    intro cs rest x h
    simp only [parse] at h
    cases h1 : parse look a cs with
    | none => rw [h1] at h; cases h
    | some p =>
      obtain ⟨y, r1⟩ := p
      rw [h1] at h
      simp only at h
      cases h2 : parse look b r1 with
      | none => rw [h2] at h; cases h
      | some q =>
        obtain ⟨z, r2⟩ := q
        rw [h2] at h
        simp only [Option.some.injEq, Prod.mk.injEq] at h
        obtain ⟨rfl, rfl⟩ := h
        obtain ⟨c1, e1, f1⟩ := iha _ _ _ h1
        obtain ⟨c2, e2, f2⟩ := ihb _ _ _ h2
        refine ⟨c1 ++ c2, by rw [e1, e2, List.append_assoc], fun is ds hi => ?_⟩
        rw [List.map_append, List.append_assoc]
        simp only [flat, List.append_assoc]
        exact f1 _ _ (f2 _ _ hi)
  | int k =>
    intro cs rest x h
    cases cs with
    | nil => simp [parse] at h
    | cons c r =>
      simp only [parse, Option.map_eq_some_iff, Prod.mk.injEq] at h
      obtain ⟨y, hy, rfl, rfl⟩ := h
      exact ⟨[c], rfl, fun is ds hi => Its.one rfl hy hi⟩
  | bool =>
    intro cs rest x h
    cases cs with
    | nil => simp [parse] at h
    | cons c r =>
      simp only [parse, Option.map_eq_some_iff, Prod.mk.injEq] at h
      obtain ⟨y, hy, rfl, rfl⟩ := h
      exact ⟨[c], rfl, fun is ds hi => Its.one rfl hy hi⟩
  | str =>
    intro cs rest x h
    cases cs with
    | nil => simp [parse] at h
    | cons c r =>
      simp only [parse, Option.map_eq_some_iff, Prod.mk.injEq] at h
      obtain ⟨y, hy, rfl, rfl⟩ := h
      exact ⟨[c], rfl, fun is ds hi => Its.one rfl hy hi⟩
  | slice e _ =>
    intro cs rest x h
    cases cs with
    | nil => simp [parse] at h
    | cons c r =>
      simp only [parse, Option.map_eq_some_iff, Prod.mk.injEq] at h
      obtain ⟨y, hy, rfl, rfl⟩ := h
      exact ⟨[c], rfl, fun is ds hi => Its.one rfl hy hi⟩
  | map k v _ _ =>
    intro cs rest x h
    cases cs with
    | nil => simp [parse] at h
    | cons c r =>
      simp only [parse, Option.map_eq_some_iff, Prod.mk.injEq] at h
      obtain ⟨y, hy, rfl, rfl⟩ := h
      exact ⟨[c], rfl, fun is ds hi => Its.one rfl hy hi⟩

theorem coll_tcs {own : List Nat} : ∀ (cs fs : List Cell) (k nx : Nat), ownOK own k cs = true → cs.length = fs.length → collCs [] (tcsOf own k nx fs) cs = some ([], cs.map fun c => (false, [c])) := by
  intro cs
  induction cs with
  | nil =>
    intro fs k nx _ hl
    cases fs with
    | nil => rfl
    | cons f r => simp at hl
  | cons c cs ih =>
    intro fs k nx ho hl
    cases fs with
    | nil => simp at hl
    | cons f fs =>
      simp only [ownOK, Bool.and_eq_true] at ho
      obtain ⟨h1, h2⟩ := ho
      have hl' : cs.length = fs.length := by simpa using hl
      have plain : ∀ nx, collCs [] (.hole :: tcsOf own (k + 1) nx fs) (c :: cs) = some ([], (c :: cs).map fun c => (false, [c])) := by
        intro nx
        simp only [collCs, collC, ih fs (k + 1) nx h2 hl']
        rfl
      simp only [tcsOf]
      split
      · rename_i hc
        rw [if_pos hc] at h1
        split
        · rename_i e xs
          have : collC [] (.own nx) c = some ([], [(false, [c])]) := by
            cases c <;> first | rfl | (simp at h1)
          simp only [collCs, this, ih fs (k + 1) (nx + 1) h2 hl']
          rfl
        · exact plain nx
      · exact plain nx

end Go.Ab

/-
  FUNCTIONS: the theorems.
-/
set_option linter.unusedVariables false
set_option linter.unusedSimpArgs false
namespace Go.Ab
variable [Tabs]
open Go.RowKit (Below)

/-- values in the shapes that they have -/
theorem prels_deal {k kc : Kx} : ∀ {ps : List (Bool × List Cell)} {vs : List Value} {cs : List Cell}, PRels k ps vs → (∀ p ∈ ps, ∀ c ∈ p.2, c ≠ .undef) → CRels kc cs (vs.flatMap fun v => v.cells.toList) → PRels kc (deal (ps.map fun p => (p.1, p.2.length)) cs) vs := by
  intro ps
  induction ps with
  | nil => intro vs cs h _ _; have h : vs = [] := h; subst h; rfl
  | cons p ps ih =>
    intro vs cs h hn hc
    obtain ⟨v, r, e, h1, h2⟩ := h
    subst e
    have hsz : p.2.length = v.cells.size := by
      unfold PRel at h1
      cases hp : p.1 with
      | true => rw [hp] at h1; obtain ⟨us, e, hv⟩ := h1; subst e; rw [hv.len]; simp [Value.cells]
      | false =>
        rw [hp] at h1
        obtain ⟨c, e, h1⟩ := h1
        rcases h1 with h1 | h1
        · exact absurd h1 (hn p (by simp) c (by rw [e]; simp))
        · rw [e, h1.2]; rfl
    simp only [List.map_cons, deal]
    simp only [List.flatMap_cons] at hc
    have ht := hc.take p.2.length
    have hd := hc.drop p.2.length
    rw [hsz] at ht hd
    rw [List.take_left' (by simp)] at ht
    rw [List.drop_left' (by simp)] at hd
    rw [hsz]
    refine ⟨v, r, rfl, ?_, ih h2 (fun q hq => hn q (by simp [hq])) hd⟩
    unfold PRel at h1 ⊢
    cases hp : p.1 with
    | true => rw [hp] at h1; obtain ⟨us, e, hv⟩ := h1; subst e; exact ⟨us, rfl, ht⟩
    | false =>
      rw [hp] at h1
      obtain ⟨c, e, h1⟩ := h1
      rcases h1 with h1 | h1
      · exact absurd h1 (hn p (by simp) c (by rw [e]; simp))
      · have e1 := h1.2
        rw [e1] at ht ⊢
        obtain ⟨c', e2, g1⟩ := crels_one ht
        exact ⟨c', e2, Or.inr ⟨g1, rfl⟩⟩

theorem prels_cells {k : Kx} : ∀ {ps : List (Bool × List Cell)} {vs : List Value}, PRels k ps vs → (∀ p ∈ ps, ∀ c ∈ p.2, c ≠ .undef) → CRels k (ps.flatMap fun p => p.2) (vs.flatMap fun v => v.cells.toList) := by
  intro ps
  induction ps with
  | nil => intro vs h _; have h : vs = [] := h; subst h; rfl
  | cons p ps ih =>
    intro vs h hn
    obtain ⟨v, r, e, h1, h2⟩ := h
    subst e
    refine CRels.append ?_ (ih h2 fun q hq => hn q (by simp [hq]))
    unfold PRel at h1
    cases hp : p.1 with
    | true => rw [hp] at h1; obtain ⟨us, e, hv⟩ := h1; subst e; exact hv
    | false =>
      rw [hp] at h1
      obtain ⟨c, e, h1⟩ := h1
      rcases h1 with h1 | h1
      · exact absurd h1 (hn p (by simp) c (by rw [e]; simp))
      · show CRels k p.2 v.cells.toList
        rw [e, h1.2]; exact ⟨v, [], rfl, h1.1, rfl⟩

theorem its_known {look : Nat → Option Blk} : ∀ {cs : List Cell} {ds : List Cell}, Its look (cs.map fun c => (false, [c])) ds → ∀ c ∈ cs, c ≠ .undef := by
  intro cs
  induction cs with
  | nil => intro ds _ c hc; cases hc
  | cons d r ih =>
    intro ds h c hc
    cases h with
    | one ht hx hr =>
      rename_i t x ds'
      rcases List.mem_cons.1 hc with e | hc
      · subst e
        rintro rfl
        cases t <;> simp [cellAs] at hx
      · exact ih hr c hc

/-- What is handed back, put together. -/
theorem res_own {N : Nat} {k : Kx} (hk : HRel N k) {own : List Nat} {t : Ty} {r : t.den} {cs : List Cell} {vs : List Value} (hc : CRels k cs vs) (ho : ownOK own 0 cs = true) (hnd : nodupB (cs.flatMap ownOf) = true) (hp : parseAll (hget k.hp) t cs = some r) (nx : Nat) :
    ∃ k' : Kx, k'.w = k.w ∧ k'.hp = acts [] (ownize own 0 nx (flat t r)).2.1 ∧ k'.nx = nx + (ownize own 0 nx (flat t r)).2.2 ∧ k'.X = k.X ∧ HRel N k' ∧ CRels k' (ownize own 0 nx (flat t r)).1 vs ∧ (k'.U = fun n => n < nx + (ownize own 0 nx (flat t r)).2.2) ∧ ∀ B, k'.O B → k.O B := by
  unfold parseAll at hp
  cases h1 : parse (hget k.hp) t cs with
  | none => rw [h1] at hp; cases hp
  | some p =>
    obtain ⟨y, rest⟩ := p
    rw [h1] at hp
    cases rest with
    | cons d q => cases hp
    | nil =>
      simp only [Option.some.injEq] at hp
      subst hp
      obtain ⟨c1, e1, f1⟩ := parse_its t cs [] y h1
      rw [List.append_nil] at e1
      subst e1
      have hits := f1 [] [] Its.nil
      rw [List.append_nil, List.append_nil] at hits
      have hl : cs.length = (flat t y).length := by
        have key : ∀ {is : List Item} {ds : List Cell}, Its (hget k.hp) is ds → is.length = ds.length := by
          intro is ds h
          induction h with
          | nil => rfl
          | one _ _ _ ih => simp [ih]
          | agg _ _ _ ih => simp [ih]
        have := key hits
        simpa using this
      obtain ⟨g1, g2, g3, g4⟩ := ownize_fill own (flat t y) 0 nx
      obtain ⟨es, hs, P, _, F⟩ := fillCs_ok hk (tcsOf own 0 nx (flat t y)) cs vs [] [] _ [] (flat t y) hc (coll_tcs cs (flat t y) 0 nx ho hl) (by simpa using hits)
      have hown : ownItems (cs.map fun c => ((false, [c]) : Item)) = cs.flatMap ownOf := by
        simp [ownItems, List.flatMap_map]
      have hnames : ((tcsOf own 0 nx (flat t y)).flatMap TC.owns).Nodup := by rw [g3]; exact List.nodup_range'
      obtain ⟨k', q1, q2, q3, q4, hO, hH, hfits, _, _, hU⟩ := assemble (nx := nx + (ownize own 0 nx (flat t y)).2.2) hk P hnames (by rw [hown]; exact nodupB_iff hnd) (fun n hn => by
        rw [g3] at hn
        have := List.mem_range'_1.1 hn
        omega) (fun n hn => by rw [g4] at hn; cases hn) (fun _ _ _ _ _ _ m hm => by simp [renOf] at hm)
      refine ⟨k', q1, ?_, q3, q4, hH, ?_, hU, hO.1⟩
      · rw [q2, ← g2, acts_puts _ [] ?_]
        · rfl
        · have e2 : ((fillCs (tcsOf own 0 nx (flat t y)) (flat t y)).2.1).map (·.1) = es.map Ent.name := by
            rw [P.hp, List.map_map]
            refine List.map_congr_left fun x _ => ?_
            cases x <;> rfl
          rw [List.nil_append, e2, P.names]
          exact hnames
      · rw [← g1]
        exact F k' hfits

/-- the value that a call hands back -/
def packed (us : List Value) : Value := match us with
  | [v] => v
  | us => .tuple us.toArray

theorem run_results {P : Program} {w : World} {fn : Func} {tmps : Array Value} {us : List Value} (hl : us.length = fn.results.toList.length) (h : ∀ i (h : i < fn.results.toList.length) (h' : i < us.length), (resOne tmps fn.results.toList[i]).run P w = .ok us[i] w) :
    (results fn tmps).run P w = .ok (packed us) w := by
  have h1 := run_mapM (P := P) (w := w) (f := resOne tmps) fn.results.toList us hl.symm h
  have h2 : (fn.results.mapM (resOne tmps)).run P w = .ok us.toArray w := by
    rw [Array.mapM_eq_mapM_toList]
    simp [h1]
  have h3 : results fn tmps = (do let vs ← fn.results.mapM (resOne tmps); pure (if h : vs.size = 1 then vs[0] else .tuple vs)) := rfl
  rw [h3]
  simp only [Sem.run_bind, h2, Result.andThen_ok, Sem.run_pure]
  congr 1
  unfold packed
  match us with
  | [] => simp
  | [v] => simp
  | a :: b :: r => simp

theorem packed_res {k : Kx} {parts : List (Bool × Nat)} {cs : List Cell} {us : List Value} (h : PRels k (deal parts cs) us) (hcs : ∀ p, parts = [p] → (deal parts cs).map (·.2) = [cs]) : ARel k (mkRes parts cs) (packed us) := by
  unfold mkRes
  match parts, h, hcs with
  | [(agg, n)], h, hcs =>
    have h1 := hcs _ rfl
    simp only [deal, List.map_cons, List.map_nil, List.cons.injEq, and_true] at h1
    obtain ⟨v, r, e, g1, g2⟩ := h
    have g2 : r = [] := g2
    subst g2; subst e
    simp only at g1
    rw [h1] at g1
    exact prel_mkV g1
  | [], h, _ =>
    have h : us = [] := h
    subst h
    exact ⟨#[], rfl, rfl⟩
  | a :: b :: r, h, _ =>
    have : ∃ v1 v2 rest, us = v1 :: v2 :: rest := by
      obtain ⟨v1, r1, e1, _, h2⟩ := h
      obtain ⟨v2, r2, e2, _, _⟩ := h2
      exact ⟨v1, v2, r2, by rw [e1, e2]⟩
    obtain ⟨v1, v2, rest, e⟩ := this
    subst e
    exact ⟨_, rfl, by simpa using h⟩

end Go.Ab

/-
  FUNCTIONS: a function of pure data; a function that is run in its caller's state.
-/
set_option linter.unusedVariables false
set_option linter.unusedSimpArgs false
namespace Go.Ab
variable [Tabs]
open Go.RowKit (Below)

theorem noneK_hrel {w : World} {nx : Nat} {X : Nat → Prop} (hX : XOK w.heap.size X w) : HRel w.heap.size (noneK w nx X) :=
  ⟨fun n b h => by simp [noneK, hget] at h, fun n m b c B h => by simp [noneK, hget] at h, fun B hB => by obtain ⟨n, b, h, _⟩ := hB; simp [noneK, hget] at h, hX, fun B _ hB => by obtain ⟨n, b, h, _⟩ := hB; simp [noneK, hget] at h, fun n b h => by simp [noneK, hget] at h⟩

/-- A function of pure data does what denArgs comes to, at values that its arguments have. -/
theorem denArgs_sound {C : Ctx} (hC : CtxOK C) (hmix : C.E.P.follows .mixedOrders = true) {g : FuncId} {fn : Func} {c : Code} {h : HT} {T : TFun} (hg : C.E.P.funcs[g]? = some fn) (hn : (fn.name == "runtime.NumGoroutine") = false) (hb : fn.body = some c) (hL : LoopsOK C c h)
    (hT : ∀ (w : World) (X : Nat → Prop) (x : T.arg.den) (r : T.res.den) (vs : List Value), PRels (noneK w 0 X) (deal T.args (flat T.arg x)) vs → T.f x = some r → ∃ avs, ARels (noneK w 0 X) avs vs ∧ denArgs C fn h T avs = some r) : Sound C.E.P g T := by
  refine ⟨enters_of hg hn (by rw [hb]; rfl), fun w X nx x r vs hX hargs0 hr => ?_⟩
  obtain ⟨avs, hargs, hr⟩ := hT w X x r vs.toList hargs0 hr
  unfold denArgs at hr
  rw [hb] at hr
  simp only at hr
  rw [denC_nat hC.nat] at hr
  cases hc : codeR C c h { fr := initFr fn.ntmps (avs), hp := [], nx := 0 } with
  | none => rw [hc] at hr; cases hr
  | some p =>
    obtain ⟨e, σ1⟩ := p
    rw [hc] at hr
    simp only [bindO_some] at hr
    refine calls_of_wp_marks hg hb ?_
    have hH := noneK_hrel (nx := 0) hX
    have hF := init_rel (n := fn.ntmps) hargs
    have hR0 : Rel w.heap.size (noneK w 0 X) { fr := initFr fn.ntmps (avs), hp := [], nx := 0 } (noneK w 0 X) { tmps := vs ++ Array.replicate (fn.ntmps - vs.size) undef, defers := [] } :=
      ⟨⟨rfl, rfl, hH, hF, Ext.refl _, Nat.le_refl _, Below.refl _ _, Marks.nil _ _ _⟩, fun n hn => hn⟩
    have hcs := code_sound hC hmix (k0 := noneK w 0 X) (fun n hn => absurd hn (Nat.not_lt_zero n)) c h hL none (.inl rfl) _ σ1 e (noneK w 0 X) _ hc hR0
    refine Go.Code.wpIn_mono ?_ hcs
    intro e' a0 w' hpost
    obtain ⟨he', k2, hw1, hR2, hW1, hS1⟩ := hpost
    subst he'; subst hw1
    obtain ⟨Bs, hds, hnd0, hBs⟩ := hR2.defers
    have goal : (∀ (k1 : Kx) (a' : Act), Rel w.heap.size (noneK w 0 X) σ1 k1 a' → a'.tmps = a0.tmps → ∃ v, (results fn a'.tmps).run C.E.P k1.w = .ok v k1.w ∧ ∃ v' μ, Ending.returned v = .returned v' ∧ Below w.heap.size w k1.w ∧
        HRel w.heap.size ⟨k1.w, acts [] (ownize T.own 0 nx (flat T.res r)).2.1, μ, nx + (ownize T.own 0 nx (flat T.res r)).2.2, X, fun q => q < nx + (ownize T.own 0 nx (flat T.res r)).2.2⟩ ∧
        ARel ⟨k1.w, acts [] (ownize T.own 0 nx (flat T.res r)).2.1, μ, nx + (ownize T.own 0 nx (flat T.res r)).2.2, X, fun q => q < nx + (ownize T.own 0 nx (flat T.res r)).2.2⟩ (mkRes T.parts (ownize T.own 0 nx (flat T.res r)).1) v') →
        LeavesInM Fence.wide 0 C.E.P fn a0.tmps (fun e w' => ∃ v μ, e = .returned v ∧ Below w.heap.size w w' ∧
      HRel w.heap.size ⟨w', acts [] (ownize T.own 0 nx (flat T.res r)).2.1, μ, nx + (ownize T.own 0 nx (flat T.res r)).2.2, X, fun q => q < nx + (ownize T.own 0 nx (flat T.res r)).2.2⟩ ∧
      ARel ⟨w', acts [] (ownize T.own 0 nx (flat T.res r)).2.1, μ, nx + (ownize T.own 0 nx (flat T.res r)).2.2, X, fun q => q < nx + (ownize T.own 0 nx (flat T.res r)).2.2⟩ (mkRes T.parts (ownize T.own 0 nx (flat T.res r)).1) v) a0.defers .returning k2.w := by
      intro hg
      rw [hds]
      refine leaves_marks Bs k2.w hnd0 (fun B hB => (hBs B hB).2.2.2) fun w' hT => ?_
      exact hg (k2.on w') { a0 with defers := [] } (hR2.took hds hBs hT) rfl
    have fin : finish C.E fn.results.toList T σ1 = some r → ∀ (k1 : Kx) (a' : Act), Rel w.heap.size (noneK w 0 X) σ1 k1 a' → a'.tmps = a0.tmps → ∃ v, (results fn a'.tmps).run C.E.P k1.w = .ok v k1.w ∧ ∃ v' μ, Ending.returned v = .returned v' ∧ Below w.heap.size w k1.w ∧
        HRel w.heap.size ⟨k1.w, acts [] (ownize T.own 0 nx (flat T.res r)).2.1, μ, nx + (ownize T.own 0 nx (flat T.res r)).2.2, X, fun q => q < nx + (ownize T.own 0 nx (flat T.res r)).2.2⟩ ∧
        ARel ⟨k1.w, acts [] (ownize T.own 0 nx (flat T.res r)).2.1, μ, nx + (ownize T.own 0 nx (flat T.res r)).2.2, X, fun q => q < nx + (ownize T.own 0 nx (flat T.res r)).2.2⟩ (mkRes T.parts (ownize T.own 0 nx (flat T.res r)).1) v' := by
      intro hf k1 a' hR1 ht
      unfold finish at hf
      cases hrc : resCells σ1.hp σ1.fr C.E fn.results.toList with
      | none => rw [hrc] at hf; cases hf
      | some l =>
        rw [hrc] at hf
        simp only at hf
        split at hf
        · rename_i hgd
          simp only [Bool.and_eq_true, decide_eq_true_eq] at hgd
          obtain ⟨⟨ho, hnd⟩, hsh⟩ := hgd
          obtain ⟨us, p1, p2, p3⟩ := resCells_rel hR1 fn.results.toList l hrc
          rw [← hR1.hp] at hf
          have hkn : ∀ p ∈ l, ∀ c ∈ p.2, c ≠ .undef := by
            unfold parseAll at hf
            cases hps : parse (hget k1.hp) T.res (l.flatMap fun p => p.2) with
            | none => rw [hps] at hf; cases hf
            | some q =>
              obtain ⟨y, rest⟩ := q
              rw [hps] at hf
              cases rest with
              | cons d q => cases hf
              | nil =>
                obtain ⟨c1, e1, f1⟩ := parse_its T.res _ [] y hps
                rw [List.append_nil] at e1
                have hits := f1 [] [] Its.nil
                rw [List.append_nil, List.append_nil, ← e1] at hits
                intro p hp c hc
                exact its_known hits c (List.mem_flatMap.2 ⟨p, hp, hc⟩)
          have hcells := prels_cells p1 hkn
          obtain ⟨k', q1, q2, q3, q4, q5, q6, q7, _⟩ := res_own hR1.h hcells ho hnd hf nx
          have hdeal := prels_deal p1 hkn q6
          rw [hsh] at hdeal
          have hX' : k'.X = X := by rw [q4, hR1.ext.x]; rfl
          have hk' : k' = ⟨k1.w, acts [] (ownize T.own 0 nx (flat T.res r)).2.1, k'.μ, nx + (ownize T.own 0 nx (flat T.res r)).2.2, X, fun q => q < nx + (ownize T.own 0 nx (flat T.res r)).2.2⟩ := by
            cases k'
            simp only at q1 q2 q3 hX' q7
            subst q1; subst q2; subst q3; subst hX'; subst q7
            rfl
          refine ⟨packed us, run_results p2 p3, packed us, k'.μ, rfl, hR1.below, by rw [← hk']; exact q5, ?_⟩
          rw [← hk']
          refine packed_res hdeal fun p hp => ?_
          rw [hp]
          simp only [deal, List.map_cons, List.map_nil]
          have hlen : (ownize T.own 0 nx (flat T.res r)).1.length = p.2 := by
            have h1 := q6.len
            rw [h1, ← hcells.len]
            have h2 : l.map (fun p => (p.1, p.2.length)) = [p] := by rw [hsh, hp]
            match l, h2 with
            | [q], h2 =>
              simp only [List.map_cons, List.map_nil, List.cons.injEq, and_true] at h2
              rw [← h2]; simp
          rw [List.take_of_length_le (by omega)]
        · cases hf
    cases e with
    | normal => exact goal (fin hr)
    | ret => exact goal (fin hr)
    | exit n => cases hr

/-- A function of pure data does what denFun comes to. -/
theorem denFun_sound {C : Ctx} (hC : CtxOK C) (hmix : C.E.P.follows .mixedOrders = true) {g : FuncId} {fn : Func} {c : Code} {h : HT} {T : TFun} (hg : C.E.P.funcs[g]? = some fn) (hn : (fn.name == "runtime.NumGoroutine") = false) (hb : fn.body = some c) (hL : LoopsOK C c h)
    (hT : ∀ a, T.f a = denFun C fn h T a) : Sound C.E.P g T := by
  refine denArgs_sound hC hmix hg hn hb hL fun w X x r vs hargs hr => ⟨argVs T.args (flat T.arg x), ?_, by rw [← hr, hT]; rfl⟩
  have := prels_arels hargs
  rw [← argVs_deal] at this
  exact this

/-- A function of one slice that asks whether it is nil. -/
theorem denNil_sound {C : Ctx} (hC : CtxOK C) (hmix : C.E.P.follows .mixedOrders = true) {g : FuncId} {fn : Func} {c : Code} {h : HT} {e : Ty} {res : Ty} {parts : List (Bool × Nat)} {own : List Nat} {f : List e.den → Option res.den} (hg : C.E.P.funcs[g]? = some fn) (hn : (fn.name == "runtime.NumGoroutine") = false) (hb : fn.body = some c) (hL : LoopsOK C c h)
    (hF : ∀ a, denArgs C fn h ⟨.slice e, res, [(false, 1)], parts, own, f⟩ [.one (.nq false e a)] = f a) (hN : denArgs C fn h ⟨.slice e, res, [(false, 1)], parts, own, f⟩ [.one (.nq true e [])] = f []) : Sound C.E.P g ⟨.slice e, res, [(false, 1)], parts, own, f⟩ := by
  refine denArgs_sound hC hmix hg hn hb hL fun w X x r vs hargs hr => ?_
  have x_ : List e.den := x
  obtain ⟨v, q, e1, h1, h2⟩ := hargs
  have h2 : q = [] := h2
  subst h2; subst e1
  obtain ⟨d, h3, h4⟩ := h1
  simp only [flat, List.take_succ_cons, List.take_zero, List.cons.injEq, and_true] at h3
  subst h3
  have h5 : VRel w (noneK w 0 X).O (.slice e) x [v] := by
    rcases h4 with h4 | h4
    · cases h4
    · exact h4.1
  obtain ⟨a, cap, h6, h7⟩ := id h5
  simp only [List.cons.injEq, and_true] at h6
  cases a with
  | some b =>
    refine ⟨[.one (.nq false e x)], ⟨v, [], rfl, Or.inr ⟨h5, _, _, _, h6, rfl⟩, rfl⟩, ?_⟩
    exact (hF x).trans hr
  | none =>
    have hx : x = [] := by
      rcases Classical.em (x = []) with h | h
      · exact h
      · obtain ⟨B, o, row, E, fz, h8, _⟩ := h7.2.2 h
        cases h8
    refine ⟨[.one (.nq true e [])], ⟨v, [], rfl, Or.inr ⟨by rw [← hx]; exact h5, _, _, _, h6, rfl⟩, rfl⟩, ?_⟩
    rw [hN, ← hr, hx]

/-- A function that is run in its caller's state does what 'inl' comes to. -/
theorem inl_sound {C : Ctx} (hC : CtxOK C) (hmix : C.E.P.follows .mixedOrders = true) {g : FuncId} {fn : Func} {c : Code} {h : HT} {J : InlSum} (hg : C.E.P.funcs[g]? = some fn) (hn : (fn.name == "runtime.NumGoroutine") = false) (hb : fn.body = some c) (hL : LoopsOK C c h)
    (hJ : ∀ as hp nx, J.run as hp nx (fun v h n => some (v, h, n)) none = (inl C fn h).run as hp nx (fun v h n => some (v, h, n)) none) : SoundIn C.E.P g J := by
  refine ⟨enters_of hg hn (by rw [hb]; rfl), fun N k as vs v hp' nx' hH hN hargs hU hr => ?_⟩
  rw [hJ] at hr
  simp only [inl, hb] at hr
  cases hlo : decide (k.nx ≤ C.lo) with
  | false => rw [hlo] at hr; cases hr
  | true =>
    rw [hlo] at hr
    simp only [gate_true] at hr
    simp only [decide_eq_true_eq] at hlo
    rw [denC_nat hC.nat] at hr
    cases hc : codeR C c h { fr := initFr fn.ntmps as, hp := k.hp, nx := k.nx } with
    | none => rw [hc] at hr; cases hr
    | some p =>
      obtain ⟨e, σ1⟩ := p
      rw [hc] at hr
      simp only [bindO_some] at hr
      refine calls_of_wp_marks hg hb ?_
      have hR0 : Rel N k { fr := initFr fn.ntmps as, hp := k.hp, nx := k.nx } k { tmps := vs ++ Array.replicate (fn.ntmps - vs.size) undef, defers := [] } :=
        ⟨⟨rfl, rfl, hH, init_rel hargs fn.ntmps, Ext.refl _, hN, Below.refl _ _, Marks.nil _ _ _⟩, hU⟩
      have hcs := code_sound hC hmix (k0 := k) (fun n hn => Nat.lt_of_lt_of_le (hU n hn) hlo) c h hL none (.inl rfl) _ σ1 e k _ hc hR0
      refine Go.Code.wpIn_mono ?_ hcs
      intro e' a0 w' hpost
      obtain ⟨he', k2, hw1, hR2, hW1, hS1⟩ := hpost
      subst he'; subst hw1
      obtain ⟨Bs, hds, hnd0, hBs⟩ := hR2.defers
      have goal : (∀ (k1 : Kx) (a' : Act), Rel N k σ1 k1 a' → a'.tmps = a0.tmps → ∃ u, (results fn a'.tmps).run C.E.P k1.w = .ok u k1.w ∧ ∃ u' k', Ending.returned u = .returned u' ∧ k'.w = k1.w ∧ k'.hp = hp' ∧ k'.nx = nx' ∧ HRel N k' ∧ Ext k k' ∧ Below N k.w k'.w ∧ ARel k' v u' ∧ ∀ n, k'.U n → n < k'.nx) →
          LeavesInM Fence.wide 0 C.E.P fn a0.tmps (fun e w' => ∃ u k', e = .returned u ∧ k'.w = w' ∧ k'.hp = hp' ∧ k'.nx = nx' ∧ HRel N k' ∧ Ext k k' ∧ Below N k.w k'.w ∧ ARel k' v u ∧ ∀ n, k'.U n → n < k'.nx) a0.defers .returning k2.w := by
        intro hg
        rw [hds]
        refine leaves_marks Bs k2.w hnd0 (fun B hB => (hBs B hB).2.2.2) fun w' hT => ?_
        exact hg (k2.on w') { a0 with defers := [] } (hR2.took hds hBs hT) rfl
      have fin : (match resCells σ1.hp σ1.fr C.E fn.results.toList with | some l => some (mkTup l, σ1.hp, σ1.nx) | none => none) = some (v, hp', nx') →
          ∀ (k1 : Kx) (a' : Act), Rel N k σ1 k1 a' → a'.tmps = a0.tmps → ∃ u, (results fn a'.tmps).run C.E.P k1.w = .ok u k1.w ∧ ∃ u' k', Ending.returned u = .returned u' ∧ k'.w = k1.w ∧ k'.hp = hp' ∧ k'.nx = nx' ∧ HRel N k' ∧ Ext k k' ∧ Below N k.w k'.w ∧ ARel k' v u' ∧ ∀ n, k'.U n → n < k'.nx := by
        intro hf k1 a' hR1 ht
        cases hrc : resCells σ1.hp σ1.fr C.E fn.results.toList with
        | none => rw [hrc] at hf; cases hf
        | some l =>
          rw [hrc] at hf
          simp only [Option.some.injEq, Prod.mk.injEq] at hf
          obtain ⟨rfl, rfl, rfl⟩ := hf
          obtain ⟨us, p1, p2, p3⟩ := resCells_rel hR1 fn.results.toList l hrc
          refine ⟨packed us, run_results p2 p3, packed us, k1, rfl, rfl, hR1.hp, hR1.nx, hR1.h, hR1.ext, hR1.below, ?_, fun n hn => by rw [hR1.nx]; exact hR1.u n hn⟩
          unfold mkTup packed
          match l, us, p1 with
          | [], us, p1 => have p1 : us = [] := p1; subst p1; exact ⟨#[], rfl, rfl⟩
          | [(agg, cs)], us, p1 =>
            obtain ⟨u, r, e1, g1, g2⟩ := p1
            have g2 : r = [] := g2
            subst g2; subst e1
            exact prel_mkV g1
          | a :: b :: r, us, p1 =>
            have : ∃ v1 v2 rest, us = v1 :: v2 :: rest := by
              obtain ⟨v1, r1, e1, _, h2⟩ := p1
              obtain ⟨v2, r2, e2, _, _⟩ := h2
              exact ⟨v1, v2, r2, by rw [e1, e2]⟩
            obtain ⟨v1, v2, rest, e⟩ := this
            subst e
            exact ⟨_, rfl, by simpa using p1⟩
      cases e with
      | normal => exact goal (fin hr)
      | ret => exact goal (fin hr)
      | exit n => cases hr

end Go.Ab

/-
  A METHOD, whose first argument points to a struct of its caller's own, does what 'denM' comes to.
-/
set_option linter.unusedVariables false
set_option linter.unusedSimpArgs false
namespace Go.Ab
variable [Tabs]
open Go.RowKit (Below)

/-- the world in which a method begins: the struct lies in the block B -/
def startM (w : World) (Y : Nat → Prop) (B : Nat) (cs : List Cell) : Kx := ⟨w, [(0, .var cs)], fun _ => .at_ B 0 0, 1, fun C => Y C ∧ C ≠ B, fun n => n < 1⟩

section
variable {N : Nat} {w : World} {Y : Nat → Prop} {B : Nat} {t : Ty} {x : t.den} {row : Array Value} {E : TypeId} {fz : Nat × Nat}

theorem startM_own {cs : List Cell} (C : Nat) : (startM w Y B cs).Own C ↔ C = B := by
  constructor
  · rintro ⟨n, b, h1, h2⟩
    have h2 : some B = some C := h2
    exact (Option.some.inj h2).symm
  · rintro rfl
    exact ⟨0, .var cs, rfl, rfl⟩

theorem startM_O {cs : List Cell} (hY : Y B) (C : Nat) : (startM w Y B cs).O C ↔ Y C := by
  constructor
  · rintro (h | h)
    · exact h.1
    · rw [startM_own] at h; rw [h]; exact hY
  · intro h
    by_cases hC : C = B
    · exact Or.inr ((startM_own C).2 hC)
    · exact Or.inl ⟨h, hC⟩

theorem startM_hrel (hN : N ≤ B) (hY : Y B) (hYc : XOK N Y w) (hb : w.heap[B]? = some (.cells row E fz)) (hu : Unfrozen row fz) (hv : VRel w Y t x row.toList) : HRel N (startM w Y B (flat t x)) where
  blk := by
    intro n b h
    have h : hget [(0, Blk.var (flat t x))] n = some b := h
    simp only [hget] at h
    split at h
    · simp only [Option.some.injEq] at h
      subst h
      refine ⟨B, row, E, fz, rfl, hb, hu, (flat_rel t x _).1 ?_, .of (noSelf_flat t x)⟩
      exact VRel.mono (fun _ _ _ => rfl) (fun C hC _ => (startM_O hY C).1 hC) _ _ _ hv
    · cases h
  inj := by
    intro n m b c C h1 h2 _ _
    have h1 : hget [(0, Blk.var (flat t x))] n = some b := h1
    have h2 : hget [(0, Blk.var (flat t x))] m = some c := h2
    simp only [hget] at h1 h2
    split at h1
    · split at h2
      · omega
      · cases h2
    · cases h1
  low := by
    intro C hC
    rw [startM_own] at hC
    subst hC
    exact ⟨hN, heap_lt hb⟩
  xlow := ⟨fun C hC => hYc.1 C hC.1, hYc.2⟩
  xown := fun C hC ho => hC.2 ((startM_own C).1 ho)
  names := by
    intro n b h
    have h : hget [(0, Blk.var (flat t x))] n = some b := h
    simp only [hget] at h
    split at h
    · show n < 1; omega
    · cases h
end

/-- A method does what denM comes to. -/
theorem denM_sound {C : Ctx} (hC : CtxOK C) (hlo : 1 ≤ C.lo) (hmix : C.E.P.follows .mixedOrders = true) {g : FuncId} {fn : Func} {c : Code} {h : HT} {M : MFun} (hg : C.E.P.funcs[g]? = some fn) (hn : (fn.name == "runtime.NumGoroutine") = false) (hb : fn.body = some c) (hL : LoopsOK C c h)
    (hT : ∀ a, M.f a = denM C fn h M a) : SoundM C.E.P g M := by
  refine ⟨enters_of hg hn (by rw [hb]; rfl), fun N w Y B nx x ar r y vs row E fz hN hY hYc hrow hu hcont hargs hr => ?_⟩
  rw [hT] at hr
  unfold denM at hr
  rw [hb] at hr
  simp only at hr
  rw [denC_nat hC.nat] at hr
  cases hc : codeR C c h { fr := initFr fn.ntmps (.one (.ptr 0 0) :: argVs M.args (flat M.arg ar)), hp := [(0, .var (flat M.cont x))], nx := 1 } with
  | none => rw [hc] at hr; cases hr
  | some p =>
    obtain ⟨e, σ1⟩ := p
    rw [hc] at hr
    simp only [bindO_some] at hr
    refine calls_of_wp_marks hg hb ?_
    have hH := startM_hrel hN hY hYc hrow hu hcont
    have hsize : N ≤ w.heap.size := Nat.le_trans hN (Nat.le_of_lt (heap_lt hrow))
    have hargs2 : ARels (startM w Y B (flat M.cont x)) (.one (.ptr 0 0) :: argVs M.args (flat M.arg ar)) (#[Value.pointer (some ⟨B, 0, none⟩)] ++ vs).toList := by
      have h1 : PRels (startM w Y B (flat M.cont x)) (deal M.args (flat M.arg ar)) vs.toList := PRels.map (fun p hp c hc v hv => by
        have hval := (flat_vals M.arg ar).1 c (deal_mem _ _ p hp c hc)
        cases c with
        | val t z => exact VRel.mono (fun _ _ _ => rfl) (fun D hD _ => (noneK_O w 0 Y D).2 ((startM_O hY D).1 hD)) _ _ _ hv
        | _ => cases hval) hargs
      have h2 := prels_arels h1
      rw [← argVs_deal] at h2
      rw [Array.toList_append]
      exact ⟨_, _, rfl, Or.inr ⟨⟨by show 0 < 1; omega, _, rfl⟩, fun cs hcs => ⟨B, rfl, rfl⟩⟩, h2⟩
    have hR0 : Rel N (startM w Y B (flat M.cont x)) { fr := initFr fn.ntmps (.one (.ptr 0 0) :: argVs M.args (flat M.arg ar)), hp := [(0, .var (flat M.cont x))], nx := 1 } (startM w Y B (flat M.cont x)) { tmps := (#[Value.pointer (some ⟨B, 0, none⟩)] ++ vs) ++ Array.replicate (fn.ntmps - (#[Value.pointer (some ⟨B, 0, none⟩)] ++ vs).size) undef, defers := [] } :=
      ⟨⟨rfl, rfl, hH, init_rel hargs2 fn.ntmps, Ext.refl _, hsize, Below.refl _ _, Marks.nil _ _ _⟩, fun n hn => hn⟩
    have hcs := code_sound hC hmix (k0 := startM w Y B (flat M.cont x)) (fun n hn => Nat.lt_of_lt_of_le hn hlo) c h hL none (.inl rfl) _ σ1 e (startM w Y B (flat M.cont x)) _ hc hR0
    refine Go.Code.wpIn_mono ?_ hcs
    intro e' a0 w' hpost
    obtain ⟨he', k2, hw1, hR2, hW1, hS1⟩ := hpost
    subst he'; subst hw1
    obtain ⟨Bs, hds, hnd0, hBs⟩ := hR2.defers
    have fin : finishM C.E fn.results.toList M σ1 = some (r, y) → ∀ (k1 : Kx) (a' : Act), Rel N (startM w Y B (flat M.cont x)) σ1 k1 a' → a'.tmps = a0.tmps → ∃ v, (results fn a'.tmps).run C.E.P k1.w = .ok v k1.w ∧
        ∃ v' μ row' E' fz', Ending.returned v = .returned v' ∧ Below N w k1.w ∧ (∀ D, D ≠ B → D < w.heap.size → k1.w.heap[D]? = w.heap[D]?) ∧ k1.w.heap[B]? = some (.cells row' E' fz') ∧ Unfrozen row' fz' ∧ HRel w.heap.size (resK k1.w Y μ M.own nx (flat M.res r)) ∧
          VRel k1.w (resK k1.w Y μ M.own nx (flat M.res r)).O M.cont y row'.toList ∧ ARel (resK k1.w Y μ M.own nx (flat M.res r)) (mkRes M.parts (ownize M.own 0 nx (flat M.res r)).1) v' := by
      intro hf k1 a' hR1 ht
      unfold finishM at hf
      cases hrc : resCells σ1.hp σ1.fr C.E fn.results.toList with
      | none => rw [hrc] at hf; cases hf
      | some l =>
        cases hds0 : hget σ1.hp 0 with
        | none => rw [hrc, hds0] at hf; cases hf
        | some b0 =>
          cases b0 with
          | arr e xs => rw [hrc, hds0] at hf; cases hf
          | map kt vt xs => rw [hrc, hds0] at hf; cases hf
          | var ds =>
            rw [hrc, hds0] at hf
            simp only at hf
            split at hf
            · rename_i hgd
              simp only [Bool.and_eq_true, decide_eq_true_eq, List.isEmpty_iff, Bool.not_eq_true'] at hgd
              obtain ⟨⟨⟨⟨ho, hnd⟩, hsh⟩, hplain⟩, hno0⟩ := hgd
              split at hf
              · rename_i r' y' hpr hpy
                simp only [Option.some.injEq, Prod.mk.injEq] at hf
                obtain ⟨rfl, rfl⟩ := hf
                obtain ⟨us, p1, p2, p3⟩ := resCells_rel hR1 fn.results.toList l hrc
                rw [← hR1.hp] at hpr hpy hds0
                have hkn : ∀ p ∈ l, ∀ c ∈ p.2, c ≠ .undef := by
                  have hpr' := hpr
                  unfold parseAll at hpr'
                  cases hps : parse (hget k1.hp) M.res (l.flatMap fun p => p.2) with
                  | none => rw [hps] at hpr'; cases hpr'
                  | some q =>
                    obtain ⟨z, rest⟩ := q
                    rw [hps] at hpr'
                    cases rest with
                    | cons d q => cases hpr'
                    | nil =>
                      obtain ⟨c1, e1, f1⟩ := parse_its M.res _ [] z hps
                      rw [List.append_nil] at e1
                      have hits := f1 [] [] Its.nil
                      rw [List.append_nil, List.append_nil, ← e1] at hits
                      intro p hp c hc
                      exact its_known hits c (List.mem_flatMap.2 ⟨p, hp, hc⟩)
                have hcells := prels_cells p1 hkn
                -- the struct's block
                obtain ⟨cs0, _, hμ0⟩ := hR1.ext.var 0 ds (by show 0 < 1; omega) hds0
                obtain ⟨B', row', E', fz', hB', hrow', hu', hcr', htag'⟩ := hR1.h.blk 0 _ hds0
                have hBB : B' = B := by
                  rw [hμ0] at hB'
                  have hB' : Loc.at_ B 0 0 = Loc.at_ B' 0 0 := hB'
                  cases hB'
                  rfl
                subst hBB
                have hX1 : k1.X = fun C => Y C ∧ C ≠ B' := hR1.ext.x
                have hOwnB : k1.Own B' := ⟨0, _, hds0, by rw [hB']; rfl⟩
                -- without it
                let km : Kx := ⟨k1.w, hrem k1.hp 0, k1.μ, k1.nx, Y, k1.U⟩
                have hkm : ∀ n b, hget km.hp n = some b → n ≠ 0 ∧ hget k1.hp n = some b := by
                  intro n b hb
                  have hb : hget (hrem k1.hp 0) n = some b := hb
                  rw [hget_hrem] at hb
                  split at hb
                  · cases hb
                  · rename_i hne; exact ⟨hne, hb⟩
                have hkmOwn : ∀ D, km.Own D → k1.Own D ∧ D ≠ B' := by
                  rintro D ⟨n, b, g1, g2⟩
                  obtain ⟨g3, g4⟩ := hkm n b g1
                  exact ⟨⟨n, b, g4, g2⟩, fun e => g3 (hR1.h.inj n 0 b _ B' g4 hds0 (by rw [← e]; exact g2) (by rw [hB']; rfl))⟩
                have hOm : ∀ D, km.O D → k1.O D := by
                  rintro D (hD | hD)
                  · by_cases hDB : D = B'
                    · rw [hDB]; exact Or.inr hOwnB
                    · refine Or.inl ?_
                      rw [hX1]; exact ⟨hD, hDB⟩
                  · exact Or.inr (hkmOwn D hD).1
                have hsub : Sub k1 km := ⟨fun _ _ => rfl, rfl, rfl, hOm, fun n b hb => (hkm n b hb).2⟩
                have hHm : HRel w.heap.size km := by
                  refine ⟨fun n b hb => hsub.b (fun B hB hx => hR1.h.xown B hx ⟨n, b, (hkm n b hb).2, hB⟩) (hR1.h.blk n b (hkm n b hb).2), fun n m b c D g1 g2 g3 g4 => hR1.h.inj n m b c D (hkm n b g1).2 (hkm m c g2).2 g3 g4, fun D hD => ?_, ⟨fun D hD => hR1.h.cells (hOm D (Or.inl hD)), hR1.h.xlow.2.1, hYc.2.2.2, hR1.h.xlow.2.2.2⟩, fun D hD ho => ?_, fun n b hb => hR1.h.names n b (hkm n b hb).2⟩
                  · obtain ⟨g1, g2⟩ := hkmOwn D hD
                    refine ⟨?_, (hR1.h.low D g1).2⟩
                    rcases Nat.lt_or_ge D w.heap.size with hlt | hge
                    · exact absurd ((startM_own D).1 (hR1.ext.own D g1 hlt)) g2
                    · exact hge
                  · obtain ⟨g1, g2⟩ := hkmOwn D ho
                    exact hR1.h.xown D (by rw [hX1]; exact ⟨hD, g2⟩) g1
                have hprm : parseAll (hget km.hp) M.res (l.flatMap fun p => p.2) = some r' := by
                  rw [← hpr]
                  refine parseAll_look fun c hc n hn => ?_
                  show hget (hrem k1.hp 0) n = hget k1.hp n
                  rw [hget_hrem, if_neg]
                  intro e
                  subst e
                  have : ((l.flatMap fun p => p.2).flatMap ownOf).contains 0 = true := List.contains_iff_mem.2 (List.mem_flatMap.2 ⟨c, hc, hn⟩)
                  rw [hno0] at this
                  cases this
                obtain ⟨k', q1, q2, q3, q4, q5, q6, q7, q8⟩ := res_own hHm (hsub.cs hcells) ho hnd hprm nx
                have hdeal := prels_deal p1 hkn q6
                rw [hsh] at hdeal
                have hk' : k' = resK k1.w Y k'.μ M.own nx (flat M.res r') := by
                  unfold resK
                  cases k'
                  simp only at q1 q2 q3 q4 q7
                  subst q1; subst q2; subst q3; subst q4; subst q7
                  rfl
                refine ⟨packed us, run_results p2 p3, packed us, k'.μ, row', E', fz', rfl, hR1.below, fun D hD hlt => hR1.ext.same D (fun ho => hD ((startM_own D).1 ho)) hlt, hrow', hu', by rw [← hk']; exact q5, ?_, ?_⟩
                · rw [← hk']
                  exact parseAll_sound hR1.h (fun D hD => hOm D (q8 D hD)) hcr' hpy fun c hc n hn => by
                    have : n ∈ ds.flatMap namesOfCell := List.mem_flatMap.2 ⟨c, hc, ownOf_names hn⟩
                    rw [hplain] at this
                    cases this
                · rw [← hk']
                  refine packed_res hdeal fun p hp => ?_
                  rw [hp]
                  simp only [deal, List.map_cons, List.map_nil]
                  have hlen : (ownize M.own 0 nx (flat M.res r')).1.length = p.2 := by
                    have h1 := q6.len
                    rw [h1, ← hcells.len]
                    have h2 : l.map (fun p => (p.1, p.2.length)) = [p] := by rw [hsh, hp]
                    match l, h2 with
                    | [q], h2 =>
                      simp only [List.map_cons, List.map_nil, List.cons.injEq, and_true] at h2
                      rw [← h2]; simp
                  rw [List.take_of_length_le (by omega)]
              · cases hf
            · cases hf
    have goal : finishM C.E fn.results.toList M σ1 = some (r, y) → LeavesInM Fence.wide 0 C.E.P fn a0.tmps (fun e w' => ∃ v μ row' E' fz', e = .returned v ∧ Below N w w' ∧ (∀ D, D ≠ B → D < w.heap.size → w'.heap[D]? = w.heap[D]?) ∧
      w'.heap[B]? = some (.cells row' E' fz') ∧ Unfrozen row' fz' ∧ HRel w.heap.size (resK w' Y μ M.own nx (flat M.res r)) ∧
      VRel w' (resK w' Y μ M.own nx (flat M.res r)).O M.cont y row'.toList ∧ ARel (resK w' Y μ M.own nx (flat M.res r)) (mkRes M.parts (ownize M.own 0 nx (flat M.res r)).1) v) a0.defers .returning k2.w := by
      intro hf
      rw [hds]
      refine leaves_marks Bs k2.w hnd0 (fun B hB => (hBs B hB).2.2.2) fun w' hT => ?_
      exact fin hf (k2.on w') { a0 with defers := [] } (hR2.took hds hBs hT) rfl
    cases e with
    | normal => exact goal hr
    | ret => exact goal hr
    | exit n => cases hr

end Go.Ab
