/-
  FUNCTIONS: the theorems.
-/
import Derived.Test.YteekijpcdcpjkaaAbFun2
set_option linter.unusedVariables false
set_option linter.unusedSimpArgs false
namespace Go.Ab
open Go.RowKit (Below)

/-- values in the shapes that they have -/
theorem prels_deal {k kc : Kx} : ∀ {ps : List (Bool × List Cell)} {vs : List Value} {cs : List Cell}, PRels k ps vs → (∀ p ∈ ps, ∀ c ∈ p.2, c ≠ .undef) → CRels kc cs (vs.flatMap fun v => v.cells.toList) → PRels kc (deal (ps.map fun p => (p.1, p.2.length)) cs) vs := by
  intro ps
  induction ps with
  | nil => intro vs cs h _ _; have h : vs = [] := h; subst h; rfl
  | cons p ps ih =>
    intro vs cs h hn hc
    obtain ⟨v, r, e, h1, h2⟩ := h
    subst e
    have hsz : p.2.length = v.cells.size := by
      unfold PRel at h1
      cases hp : p.1 with
      | true => rw [hp] at h1; obtain ⟨us, e, hv⟩ := h1; subst e; rw [hv.len]; simp [Value.cells]
      | false =>
        rw [hp] at h1
        obtain ⟨c, e, h1⟩ := h1
        rcases h1 with h1 | h1
        · exact absurd h1 (hn p (by simp) c (by rw [e]; simp))
        · rw [e, h1.2]; rfl
    simp only [List.map_cons, deal]
    simp only [List.flatMap_cons] at hc
    have ht := hc.take p.2.length
    have hd := hc.drop p.2.length
    rw [hsz] at ht hd
    rw [List.take_left' (by simp)] at ht
    rw [List.drop_left' (by simp)] at hd
    rw [hsz]
    refine ⟨v, r, rfl, ?_, ih h2 (fun q hq => hn q (by simp [hq])) hd⟩
    unfold PRel at h1 ⊢
    cases hp : p.1 with
    | true => rw [hp] at h1; obtain ⟨us, e, hv⟩ := h1; subst e; exact ⟨us, rfl, ht⟩
    | false =>
      rw [hp] at h1
      obtain ⟨c, e, h1⟩ := h1
      rcases h1 with h1 | h1
      · exact absurd h1 (hn p (by simp) c (by rw [e]; simp))
      · have e1 := h1.2
        rw [e1] at ht ⊢
        obtain ⟨c', e2, g1⟩ := crels_one ht
        exact ⟨c', e2, Or.inr ⟨g1, rfl⟩⟩

theorem prels_cells {k : Kx} : ∀ {ps : List (Bool × List Cell)} {vs : List Value}, PRels k ps vs → (∀ p ∈ ps, ∀ c ∈ p.2, c ≠ .undef) → CRels k (ps.flatMap fun p => p.2) (vs.flatMap fun v => v.cells.toList) := by
  intro ps
  induction ps with
  | nil => intro vs h _; have h : vs = [] := h; subst h; rfl
  | cons p ps ih =>
    intro vs h hn
    obtain ⟨v, r, e, h1, h2⟩ := h
    subst e
    refine CRels.append ?_ (ih h2 fun q hq => hn q (by simp [hq]))
    unfold PRel at h1
    cases hp : p.1 with
    | true => rw [hp] at h1; obtain ⟨us, e, hv⟩ := h1; subst e; exact hv
    | false =>
      rw [hp] at h1
      obtain ⟨c, e, h1⟩ := h1
      rcases h1 with h1 | h1
      · exact absurd h1 (hn p (by simp) c (by rw [e]; simp))
      · show CRels k p.2 v.cells.toList
        rw [e, h1.2]; exact ⟨v, [], rfl, h1.1, rfl⟩

theorem its_known {look : Nat → Option Blk} : ∀ {cs : List Cell} {ds : List Cell}, Its look (cs.map fun c => (false, [c])) ds → ∀ c ∈ cs, c ≠ .undef := by
  intro cs
  induction cs with
  | nil => intro ds _ c hc; cases hc
  | cons d r ih =>
    intro ds h c hc
    cases h with
    | one ht hx hr =>
      rename_i t x ds'
      rcases List.mem_cons.1 hc with e | hc
      · subst e
        rintro rfl
        cases t <;> simp [cellAs] at hx
      · exact ih hr c hc

/-- What is handed back, put together. -/
theorem res_own {N : Nat} {k : Kx} (hk : HRel N k) {own : List Nat} {t : Ty} {r : t.den} {cs : List Cell} {vs : List Value} (hc : CRels k cs vs) (ho : ownOK own 0 cs = true) (hnd : nodupB (cs.flatMap ownOf) = true) (hp : parseAll (hget k.hp) t cs = some r) (nx : Nat) :
    ∃ k' : Kx, k'.w = k.w ∧ k'.hp = acts [] (ownize own 0 nx (flat t r)).2.1 ∧ k'.nx = nx + (ownize own 0 nx (flat t r)).2.2 ∧ k'.X = k.X ∧ HRel N k' ∧ CRels k' (ownize own 0 nx (flat t r)).1 vs ∧ (k'.U = fun n => n < nx + (ownize own 0 nx (flat t r)).2.2) ∧ ∀ B, k'.O B → k.O B := by
  unfold parseAll at hp
  cases h1 : parse (hget k.hp) t cs with
  | none => rw [h1] at hp; cases hp
  | some p =>
    obtain ⟨y, rest⟩ := p
    rw [h1] at hp
    cases rest with
    | cons d q => cases hp
    | nil =>
      simp only [Option.some.injEq] at hp
      subst hp
      obtain ⟨c1, e1, f1⟩ := parse_its t cs [] y h1
      rw [List.append_nil] at e1
      subst e1
      have hits := f1 [] [] Its.nil
      rw [List.append_nil, List.append_nil] at hits
      have hl : cs.length = (flat t y).length := by
        have key : ∀ {is : List Item} {ds : List Cell}, Its (hget k.hp) is ds → is.length = ds.length := by
          intro is ds h
          induction h with
          | nil => rfl
          | one _ _ _ ih => simp [ih]
          | agg _ _ _ ih => simp [ih]
        have := key hits
        simpa using this
      obtain ⟨g1, g2, g3, g4⟩ := ownize_fill own (flat t y) 0 nx
      obtain ⟨es, hs, P, _, F⟩ := fillCs_ok hk (tcsOf own 0 nx (flat t y)) cs vs [] [] _ [] (flat t y) hc (coll_tcs cs (flat t y) 0 nx ho hl) (by simpa using hits)
      have hown : ownItems (cs.map fun c => ((false, [c]) : Item)) = cs.flatMap ownOf := by
        simp [ownItems, List.flatMap_map]
      have hnames : ((tcsOf own 0 nx (flat t y)).flatMap TC.owns).Nodup := by rw [g3]; exact List.nodup_range'
      obtain ⟨k', q1, q2, q3, q4, hO, hH, hfits, _, _, hU⟩ := assemble (nx := nx + (ownize own 0 nx (flat t y)).2.2) hk P hnames (by rw [hown]; exact nodupB_iff hnd) (fun n hn => by
        rw [g3] at hn
        have := List.mem_range'_1.1 hn
        omega) (fun n hn => by rw [g4] at hn; cases hn)
      refine ⟨k', q1, ?_, q3, q4, hH, ?_, hU, hO.1⟩
      · rw [q2, ← g2, acts_puts _ [] ?_]
        · rfl
        · have e2 : ((fillCs (tcsOf own 0 nx (flat t y)) (flat t y)).2.1).map (·.1) = es.map Ent.name := by
            rw [P.hp, List.map_map]
            refine List.map_congr_left fun x _ => ?_
            cases x <;> rfl
          rw [List.nil_append, e2, P.names]
          exact hnames
      · rw [← g1]
        exact F k' hfits

/-- the value that a call hands back -/
def packed (us : List Value) : Value := match us with
  | [v] => v
  | us => .tuple us.toArray

theorem run_results {P : Program} {w : World} {fn : Func} {tmps : Array Value} {us : List Value} (hl : us.length = fn.results.toList.length) (h : ∀ i (h : i < fn.results.toList.length) (h' : i < us.length), (resOne tmps fn.results.toList[i]).run P w = .ok us[i] w) :
    (results fn tmps).run P w = .ok (packed us) w := by
  have h1 := run_mapM (P := P) (w := w) (f := resOne tmps) fn.results.toList us hl.symm h
  have h2 : (fn.results.mapM (resOne tmps)).run P w = .ok us.toArray w := by
    rw [Array.mapM_eq_mapM_toList]
    simp [h1]
  have h3 : results fn tmps = (do let vs ← fn.results.mapM (resOne tmps); pure (if h : vs.size = 1 then vs[0] else .tuple vs)) := rfl
  rw [h3]
  simp only [Sem.run_bind, h2, Result.andThen_ok, Sem.run_pure]
  congr 1
  unfold packed
  match us with
  | [] => simp
  | [v] => simp
  | a :: b :: r => simp

theorem packed_res {k : Kx} {parts : List (Bool × Nat)} {cs : List Cell} {us : List Value} (h : PRels k (deal parts cs) us) (hcs : ∀ p, parts = [p] → (deal parts cs).map (·.2) = [cs]) : ARel k (mkRes parts cs) (packed us) := by
  unfold mkRes
  match parts, h, hcs with
  | [(agg, n)], h, hcs =>
    have h1 := hcs _ rfl
    simp only [deal, List.map_cons, List.map_nil, List.cons.injEq, and_true] at h1
    obtain ⟨v, r, e, g1, g2⟩ := h
    have g2 : r = [] := g2
    subst g2; subst e
    simp only at g1
    rw [h1] at g1
    exact prel_mkV g1
  | [], h, _ =>
    have h : us = [] := h
    subst h
    exact ⟨#[], rfl, rfl⟩
  | a :: b :: r, h, _ =>
    have : ∃ v1 v2 rest, us = v1 :: v2 :: rest := by
      obtain ⟨v1, r1, e1, _, h2⟩ := h
      obtain ⟨v2, r2, e2, _, _⟩ := h2
      exact ⟨v1, v2, r2, by rw [e1, e2]⟩
    obtain ⟨v1, v2, rest, e⟩ := this
    subst e
    exact ⟨_, rfl, by simpa using h⟩

end Go.Ab
