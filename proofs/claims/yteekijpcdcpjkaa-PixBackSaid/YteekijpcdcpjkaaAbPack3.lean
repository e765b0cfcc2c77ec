/-
  TEMPLATES: cells, values, frames, blocks.
-/
import Derived.Test.YteekijpcdcpjkaaAbPack2
set_option linter.unusedVariables false
set_option linter.unusedSimpArgs false
namespace Go.Ab
open Go.RowKit (Below)

theorem fillCs_ok {N : Nat} {k : Kx} (hk : HRel N k) : ∀ (ts : List TC) (cs : List Cell) (vs : List Value) (ρ ρ' : Ren) (l is : List Item) (ds : List Cell), CRels k cs vs → collCs ρ ts cs = some (ρ', l) → Its (hget k.hp) (l ++ is) ds →
    ∃ es hs, Part k ρ ρ' (ts.flatMap TC.owns) (ts.flatMap TC.refs) l es hs (fillCs ts ds).2.1 ∧ Its (hget k.hp) is (fillCs ts ds).2.2 ∧ ∀ k', Fits k k' ρ' es hs → CRels k' (fillCs ts ds).1 vs := by
  intro ts
  induction ts with
  | nil =>
    intro cs vs ρ ρ' l is ds hc h hi
    cases cs with
    | nil =>
      simp only [collCs, Option.some.injEq, Prod.mk.injEq] at h
      obtain ⟨rfl, rfl⟩ := h
      exact ⟨[], [], Part.nil k ρ, hi, fun k' _ => hc⟩
    | cons c r => simp [collCs] at h
  | cons t ts ih =>
    intro cs vs ρ ρ' l is ds hc h hi
    cases cs with
    | nil => simp [collCs] at h
    | cons c cs =>
      simp only [collCs] at h
      cases h1 : collC ρ t c with
      | none => rw [h1] at h; cases h
      | some p =>
        obtain ⟨ρ1, l1⟩ := p
        rw [h1] at h
        simp only at h
        cases h2 : collCs ρ1 ts cs with
        | none => rw [h2] at h; cases h
        | some q =>
          obtain ⟨ρ2, l2⟩ := q
          rw [h2] at h
          simp only [Option.some.injEq, Prod.mk.injEq] at h
          obtain ⟨rfl, rfl⟩ := h
          obtain ⟨v, r, rfl, hv, hr⟩ := hc
          rw [List.append_assoc] at hi
          obtain ⟨es1, hs1, p1, i1, f1⟩ := fillC_ok hk hv h1 hi
          obtain ⟨es2, hs2, p2, i2, f2⟩ := ih cs r ρ1 ρ2 l2 is _ hr h2 i1
          refine ⟨es1 ++ es2, hs1 ++ hs2, p1.append p2, i2, fun k' hf => ⟨v, r, rfl, f1 k' ?_, f2 k' ?_⟩⟩
          · exact hf.mono p2.grow.le (fun x hx => List.mem_append_left _ hx) (fun c hc => List.mem_append_left _ hc)
          · exact hf.mono (fun _ _ h => h) (fun x hx => List.mem_append_right _ hx) (fun c hc => List.mem_append_right _ hc)

theorem fillV_ok {N : Nat} {k : Kx} (hk : HRel N k) {t : TV} {a : AVal} {v : Value} {ρ ρ' : Ren} {l is : List Item} {ds : List Cell} (hc : ARel k a v) (h : collV ρ t a = some (ρ', l)) (hi : Its (hget k.hp) (l ++ is) ds) :
    ∃ es hs, Part k ρ ρ' (t.cells.flatMap TC.owns) (t.cells.flatMap TC.refs) l es hs (fillV t ds).2.1 ∧ Its (hget k.hp) is (fillV t ds).2.2 ∧ ∀ k', Fits k k' ρ' es hs → ARel k' (fillV t ds).1 v := by
  have agg : ∀ (ts : List TC) (cs : List Cell) (us : Array Value), v = .agg us → CRels k cs us.toList → collCs ρ ts cs = some (ρ', l) →
      ∃ es hs, Part k ρ ρ' ((TV.agg ts).cells.flatMap TC.owns) ((TV.agg ts).cells.flatMap TC.refs) l es hs (fillV (.agg ts) ds).2.1 ∧ Its (hget k.hp) is (fillV (.agg ts) ds).2.2 ∧ ∀ k', Fits k k' ρ' es hs → ARel k' (fillV (.agg ts) ds).1 v := by
    intro ts cs us hv hcs h
    obtain ⟨es, hs, p1, i1, f1⟩ := fillCs_ok hk ts cs us.toList ρ ρ' l is ds hcs h hi
    exact ⟨es, hs, p1, i1, fun k' hf => ⟨us, hv, f1 k' hf⟩⟩
  have whole : ∀ (cs : List Cell) (us : Array Value), v = .agg us → CRels k cs us.toList → ρ' = ρ → l = [(true, cs)] →
      ∃ es hs, Part k ρ ρ' (TV.pure.cells.flatMap TC.owns) (TV.pure.cells.flatMap TC.refs) l es hs (fillV .pure ds).2.1 ∧ Its (hget k.hp) is (fillV .pure ds).2.2 ∧ ∀ k', Fits k k' ρ' es hs → ARel k' (fillV .pure ds).1 v := by
    intro cs us hv hcs hρ hl
    subst hρ; subst hl
    cases hi with
    | agg ht hx hr =>
      refine ⟨[], cs, ⟨rfl, rfl, fun x hx => (by cases hx), by simp [ownItems], Grows.refl _⟩, hr, fun k' hf => ⟨ht, us, hv, ?_⟩⟩
      rw [hf.w]
      exact parseAll_sound hk hf.O hcs hx fun c hc n hn => hf.clear c hc n hn
  cases t with
  | one t =>
    cases a with
    | one c =>
      simp only [collV] at h
      rcases hc with hc | hc
      · subst hc
        cases t <;> simp only [collC] at h <;> first | (cases h; done) | skip
        · simp only [Option.some.injEq, Prod.mk.injEq] at h
          obtain ⟨rfl, rfl⟩ := h
          cases hi with
          | one ht hx hr =>
            rename_i t' x' ds'
            cases t' <;> simp [cellAs] at hx
        · simp only [Option.some.injEq, Prod.mk.injEq] at h
          obtain ⟨rfl, rfl⟩ := h
          exact ⟨[], [], Part.nil k ρ, hi, fun k' _ => Or.inl rfl⟩
      · obtain ⟨es, hs, p1, i1, f1⟩ := fillC_ok hk hc h hi
        refine ⟨es, hs, ?_, i1, fun k' hf => Or.inr (f1 k' hf)⟩
        have e1 : (TV.one t).cells.flatMap TC.owns = t.owns := by simp [TV.cells]
        have e2 : (TV.one t).cells.flatMap TC.refs = t.refs := by simp [TV.cells]
        rw [e1, e2]
        exact p1
    | _ => simp [collV] at h
  | pure =>
    cases a with
    | pure ty x =>
      simp only [collV, Option.some.injEq, Prod.mk.injEq] at h
      obtain ⟨_, us, e, hv⟩ := hc
      exact whole (flat ty x) us e ((flat_rel ty x _).1 hv) h.1.symm h.2.symm
    | agg cs =>
      simp only [collV, Option.some.injEq, Prod.mk.injEq] at h
      obtain ⟨us, e, hv⟩ := hc
      exact whole cs us e hv h.1.symm h.2.symm
    | _ => simp [collV] at h
  | agg ts =>
    cases a with
    | pure ty x =>
      simp only [collV] at h
      obtain ⟨_, us, e, hv⟩ := hc
      exact agg ts _ us e ((flat_rel ty x _).1 hv) h
    | agg cs =>
      simp only [collV] at h
      obtain ⟨us, e, hv⟩ := hc
      exact agg ts cs us e hv h
    | _ => simp [collV] at h

theorem FRel.set {k : Kx} {fr : Fr} {tmps : Array Value} (h : FRel k fr tmps) {v : AVal} {i : Nat} (hv : ARel k v (tmps.getD i undef)) : FRel k (fr.set i v) tmps := by
  refine ⟨by simp [h.1], fun j => ?_⟩
  have hj := h.2 j
  simp only [rdT, List.getD_eq_getElem?_getD, List.getElem?_set] at hj ⊢
  by_cases he : i = j
  · subst he
    rw [if_pos rfl]
    split
    · exact hv
    · exact Or.inl rfl
  · rw [if_neg he]; exact hj

theorem fillFr_ok {N : Nat} {k : Kx} (hk : HRel N k) {fr : Fr} {tmps : Array Value} (hfr : FRel k fr tmps) : ∀ (ts : List (Nat × TV)) (base : Fr) (ρ ρ' : Ren) (l is : List Item) (ds : List Cell), collFr fr ρ ts = some (ρ', l) → Its (hget k.hp) (l ++ is) ds →
    ∃ es hs, Part k ρ ρ' (ts.flatMap fun p => p.2.cells.flatMap TC.owns) (ts.flatMap fun p => p.2.cells.flatMap TC.refs) l es hs (fillFr base ts ds).2.1 ∧ Its (hget k.hp) is (fillFr base ts ds).2.2 ∧
      ∀ k', Fits k k' ρ' es hs → FRel k' base tmps → FRel k' (fillFr base ts ds).1 tmps := by
  intro ts
  induction ts with
  | nil =>
    intro base ρ ρ' l is ds h hi
    simp only [collFr, Option.some.injEq, Prod.mk.injEq] at h
    obtain ⟨rfl, rfl⟩ := h
    exact ⟨[], [], Part.nil k ρ, hi, fun k' _ hb => hb⟩
  | cons p ts ih =>
    intro base ρ ρ' l is ds h hi
    obtain ⟨i, t⟩ := p
    simp only [collFr] at h
    cases h1 : collV ρ t (rdT fr i) with
    | none => rw [h1] at h; cases h
    | some p =>
      obtain ⟨ρ1, l1⟩ := p
      rw [h1] at h
      simp only at h
      cases h2 : collFr fr ρ1 ts with
      | none => rw [h2] at h; cases h
      | some q =>
        obtain ⟨ρ2, l2⟩ := q
        rw [h2] at h
        simp only [Option.some.injEq, Prod.mk.injEq] at h
        obtain ⟨rfl, rfl⟩ := h
        rw [List.append_assoc] at hi
        obtain ⟨es1, hs1, p1, i1, f1⟩ := fillV_ok hk (hfr.2 i) h1 hi
        obtain ⟨es2, hs2, p2, i2, f2⟩ := ih (base.set i (fillV t ds).1) ρ1 ρ2 l2 is _ h2 i1
        refine ⟨es1 ++ es2, hs1 ++ hs2, p1.append p2, i2, fun k' hf hb => f2 k' ?_ (hb.set (f1 k' ?_))⟩
        · exact hf.mono (fun _ _ h => h) (fun x hx => List.mem_append_right _ hx) (fun c hc => List.mem_append_right _ hc)
        · exact hf.mono p2.grow.le (fun x hx => List.mem_append_left _ hx) (fun c hc => List.mem_append_left _ hc)

/-- A variable. -/
theorem var_part {k : Kx} {n m : Nat} {cs cs0 : List Cell} {B : Nat} {row : Array Value} {E : TypeId} {fz : Nat × Nat} {ρ ρ' : Ren} {names refs : List Nat} {l : List Item} {es : List Ent} {hs : List Cell} {hp : Hp} (p : Part k ρ ρ' names refs l es hs hp) (hρ : renOf ρ n = some m)
    (hc : hget k.hp m = some (.var cs0)) (hμ : k.μ m = .at_ B 0 0) (hrow : k.w.heap[B]? = some (.cells row E fz)) (hfz : Unfrozen row fz) (hf : ∀ k', Fits k k' ρ' es hs → CRels k' cs row.toList) :
    Part k ρ ρ' (n :: names) refs l (.var n cs m :: es) hs ((n, .var cs) :: hp) := by
  refine ⟨by rw [p.hp]; rfl, by simp only [List.map_cons, p.names]; rfl, fun x hx => ?_, p.own, p.grow⟩
  rcases List.mem_cons.1 hx with hx | hx
  · subst hx
    exact ⟨p.grow.le _ _ hρ, ⟨cs0, hc⟩, B, row, E, fz, hμ, hrow, hfz, fun k' hk' => hf k' (hk'.mono (fun _ _ h => h) (fun x hx => List.mem_cons_of_mem _ hx) (fun _ h => h))⟩
  · exact (p.good x hx).mono (fun _ _ h => h) (fun x hx => List.mem_cons_of_mem _ hx) (fun _ h => h)

theorem fillHp_ok {N : Nat} {k : Kx} (hk : HRel N k) : ∀ (vs : List (Nat × List TC)) (ρ ρ' : Ren) (l : List Item) (ds : List Cell), collHp k.hp ρ vs = some (ρ', l) → Its (hget k.hp) l ds →
    ∃ es hs, Part k ρ ρ' (vs.flatMap fun p => p.1 :: p.2.flatMap TC.owns) (vs.flatMap fun p => p.2.flatMap TC.refs) l es hs (fillHp vs ds) := by
  intro vs
  induction vs with
  | nil =>
    intro ρ ρ' l ds h hi
    simp only [collHp, Option.some.injEq, Prod.mk.injEq] at h
    obtain ⟨rfl, rfl⟩ := h
    exact ⟨[], [], Part.nil k ρ⟩
  | cons p vs ih =>
    intro ρ ρ' l ds h hi
    obtain ⟨n, ts⟩ := p
    simp only [collHp] at h
    cases hm : renOf ρ n with
    | none => rw [hm] at h; cases h
    | some m =>
      rw [hm] at h
      simp only at h
      split at h
      · rename_i cs0 hcs
        cases h1 : collCs ρ ts cs0 with
        | none => rw [h1] at h; cases h
        | some p =>
          obtain ⟨ρ1, l1⟩ := p
          rw [h1] at h
          simp only at h
          cases h2 : collHp k.hp ρ1 vs with
          | none => rw [h2] at h; cases h
          | some q =>
            obtain ⟨ρ2, l2⟩ := q
            rw [h2] at h
            simp only [Option.some.injEq, Prod.mk.injEq] at h
            obtain ⟨rfl, rfl⟩ := h
            obtain ⟨B, row, E, fz, g1, g2, g3, g4⟩ := hk.blk m _ hcs
            obtain ⟨es1, hs1, p1, i1, f1⟩ := fillCs_ok hk ts cs0 row.toList ρ ρ1 l1 l2 ds g4 h1 hi
            obtain ⟨es2, hs2, p2⟩ := ih ρ1 ρ2 l2 _ h2 i1
            have pv := var_part p1 hm hcs g1 g2 g3 f1
            exact ⟨(.var n (fillCs ts ds).1 m :: es1) ++ es2, hs1 ++ hs2, by simpa [fillHp] using pv.append p2⟩
      · cases h

/-- An entry that keeps its name. -/
def AbsE (k : Kx) : Ent → Prop
  | .arr n e xs src loc => hget k.hp n = some (.arr e xs) ∧ loc = k.μ n
  | .var n cs m => m = n

theorem fillAbs_ok {N : Nat} {k : Kx} (hk : HRel N k) : ∀ (vs : List (Nat × TB)) (ρ ρ' : Ren) (l is : List Item) (ds : List Cell), collAbs k.hp ρ vs = some (ρ', l) → Its (hget k.hp) (l ++ is) ds →
    ∃ es hs, Part k ρ ρ' (vs.flatMap fun p => p.1 :: p.2.cells.flatMap TC.owns) (vs.flatMap fun p => p.1 :: p.2.cells.flatMap TC.refs) l es hs (fillAbs vs ds).1 ∧ Its (hget k.hp) is (fillAbs vs ds).2 ∧
      ∀ x ∈ es, x.name ∈ (vs.flatMap fun p => p.2.cells.flatMap TC.owns) ∨ AbsE k x := by
  intro vs
  induction vs with
  | nil =>
    intro ρ ρ' l is ds h hi
    simp only [collAbs, Option.some.injEq, Prod.mk.injEq] at h
    obtain ⟨rfl, rfl⟩ := h
    exact ⟨[], [], Part.nil k ρ, hi, fun x hx => by cases hx⟩
  | cons p vs ih =>
    intro ρ ρ' l is ds h hi
    obtain ⟨n, b⟩ := p
    simp only [collAbs] at h
    split at h
    · rename_i e ys hn
      cases h2 : collAbs k.hp ρ vs with
      | none => rw [h2] at h; cases h
      | some q =>
        obtain ⟨ρ2, l2⟩ := q
        rw [h2] at h
        simp only [Option.some.injEq, Prod.mk.injEq] at h
        obtain ⟨rfl, rfl⟩ := h
        cases hi with
        | one ht hx hr =>
          rename_i t' x' ds'
          have hx2 : ∃ (hte : t' = .slice e), (hte ▸ x' : (Ty.slice e).den) = ys := by
            cases t' with
            | slice e2 =>
              simp only [cellAs] at hx
              split at hx
              · rename_i he
                subst he
                have hb := arrAs_eq hx
                rw [hn] at hb
                simp only [Option.some.injEq, Blk.arr.injEq, true_and] at hb
                exact ⟨rfl, (eq_of_heq hb).symm⟩
              · cases hx
            | _ => simp [cellAs] at hx
          obtain ⟨hte, hxe⟩ := hx2
          subst hte
          have hxe : x' = ys := hxe
          subst hxe
          obtain ⟨es2, hs2, p2, i2, f2⟩ := ih ρ ρ2 l2 is ds' h2 hr
          have hbr := hk.blk n _ hn
          have p1 : Part k ρ ρ [n] [n] [(false, [.own n e])] [.arr n e x' (some n) (k.μ n)] [] [(n, .arr e x')] := by
            refine ⟨rfl, rfl, fun x hx => ?_, by simp [ownItems, ownOf, Ent.src], ⟨fun _ _ h => h, fun _ _ h => Or.inl h, id⟩⟩
            simp only [List.mem_singleton] at hx
            subst hx
            refine ⟨?_, fun B hB => ⟨n, rfl, ⟨x', hn⟩, hB⟩⟩
            unfold BRel at hbr
            cases hm : k.μ n with
            | none => rw [hm] at hbr; exact hbr
            | at_ B o cap => rw [hm] at hbr; exact hbr
          refine ⟨[.arr n e x' (some n) (k.μ n)] ++ es2, [] ++ hs2, ?_, i2, fun x hx => ?_⟩
          · have := p1.append p2
            simpa [fillAbs, TB.cells] using this
          · rcases List.mem_append.1 hx with hx | hx
            · simp only [List.mem_singleton] at hx
              subst hx
              exact Or.inr ⟨hn, rfl⟩
            · refine (f2 x hx).imp (fun h => ?_) id
              simp only [List.flatMap_cons]
              exact List.mem_append_right _ h
    · rename_i ts cs0 hcs
      cases hb : bindN ρ n n with
      | none => rw [hb] at h; cases h
      | some ρ0 =>
        rw [hb] at h
        simp only at h
        obtain ⟨b1, b2, b3, b4⟩ := bindN_spec hb
        cases h1 : collCs ρ0 ts cs0 with
        | none => rw [h1] at h; cases h
        | some p =>
          obtain ⟨ρ1, l1⟩ := p
          rw [h1] at h
          simp only at h
          cases h2 : collAbs k.hp ρ1 vs with
          | none => rw [h2] at h; cases h
          | some q =>
            obtain ⟨ρ2, l2⟩ := q
            rw [h2] at h
            simp only [Option.some.injEq, Prod.mk.injEq] at h
            obtain ⟨rfl, rfl⟩ := h
            obtain ⟨B, row, E, fz, g1, g2, g3, g4⟩ := hk.blk n _ hcs
            rw [List.append_assoc] at hi
            obtain ⟨es1, hs1, p1, i1, f1⟩ := fillCs_ok hk ts cs0 row.toList ρ0 ρ1 l1 (l2 ++ is) ds g4 h1 hi
            obtain ⟨es2, hs2, p2, i2, f2⟩ := ih ρ1 ρ2 l2 is _ h2 i1
            have pv := var_part p1 b1 hcs g1 g2 g3 f1
            have pv' : Part k ρ ρ1 (n :: ts.flatMap TC.owns) (n :: ts.flatMap TC.refs) l1 _ hs1 _ := ⟨pv.hp, pv.names, pv.good, pv.own, Grows.trans (a := [n]) ⟨b2, b3, b4⟩ pv.grow⟩
            refine ⟨(.var n (fillCs ts ds).1 n :: es1) ++ es2, hs1 ++ hs2, ?_, i2, fun x hx => ?_⟩
            · have := pv'.append p2
              simpa [fillAbs, TB.cells] using this
            · rcases List.mem_append.1 hx with hx | hx
              · rcases List.mem_cons.1 hx with hx | hx
                · subst hx; exact Or.inr rfl
                · left
                  simp only [List.flatMap_cons, TB.cells]
                  refine List.mem_append_left _ ?_
                  rw [← p1.names]
                  exact List.mem_map.2 ⟨x, hx, rfl⟩
              · refine (f2 x hx).imp (fun h => ?_) id
                simp only [List.flatMap_cons]
                exact List.mem_append_right _ h
    · cases h

end Go.Ab
