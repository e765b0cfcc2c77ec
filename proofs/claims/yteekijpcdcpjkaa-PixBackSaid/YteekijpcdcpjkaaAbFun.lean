/-
  FUNCTIONS: what denFun comes to is what the function does.
-/
import Derived.Test.YteekijpcdcpjkaaAbCode2
set_option linter.unusedVariables false
set_option linter.unusedSimpArgs false
namespace Go.Ab
open Go.RowKit (Below)

/-! ### the frame that a call starts with -/
theorem argVs_deal : ∀ (ps : List (Bool × Nat)) (cs : List Cell), argVs ps cs = (deal ps cs).map fun p => mkV p.1 p.2 := by
  intro ps
  induction ps with
  | nil => intro cs; rfl
  | cons p ps ih => intro cs; obtain ⟨g, n⟩ := p; simp only [argVs, deal, List.map_cons, ih]

theorem ARels.get {k : Kx} : ∀ {as : List AVal} {vs : List Value}, ARels k as vs → ∀ i, ARel k (as.getD i (.one .undef)) (vs.getD i undef) := by
  intro as
  induction as with
  | nil => intro vs h i; exact Or.inl rfl
  | cons a as ih =>
    intro vs h i
    obtain ⟨v, r, e, h1, h2⟩ := h
    subst e
    cases i with
    | zero => exact h1
    | succ i => simpa using ih h2 i

/-- The frame of a call. -/
theorem init_rel {k : Kx} {as : List AVal} {vs : Array Value} (h : ARels k as vs.toList) (n : Nat) : FRel k (initFr n as) (vs ++ Array.replicate (n - vs.size) undef) := by
  have hl := h.len
  simp only [Array.length_toList] at hl
  refine ⟨by simp [initFr, hl], fun i => ?_⟩
  have hi := h.get i
  simp only [initFr, rdT, List.getD_eq_getElem?_getD, Array.getD_eq_getD_getElem?, List.getElem?_append, Array.getElem?_append] at hi ⊢
  by_cases hlt : i < as.length
  · rw [if_pos hlt, if_pos (by omega)]
    simpa using hi
  · rw [if_neg hlt, if_neg (by omega)]
    simp only [List.getElem?_replicate, Array.getElem?_replicate]
    split
    · exact Or.inl rfl
    · exact Or.inl rfl

/-! ### results -/
theorem run_mapM {α β : Type} {P : Program} {w : World} {f : α → Sem β} : ∀ (l : List α) (r : List β), l.length = r.length → (∀ i (h : i < l.length) (h' : i < r.length), (f l[i]).run P w = .ok r[i] w) → (l.mapM f).run P w = .ok r w := by
  intro l
  induction l with
  | nil => intro r hl _; cases r with | nil => simp | cons _ _ => simp at hl
  | cons a l ih =>
    intro r hl h
    cases r with
    | nil => simp at hl
    | cons b r =>
      have h0 := h 0 (by simp) (by simp)
      have hr := ih r (by simpa using hl) fun i hi hi' => by
        have := h (i + 1) (by simp; omega) (by simp; omega)
        simpa using this
      simp only [List.getElem_cons_zero] at h0
      simp only [List.mapM_cons, Sem.run_bind, h0, Result.andThen_ok, hr, Sem.run_pure]

def resOne (tmps : Array Value) : ResultVar → Sem Value
  | .tmp t => pure (tmps.getD t undef)
  | .cell a t => do loadVar t (← asAddr (tmps.getD a undef))

theorem resCells_rel {E : Env} {N : Nat} {k0 : Kx} {σ : St} {k : Kx} {a : Act} (hR : Rel N k0 σ k a) : ∀ (rs : List ResultVar) (l : List (Bool × List Cell)), resCells σ.hp σ.fr E rs = some l →
    ∃ us : List Value, PRels k l us ∧ us.length = rs.length ∧ ∀ i (h : i < rs.length) (h' : i < us.length), (resOne a.tmps rs[i]).run E.P k.w = .ok us[i] k.w := by
  intro rs
  induction rs with
  | nil => intro l h; simp only [resCells, Option.some.injEq] at h; subst h; exact ⟨[], rfl, rfl, fun i h => absurd h (by simp)⟩
  | cons r rs ih =>
    intro l h
    -- one more
    have more : ∀ (p : Bool × List Cell) (l' : List (Bool × List Cell)) (u : Value), l = p :: l' → resCells σ.hp σ.fr E rs = some l' → PRel k p.1 p.2 u →
        (resOne a.tmps r).run E.P k.w = .ok u k.w →
        ∃ us : List Value, PRels k l us ∧ us.length = (r :: rs).length ∧ ∀ i (h : i < (r :: rs).length) (h' : i < us.length), (resOne a.tmps (r :: rs)[i]).run E.P k.w = .ok us[i] k.w := by
      intro p l' u hl hl' hp hr
      obtain ⟨us, g1, g2, g3⟩ := ih l' hl'
      subst hl
      refine ⟨u :: us, ⟨u, us, rfl, hp, g1⟩, by simp [g2], fun i hi hi' => ?_⟩
      cases i with
      | zero => exact hr
      | succ i => simpa using g3 i (by simpa using hi) (by simpa using hi')
    cases r with
    | tmp t =>
      simp only [resCells] at h
      have hv := hR.f.2 t
      split at h
      · rename_i c l' hc hl'
        simp only [Option.some.injEq] at h
        rw [hc] at hv
        refine more (false, [c]) l' _ h.symm hl' ?_ rfl
        refine ⟨c, rfl, ?_⟩
        rcases hv with hv | hv
        · exact Or.inl hv
        · exact Or.inr ⟨hv, cells_one hv.one⟩
      · rename_i ty x l' hc hl'
        simp only [Option.some.injEq] at h
        rw [hc] at hv
        obtain ⟨_, vs, e, hv⟩ := hv
        exact more (true, flat ty x) l' _ h.symm hl' ⟨vs, e, (flat_rel ty x _).1 hv⟩ rfl
      · rename_i cs l' hc hl'
        simp only [Option.some.injEq] at h
        rw [hc] at hv
        exact more (true, cs) l' _ h.symm hl' hv rfl
      · cases h
    | cell x t =>
      simp only [resCells] at h
      have hv := hR.f.2 x
      split at h
      · rename_i n off l' hc hl'
        split at h
        · rename_i cs hcs
          cases hsp : span cs off (E.P.cellsOf t) with
          | none => rw [hsp] at h; cases h
          | some c =>
            rw [hsp] at h
            simp only at h
            split at h
            · rename_i hw
              simp only [Option.some.injEq] at h
              rw [hc] at hv
              rcases hv with hv | hv
              · cases hv
              · rw [← hR.hp] at hcs
                obtain ⟨B, hμ, hvB⟩ := hv.2 cs hcs
                obtain ⟨B', row, T, fz, hμ', hrow, hfz, hcr⟩ := hR.h.blk n _ hcs
                rw [hμ] at hμ'
                cases hμ'
                obtain ⟨h1, h2, h3⟩ := hcr.span hsp
                have hw' := hw
                simp only [wf1, Bool.and_eq_true, Bool.or_eq_true, decide_eq_true_eq] at hw'
                obtain ⟨d, hd⟩ := Option.isSome_iff_exists.1 hw'.2
                obtain ⟨u, hr, hu⟩ := run_loadVar (P := E.P) k.w t d B off row T fz hd hrow (by simpa using h3) (fun hg => by rcases hw'.1 with h1 | h1 <;> simp_all)
                refine more (aggT E.P t, c) l' u h.symm hl' ?_ ?_
                · have h1' : CRels k c (part_ row off (E.P.cellsOf t)) := by simpa [part_] using h1
                  have hlen : (part_ row off (E.P.cellsOf t)).length = E.P.cellsOf t := part_len (by simpa using h3)
                  unfold PRel
                  rw [hu]
                  cases hag : aggT E.P t with
                  | true => exact ⟨_, rfl, by simpa using h1'⟩
                  | false =>
                    have hone : E.P.cellsOf t = 1 := by rcases hw'.1 with h4 | h4 <;> simp_all
                    rw [hone] at h1' hlen ⊢
                    obtain ⟨q, hq⟩ := List.length_eq_one_iff.1 hlen
                    rw [hq] at h1' ⊢
                    obtain ⟨c', e1, g1⟩ := crels_one h1'
                    exact ⟨c', e1, Or.inr ⟨g1, cells_one g1.one⟩⟩
                · simp only [resOne, hvB, asAddr, Sem.run_bind, Sem.run_pure, Result.andThen_ok]
                  exact hr
            · cases h
        · cases h
      · cases h

end Go.Ab
