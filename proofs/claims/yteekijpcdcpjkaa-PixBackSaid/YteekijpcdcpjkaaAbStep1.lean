/-
  ONE OPERATION IS RIGHT: those that only look.
-/
import Derived.Test.YteekijpcdcpjkaaAbLem3
set_option linter.unusedVariables false
namespace Go.Ab
open Go.RowKit (Below)

/-- The operation's run ends in a state of which the abstract one behind it is true. -/
def OK (E : Env) (N : Nat) (k : Kx) (fr : Fr) (tmps : Array Value) (out : Out) (s : Sem Value) : Prop :=
  (out.made ≠ 0 → ¬ k.U k.nx) → ∃ v k', s.run E.P k.w = .ok v k'.w ∧ k'.hp = acts (frzAll fr k.hp out.frz).2 out.acts ∧ k'.nx = k.nx + out.made ∧ HRel N k' ∧ FRel k' (frzAll fr k.hp out.frz).1 tmps ∧ ARel k' out.v v ∧ Below N k.w k'.w ∧ Ext k k' ∧ ∀ n, k'.U n → k.U n ∨ (k.nx ≤ n ∧ n < k.nx + out.made)

theorem OK.quiet {E : Env} {N : Nat} {k : Kx} {fr : Fr} {tmps : Array Value} {t : Bool} {a : AVal} {s : Sem Value} (hk : HRel N k) (hf : FRel k fr tmps) {v : Value} (hr : s.run E.P k.w = .ok v k.w) (ha : ARel k a v) :
    OK E N k fr tmps { test := t, v := a } s := fun _ => ⟨v, k, hr, rfl, rfl, hk, hf, ha, Below.refl _ _, Ext.refl k, fun _ h => Or.inl h⟩

/-! ### operands -/
theorem litCell_rel (k : Kx) (v : Value) (h1 : v.oneCell' = true) : CRel k (litCell v) v := by
  cases v with
  | int q n =>
    simp only [litCell]
    split
    · rename_i h; exact ⟨rfl, h⟩
    · exact h1
  | bool b => exact rfl
  | string s =>
    simp only [litCell]
    split
    · rename_i h; exact ⟨s, rfl, rfl, h⟩
    · exact h1
  | slice a l c =>
    cases a with
    | some x => exact h1
    | none =>
      cases l with
      | succ n => exact h1
      | zero => cases c with
        | zero => exact rfl
        | succ n => exact h1
  | _ => exact h1

theorem litCells_rel (k : Kx) : ∀ cs : List Value, cs.all Value.oneCell' = true → CRels k (cs.map litCell) cs := by
  intro cs
  induction cs with
  | nil => intro _; rfl
  | cons v r ih =>
    intro h
    simp only [List.all_cons, Bool.and_eq_true] at h
    exact ⟨v, r, rfl, litCell_rel k v h.1, ih h.2⟩

theorem lit_rel (k : Kx) (v : Value) : ARel k (litV v) v := by
  have one : v.oneCell' = true → litV v = .one (litCell v) → ARel k (litV v) v := fun h1 h2 => by rw [h2]; exact Or.inr (litCell_rel k v h1)
  cases v with
  | agg cs =>
    simp only [litV]
    split
    · rename_i h; exact ⟨cs, rfl, litCells_rel k _ h⟩
    · exact Or.inl rfl
  | tuple cs => exact Or.inl rfl
  | _ => exact one rfl rfl

theorem rd_rel {k : Kx} {fr : Fr} {tmps : Array Value} (hf : FRel k fr tmps) {a : Act} (ha : a.tmps = tmps) (x : Operand) : ARel k (rd fr x) (a.eval x) := by
  cases x with
  | tmp t => have := hf.2 t; rw [← ha] at this; exact this
  | const v => exact lit_rel k v
  | global g => exact Or.inl rfl
  | func f => exact Or.inr ⟨#[], rfl, rfl, fun j h => absurd h (by simp)⟩

theorem rdC_rel {k : Kx} {fr : Fr} {tmps : Array Value} (hf : FRel k fr tmps) {a : Act} (ha : a.tmps = tmps) (x : Operand) (h : rdC fr x ≠ .undef) : CRel k (rdC fr x) (a.eval x) := by
  have := rd_rel hf ha x
  unfold rdC at h ⊢
  cases hr : rd fr x with
  | one c =>
    rw [hr] at this h
    simp only at h ⊢
    rcases this with h' | h'
    · exact absurd h' h
    · exact h'
  | pure t y => rw [hr] at h; exact absurd rfl h
  | agg cs => rw [hr] at h; exact absurd rfl h
  | tup ps => rw [hr] at h; exact absurd rfl h

theorem intAt_rel {k : Kx} {fr : Fr} {tmps : Array Value} (hf : FRel k fr tmps) {a : Act} (ha : a.tmps = tmps) {x : Operand} {n : Int} (h : intAt fr x = some n) : ∃ q, a.eval x = .int q n ∧ q.wrap n = n := by
  unfold intAt at h
  split at h
  · rename_i q m hc
    simp only [Option.some.injEq] at h
    subst h
    have := rdC_rel hf ha x (by rw [hc]; simp)
    rw [hc] at this
    obtain ⟨h1, h2⟩ := this
    simp only [List.cons.injEq, and_true] at h1
    exact ⟨q, h1, h2⟩
  · cases h

theorem span_eq {cs d : List Cell} {off n : Nat} (h : span cs off n = some d) : off + n ≤ cs.length ∧ d = (cs.drop off).take n := by
  unfold span at h
  split at h
  · rename_i hh; exact ⟨hh, by simpa using h.symm⟩
  · cases h

/-! ### loads -/
theorem CRels.span {k : Kx} {cs d : List Cell} {vs : List Value} {off n : Nat} (h : CRels k cs vs) (hs : span cs off n = some d) : CRels k d ((vs.drop off).take n) ∧ d.length = n ∧ off + n ≤ vs.length := by
  obtain ⟨h1, h2⟩ := span_eq hs
  subst h2
  have := h.len
  exact ⟨(h.drop off).take n, by simp; omega, by omega⟩

theorem pureIf_eq {t : Option Ty} {t' : Ty} (h : pureIf t (some t') = true) : t = some t' ∧ t'.isAgg = true := by
  cases t with
  | none => simp [pureIf] at h
  | some s =>
    simp only [pureIf, Bool.and_eq_true, decide_eq_true_eq] at h
    obtain ⟨h1, h2⟩ := h
    subst h2
    exact ⟨rfl, h1⟩

/-- A load from a row whose cells are known. -/
theorem load_row {E : Env} {k : Kx} {t : TypeId} {B o : Nat} {row : Array Value} {T : TypeId} {fz : Nat × Nat} {cs : List Cell} (hw : wf1 E.P t = true) (hrow : k.w.heap[B]? = some (.cells row T fz))
    (hn : o + E.P.cellsOf t ≤ row.size) (hc : CRels k cs (part_ row o (E.P.cellsOf t))) (hl : cs.length = E.P.cellsOf t) :
    ∃ v, (Instr.loadAt t (.pointer (some ⟨B, o, none⟩))).run E.P k.w = .ok v k.w ∧ ARel k (mkV (aggT E.P t) cs) v := by
  have hw' := hw
  simp only [wf1, Bool.and_eq_true, Bool.or_eq_true, decide_eq_true_eq] at hw'
  obtain ⟨h1, h2⟩ := hw'
  obtain ⟨d, hd⟩ := Option.isSome_iff_exists.1 h2
  obtain ⟨v, hr, hv⟩ := run_loadVar (P := E.P) k.w t d B o row T fz hd hrow hn (fun h => by rcases h1 with h1 | h1 <;> simp_all)
  refine ⟨v, ?_, ?_⟩
  · simp only [Instr.loadAt, Instr.sureAddr, Sem.run_bind, Sem.run_pure, Result.andThen_ok]
    exact hr
  · rw [hv]; exact loaded_rel hc hw hl

theorem pure_row {E : Env} (hE : EnvOK E) {k : Kx} {t : TypeId} {ty : Ty} {B o : Nat} {row : Array Value} {T : TypeId} {fz : Nat × Nat} {x : ty.den} (hw : wf1 E.P t = true) (ht : pureIf (E.ty t) (some ty) = true)
    (hrow : k.w.heap[B]? = some (.cells row T fz)) (hn : o + ty.size ≤ row.size) (hv : VRel k.w k.O ty x (part_ row o ty.size)) :
    ∃ v, (Instr.loadAt t (.pointer (some ⟨B, o, none⟩))).run E.P k.w = .ok v k.w ∧ ARel k (.pure ty x) v := by
  obtain ⟨h1, h2⟩ := pureIf_eq ht
  obtain ⟨i, z, hi, _, _, hs, ha⟩ := hE t ty h1
  have hs' : E.P.cellsOf t = ty.size := by rw [cellsOf_info hi, hs]
  have hw' := hw
  simp only [wf1, Bool.and_eq_true, Bool.or_eq_true, decide_eq_true_eq] at hw'
  obtain ⟨d, hd⟩ := Option.isSome_iff_exists.1 hw'.2
  obtain ⟨v, hr, hv'⟩ := run_loadVar (P := E.P) k.w t d B o row T fz hd hrow (by omega) (fun h => by rw [← ha, h2] at h; cases h)
  refine ⟨v, ?_, h2, ?_⟩
  · simp only [Instr.loadAt, Instr.sureAddr, Sem.run_bind, Sem.run_pure, Result.andThen_ok]
    exact hr
  · rw [← ha, h2, hs'] at hv'
    exact ⟨_, hv', by simpa using hv⟩

theorem inR_iff {i n : Int} : inR i n = true ↔ 0 ≤ i ∧ i < n := by simp [inR]

theorem getI_eq {α : Type} (d : α) (xs : List α) (i : Int) (h : i.toNat < xs.length) : getI d xs i = xs[i.toNat] := by simp [getI, h]

theorem load_sound {E : Env} (hE : EnvOK E) {N : Nat} {k : Kx} {fr : Fr} {tmps : Array Value} (hk : HRel N k) (hf : FRel k fr tmps) {t : TypeId} {c : Cell} {v : Value} {out : Out} (hc : c ≠ .undef → CRel k c v)
    (h : loadA E (hget k.hp) t c = some out) (ht : out.test = true) : OK E N k fr tmps out (Instr.loadAt t v) := by
  unfold loadA at h
  by_cases hw : wf1 E.P t = true
  · simp only [hw, Bool.not_true, Bool.false_eq_true, if_false] at h
    cases c with
    | ptr n off =>
      have hc := hc (by simp)
      simp only at h
      split at h
      · rename_i cs hcs
        cases hs : span cs off (E.P.cellsOf t) with
        | none => rw [hs] at h; cases h
        | some d =>
          rw [hs] at h
          simp only [Option.map_some, Option.some.injEq] at h
          subst h
          obtain ⟨B, hμ, hv⟩ := hc.2 cs hcs
          obtain ⟨B', row, T, fz, hμ', hrow, hfz, hcr⟩ := hk.blk n _ hcs
          rw [hμ] at hμ'
          cases hμ'
          obtain ⟨h1, h2, h3⟩ := hcr.span hs
          subst hv
          obtain ⟨u, hr, hu⟩ := load_row hw hrow (by simpa using h3) (by simpa [part_] using h1) h2
          exact OK.quiet hk hf hr hu
      · cases h
    | pptr ty x off =>
      have hc := hc (by simp)
      obtain ⟨B, o, row, T, fz, hv, hO, hrow, hsz, hvr⟩ := hc
      simp only at h
      split at h
      · rename_i hp
        simp only [Bool.and_eq_true, decide_eq_true_eq] at hp
        obtain ⟨hp, ho⟩ := hp
        simp only [Option.some.injEq] at h
        subst h; subst ho; subst hv
        obtain ⟨u, hr, hu⟩ := pure_row hE hw hp hrow hsz hvr
        exact OK.quiet hk hf hr hu
      · cases hs : span (flat ty x) off (E.P.cellsOf t) with
        | none => rw [hs] at h; cases h
        | some d =>
          rw [hs] at h
          simp only [Option.map_some, Option.some.injEq] at h
          subst h; subst hv
          obtain ⟨h1, h2, h3⟩ := ((flat_rel ty x _).1 hvr).span hs
          rw [part_len hsz] at h3
          rw [part_part h3] at h1
          obtain ⟨u, hr, hu⟩ := load_row hw hrow (by omega) h1 h2
          exact OK.quiet hk hf hr hu
    | eptr n e i off =>
      have hc := hc (by simp)
      simp only at h
      cases hxs : arrAs e (hget k.hp n) with
      | none => rw [hxs] at h; cases h
      | some xs =>
        rw [hxs] at h
        simp only at h
        have hb := arrAs_eq hxs
        have key : inR i xs.length = true → ∃ B o row T fz, v = .pointer (some ⟨B, o + off, none⟩) ∧ k.w.heap[B]? = some (.cells row T fz) ∧ o + e.size ≤ row.size ∧ VRel k.w k.O e (getI e.dflt xs i) (part_ row o e.size) := by
          intro hi
          rw [inR_iff] at hi
          obtain ⟨B, o, cap, hμ, hv⟩ := hc.2 xs hb hi
          have := hk.blk n _ hb
          unfold BRel at this
          rw [hμ] at this
          obtain ⟨row, T, fz, h1, h2, h3, h4, h5, h6⟩ := this
          have hlt : i.toNat < xs.length := by omega
          refine ⟨B, o + i.toNat * e.size, row, T, fz, by rw [hv], h1, ?_, ?_⟩
          · have : (i.toNat + 1) * e.size ≤ cap * e.size := Nat.mul_le_mul_right _ (by omega)
            rw [Nat.add_mul] at this
            omega
          · rw [getI_eq _ _ _ hlt]; exact h6 _ hlt
        split at h
        · rename_i hp
          simp only [Bool.and_eq_true, decide_eq_true_eq] at hp
          obtain ⟨hp, ho⟩ := hp
          simp only [Option.some.injEq] at h
          subst h; subst ho
          obtain ⟨B, o, row, T, fz, hv, hrow, hsz, hvr⟩ := key ht
          subst hv
          obtain ⟨u, hr, hu⟩ := pure_row hE hw hp hrow hsz hvr
          exact OK.quiet hk hf hr hu
        · cases hs : span (flat e (getI e.dflt xs i)) off (E.P.cellsOf t) with
          | none => rw [hs] at h; cases h
          | some d =>
            rw [hs] at h
            simp only [Option.map_some, Option.some.injEq] at h
            subst h
            obtain ⟨B, o, row, T, fz, hv, hrow, hsz, hvr⟩ := key ht
            subst hv
            obtain ⟨h1, h2, h3⟩ := ((flat_rel e _ _).1 hvr).span hs
            rw [part_len hsz] at h3
            rw [part_part h3] at h1
            obtain ⟨u, hr, hu⟩ := load_row hw hrow (by omega) h1 h2
            exact OK.quiet hk hf hr hu
    | _ => simp at h
  · simp [hw] at h

end Go.Ab
