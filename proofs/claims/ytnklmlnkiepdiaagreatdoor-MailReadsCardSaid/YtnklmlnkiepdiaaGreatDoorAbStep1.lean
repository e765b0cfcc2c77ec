/-
  ONE OPERATION IS RIGHT: those that only look.
-/
import Derived.Test.YtnklmlnkiepdiaaGreatDoorAbLem
import Derived.Laws.Strings
set_option linter.unusedVariables false
set_option linter.unusedSectionVars false
namespace Go.Ab
variable [Tabs]
open Go.RowKit (Below)

/-- The operation's run ends in a state of which the abstract one behind it is true. -/
def OK (E : Env) (N : Nat) (k : Kx) (fr : Fr) (tmps : Array Value) (out : Out) (s : Sem Value) : Prop :=
  (out.made ≠ 0 → ¬ k.U k.nx) → ∃ v k', s.run E.P k.w = .ok v k'.w ∧ k'.hp = acts (frzAll fr k.hp out.frz).2 out.acts ∧ k'.nx = k.nx + out.made ∧ HRel N k' ∧ FRel k' (frzAll fr k.hp out.frz).1 tmps ∧ ARel k' out.v v ∧ Below N k.w k'.w ∧ Ext k k' ∧ ∀ n, k'.U n → k.U n ∨ (k.nx ≤ n ∧ n < k.nx + out.made)

theorem OK.quiet {E : Env} {N : Nat} {k : Kx} {fr : Fr} {tmps : Array Value} {t : Bool} {a : AVal} {s : Sem Value} (hk : HRel N k) (hf : FRel k fr tmps) {v : Value} (hr : s.run E.P k.w = .ok v k.w) (ha : ARel k a v) :
    OK E N k fr tmps { test := t, v := a } s := fun _ => ⟨v, k, hr, rfl, rfl, hk, hf, ha, Below.refl _ _, Ext.refl k, fun _ h => Or.inl h⟩

/-! ### operands -/
theorem litCell_rel (k : Kx) (v : Value) (h1 : v.oneCell' = true) : CRel k (litCell v) v := by
  cases v with
  | int q n =>
    simp only [litCell]
    split
    · rename_i h; exact ⟨rfl, h⟩
    · exact h1
  | bool b => exact rfl
  | string s =>
    simp only [litCell]
    split
    · rename_i h; exact ⟨s, rfl, rfl, h⟩
    · exact h1
  | slice a l c =>
    cases a with
    | some x => exact h1
    | none =>
      cases l with
      | succ n => exact h1
      | zero => cases c with
        | zero => exact rfl
        | succ n => exact h1
  | _ => exact h1

theorem litCells_rel (k : Kx) : ∀ cs : List Value, cs.all Value.oneCell' = true → CRels k (cs.map litCell) cs := by
  intro cs
  induction cs with
  | nil => intro _; rfl
  | cons v r ih =>
    intro h
    simp only [List.all_cons, Bool.and_eq_true] at h
    exact ⟨v, r, rfl, litCell_rel k v h.1, ih h.2⟩

theorem lit_rel (k : Kx) (v : Value) : ARel k (litV v) v := by
  have one : v.oneCell' = true → litV v = .one (litCell v) → ARel k (litV v) v := fun h1 h2 => by rw [h2]; exact Or.inr (litCell_rel k v h1)
  cases v with
  | agg cs =>
    simp only [litV]
    split
    · rename_i h; exact ⟨cs, rfl, litCells_rel k _ h⟩
    · exact Or.inl rfl
  | tuple cs => exact Or.inl rfl
  | _ => exact one rfl rfl

theorem rd_rel {k : Kx} {fr : Fr} {tmps : Array Value} (hf : FRel k fr tmps) {a : Act} (ha : a.tmps = tmps) (x : Operand) : ARel k (rd fr x) (a.eval x) := by
  cases x with
  | tmp t => have := hf.2 t; rw [← ha] at this; exact this
  | const v => exact lit_rel k v
  | global g => exact Or.inl rfl
  | func f => exact Or.inr ⟨#[], rfl, rfl, fun j h => absurd h (by simp)⟩

theorem rdC_rel {k : Kx} {fr : Fr} {tmps : Array Value} (hf : FRel k fr tmps) {a : Act} (ha : a.tmps = tmps) (x : Operand) (h : rdC fr x ≠ .undef) : CRel k (rdC fr x) (a.eval x) := by
  have := rd_rel hf ha x
  unfold rdC at h ⊢
  cases hr : rd fr x with
  | one c =>
    rw [hr] at this h
    simp only at h ⊢
    rcases this with h' | h'
    · exact absurd h' h
    · exact h'
  | pure t y => rw [hr] at h; exact absurd rfl h
  | agg cs => rw [hr] at h; exact absurd rfl h
  | tup ps => rw [hr] at h; exact absurd rfl h

theorem intAt_rel {k : Kx} {fr : Fr} {tmps : Array Value} (hf : FRel k fr tmps) {a : Act} (ha : a.tmps = tmps) {x : Operand} {n : Int} (h : intAt fr x = some n) : ∃ q, a.eval x = .int q n ∧ q.wrap n = n := by
  unfold intAt at h
  split at h
  · rename_i q m hc
    simp only [Option.some.injEq] at h
    subst h
    have := rdC_rel hf ha x (by rw [hc]; simp)
    rw [hc] at this
    obtain ⟨h1, h2⟩ := this
    simp only [List.cons.injEq, and_true] at h1
    exact ⟨q, h1, h2⟩
  · cases h

theorem span_eq {cs d : List Cell} {off n : Nat} (h : span cs off n = some d) : off + n ≤ cs.length ∧ d = (cs.drop off).take n := by
  unfold span at h
  split at h
  · rename_i hh; exact ⟨hh, by simpa using h.symm⟩
  · cases h

/-! ### loads -/
theorem CRels.span {k : Kx} {cs d : List Cell} {vs : List Value} {off n : Nat} (h : CRels k cs vs) (hs : span cs off n = some d) : CRels k d ((vs.drop off).take n) ∧ d.length = n ∧ off + n ≤ vs.length := by
  obtain ⟨h1, h2⟩ := span_eq hs
  subst h2
  have := h.len
  exact ⟨(h.drop off).take n, by simp; omega, by omega⟩

theorem pureIf_eq {t : Option Ty} {t' : Ty} (h : pureIf t (some t') = true) : t = some t' ∧ t'.isAgg = true := by
  cases t with
  | none => simp [pureIf] at h
  | some s =>
    simp only [pureIf, Bool.and_eq_true, decide_eq_true_eq] at h
    obtain ⟨h1, h2⟩ := h
    subst h2
    exact ⟨rfl, h1⟩

/-- A load from a row whose cells are known. -/
theorem load_row {E : Env} {k : Kx} {t : TypeId} {B o : Nat} {row : Array Value} {T : TypeId} {fz : Nat × Nat} {cs : List Cell} (hw : wf1 E.P t = true) (hrow : k.w.heap[B]? = some (.cells row T fz))
    (hn : o + E.P.cellsOf t ≤ row.size) (hc : CRels k cs (part_ row o (E.P.cellsOf t))) (hl : cs.length = E.P.cellsOf t) :
    ∃ v, (Instr.loadAt t (.pointer (some ⟨B, o, none⟩))).run E.P k.w = .ok v k.w ∧ ARel k (mkV (aggT E.P t) cs) v := by
  have hw' := hw
  simp only [wf1, Bool.and_eq_true, Bool.or_eq_true, decide_eq_true_eq] at hw'
  obtain ⟨h1, h2⟩ := hw'
  obtain ⟨d, hd⟩ := Option.isSome_iff_exists.1 h2
  obtain ⟨v, hr, hv⟩ := run_loadVar (P := E.P) k.w t d B o row T fz hd hrow hn (fun h => by rcases h1 with h1 | h1 <;> simp_all)
  refine ⟨v, ?_, ?_⟩
  · simp only [Instr.loadAt, Instr.sureAddr, Sem.run_bind, Sem.run_pure, Result.andThen_ok]
    exact hr
  · rw [hv]; exact loaded_rel hc hw hl

theorem pure_row {E : Env} (hE : EnvOK E) {k : Kx} {t : TypeId} {ty : Ty} {B o : Nat} {row : Array Value} {T : TypeId} {fz : Nat × Nat} {x : ty.den} (hw : wf1 E.P t = true) (ht : pureIf (E.ty t) (some ty) = true)
    (hrow : k.w.heap[B]? = some (.cells row T fz)) (hn : o + ty.size ≤ row.size) (hv : VRel k.w k.O ty x (part_ row o ty.size)) :
    ∃ v, (Instr.loadAt t (.pointer (some ⟨B, o, none⟩))).run E.P k.w = .ok v k.w ∧ ARel k (.pure ty x) v := by
  obtain ⟨h1, h2⟩ := pureIf_eq ht
  obtain ⟨i, z, hi, _, _, hs, ha, _⟩ := hE t ty h1
  have hs' : E.P.cellsOf t = ty.size := by rw [cellsOf_info hi, hs]
  have hw' := hw
  simp only [wf1, Bool.and_eq_true, Bool.or_eq_true, decide_eq_true_eq] at hw'
  obtain ⟨d, hd⟩ := Option.isSome_iff_exists.1 hw'.2
  obtain ⟨v, hr, hv'⟩ := run_loadVar (P := E.P) k.w t d B o row T fz hd hrow (by omega) (fun h => by rw [← ha, h2] at h; cases h)
  refine ⟨v, ?_, h2, ?_⟩
  · simp only [Instr.loadAt, Instr.sureAddr, Sem.run_bind, Sem.run_pure, Result.andThen_ok]
    exact hr
  · rw [← ha, h2, hs'] at hv'
    exact ⟨_, hv', by simpa using hv⟩

theorem inR_bnd {i n : Int} : inR i n = true ↔ 0 ≤ i ∧ i < n := by simp [inR]

theorem getI_eq {α : Type} (d : α) (xs : List α) (i : Int) (h : i.toNat < xs.length) : getI d xs i = xs[i.toNat] := by simp [getI, h]

theorem load_sound {E : Env} (hE : EnvOK E) {N : Nat} {k : Kx} {fr : Fr} {tmps : Array Value} (hk : HRel N k) (hf : FRel k fr tmps) {t : TypeId} {c : Cell} {v : Value} {out : Out} (hc : c ≠ .undef → CRel k c v)
    (h : loadA E (hget k.hp) t c = some out) (ht : out.test = true) : OK E N k fr tmps out (Instr.loadAt t v) := by
  unfold loadA at h
  by_cases hw : wf1 E.P t = true
  · simp only [hw, Bool.not_true, Bool.false_eq_true, if_false] at h
    cases c with
    | ptr n off =>
      have hc := hc (by simp)
      simp only at h
      split at h
      · rename_i cs hcs
        cases hs : span cs off (E.P.cellsOf t) with
        | none => rw [hs] at h; cases h
        | some d =>
          rw [hs] at h
          simp only [Option.map_some, Option.some.injEq] at h
          subst h
          obtain ⟨B, hμ, hv⟩ := hc.2 cs hcs
          obtain ⟨B', row, T, fz, hμ', hrow, hfz, hcr, _⟩ := hk.blk n _ hcs
          rw [hμ] at hμ'
          cases hμ'
          obtain ⟨h1, h2, h3⟩ := hcr.span hs
          subst hv
          obtain ⟨u, hr, hu⟩ := load_row hw hrow (by simpa using h3) (by simpa [part_] using h1) h2
          exact OK.quiet hk hf hr hu
      · cases h
    | pptr ty x off =>
      have hc := hc (by simp)
      obtain ⟨B, o, row, T, fz, hv, hO, hrow, hsz, hvr⟩ := hc
      simp only at h
      split at h
      · rename_i hp
        simp only [Bool.and_eq_true, decide_eq_true_eq] at hp
        obtain ⟨hp, ho⟩ := hp
        simp only [Option.some.injEq] at h
        subst h; subst ho; subst hv
        obtain ⟨u, hr, hu⟩ := pure_row hE hw hp hrow hsz hvr
        exact OK.quiet hk hf hr hu
      · cases hs : span (flat ty x) off (E.P.cellsOf t) with
        | none => rw [hs] at h; cases h
        | some d =>
          rw [hs] at h
          simp only [Option.map_some, Option.some.injEq] at h
          subst h; subst hv
          obtain ⟨h1, h2, h3⟩ := ((flat_rel ty x _).1 hvr).span hs
          rw [part_len hsz] at h3
          rw [part_part h3] at h1
          obtain ⟨u, hr, hu⟩ := load_row hw hrow (by omega) h1 h2
          exact OK.quiet hk hf hr hu
    | eptr n e i off =>
      have hc := hc (by simp)
      simp only at h
      cases hxs : arrAs e (hget k.hp n) with
      | none => rw [hxs] at h; cases h
      | some xs =>
        rw [hxs] at h
        simp only at h
        have hb := arrAs_eq hxs
        have key : inR i xs.length = true → ∃ B o row T fz, v = .pointer (some ⟨B, o + off, none⟩) ∧ k.w.heap[B]? = some (.cells row T fz) ∧ o + e.size ≤ row.size ∧ VRel k.w k.O e (getI e.dflt xs i) (part_ row o e.size) := by
          intro hi
          rw [inR_bnd] at hi
          obtain ⟨B, o, cap, hμ, hv⟩ := hc.2 xs hb hi
          have := hk.blk n _ hb
          unfold BRel at this
          rw [hμ] at this
          obtain ⟨row, T, fz, h1, h2, h3, h4, h5, h6⟩ := this
          have hlt : i.toNat < xs.length := by omega
          refine ⟨B, o + i.toNat * e.size, row, _, fz, by rw [hv], h1, ?_, ?_⟩
          · have : (i.toNat + 1) * e.size ≤ cap * e.size := Nat.mul_le_mul_right _ (by omega)
            rw [Nat.add_mul] at this
            omega
          · rw [getI_eq _ _ _ hlt]; exact h6 _ hlt
        split at h
        · rename_i hp
          simp only [Bool.and_eq_true, decide_eq_true_eq] at hp
          obtain ⟨hp, ho⟩ := hp
          simp only [Option.some.injEq] at h
          subst h; subst ho
          obtain ⟨B, o, row, T, fz, hv, hrow, hsz, hvr⟩ := key ht
          subst hv
          obtain ⟨u, hr, hu⟩ := pure_row hE hw hp hrow hsz hvr
          exact OK.quiet hk hf hr hu
        · cases hs : span (flat e (getI e.dflt xs i)) off (E.P.cellsOf t) with
          | none => rw [hs] at h; cases h
          | some d =>
            rw [hs] at h
            simp only [Option.map_some, Option.some.injEq] at h
            subst h
            obtain ⟨B, o, row, T, fz, hv, hrow, hsz, hvr⟩ := key ht
            subst hv
            obtain ⟨h1, h2, h3⟩ := ((flat_rel e _ _).1 hvr).span hs
            rw [part_len hsz] at h3
            rw [part_part h3] at h1
            obtain ⟨u, hr, hu⟩ := load_row hw hrow (by omega) h1 h2
            exact OK.quiet hk hf hr hu
    | _ => simp at h
  · simp [hw] at h

end Go.Ab

/-
  ONE OPERATION IS RIGHT: addresses, indexes, lengths, cuts, arithmetic, conversions that make nothing.
-/
set_option linter.unusedVariables false
set_option linter.unusedSimpArgs false
namespace Go.Ab
variable [Tabs]
open Go.RowKit (Below)

theorem addr_add (a : Addr) (i j : Nat) (h : a.spot = none) : (a.add i) = ⟨a.block, a.off + i, none⟩ := by
  obtain ⟨b, o, s⟩ := a
  subst h
  exact add0 b o i

/-! ### addresses -/
theorem ptrOff_rel {k : Kx} {c c' : Cell} {v : Value} {j : Nat} (hc : c ≠ .undef → CRel k c v) (h : ptrOff c j = some c') : ∃ a : Addr, v = .pointer (some a) ∧ CRel k c' (.pointer (some (a.add j))) := by
  cases c with
  | ptr n off =>
    have hc := hc (by simp)
    simp only [ptrOff, Option.some.injEq] at h
    subst h
    obtain ⟨a, ha⟩ := hc.1.2
    refine ⟨a, ha, ⟨hc.1.1, _, rfl⟩, fun cs hcs => ?_⟩
    obtain ⟨B, h1, h2⟩ := hc.2 cs hcs
    rw [ha] at h2
    injection h2 with h2
    injection h2 with h2
    exact ⟨B, h1, by rw [h2, add0]⟩
  | pptr t x off =>
    have hc := hc (by simp)
    simp only [ptrOff, Option.some.injEq] at h
    subst h
    obtain ⟨B, o, row, E, fz, e, h1⟩ := hc
    exact ⟨_, e, B, o, row, E, fz, by rw [add0, Nat.add_assoc], h1⟩
  | eptr n e i off =>
    have hc := hc (by simp)
    simp only [ptrOff, Option.some.injEq] at h
    subst h
    obtain ⟨a, ha⟩ := hc.1.2
    refine ⟨a, ha, ⟨hc.1.1, _, rfl⟩, fun xs hxs hi => ?_⟩
    obtain ⟨B, o, cap, h1, h2⟩ := hc.2 xs hxs hi
    rw [ha] at h2
    injection h2 with h2
    injection h2 with h2
    exact ⟨B, o, cap, h1, by rw [h2, add0, Nat.add_assoc]⟩
  | _ => simp [ptrOff] at h

theorem field_sound {E : Env} {N : Nat} {k : Kx} {fr : Fr} {tmps : Array Value} (hk : HRel N k) (hf : FRel k fr tmps) {s : TypeId} {c : Cell} {v : Value} {f : Nat} {out : Out} (hc : c ≠ .undef → CRel k c v)
    (h : fieldA E s c f = some out) : OK E N k fr tmps out (Instr.fieldAt s v f) := by
  unfold fieldA at h
  split at h
  · rename_i fields hu
    split at h
    · rename_i fd hfd
      split at h
      · cases h
      · rename_i hz
        cases hp : ptrOff c fd.offset with
        | none => rw [hp] at h; cases h
        | some c' =>
          rw [hp] at h
          simp only [Option.map_some, Option.some.injEq] at h
          subst h
          obtain ⟨a, ha, hr⟩ := ptrOff_rel hc hp
          obtain ⟨i, hi⟩ := info_of_cells hz
          have hs := cellsOf_info hi
          subst ha
          refine OK.quiet hk hf (v := .pointer (some (a.add fd.offset))) ?_ (Or.inr hr)
          simp only [Instr.fieldAt, Sem.run_bind, run_under k.w hu, Result.andThen_ok, hfd, Instr.sureAddr, Sem.run_pure, fieldPlace, run_sizeOf' k.w hi, ← hs]
          rw [if_neg hz]
          rfl
    · cases h
  · cases h

theorem fieldV_sound {E : Env} {N : Nat} {k : Kx} {fr : Fr} {tmps : Array Value} (hk : HRel N k) (hf : FRel k fr tmps) {s : TypeId} {x : AVal} {v : Value} {f : Nat} {out : Out} (hx : ARel k x v)
    (h : fieldV E s x f = some out) : OK E N k fr tmps out (Instr.field s v f) := by
  unfold fieldV at h
  split at h
  · rename_i fields hu
    split at h
    · rename_i fd hfd
      by_cases hg : (isStruct x && wf1 E.P fd.type) = true
      · simp only [hg, if_true] at h
        cases hs : span (cellsOf x) fd.offset (E.P.cellsOf fd.type) with
        | none => rw [hs] at h; cases h
        | some d =>
          rw [hs] at h
          simp only [Option.map_some, Option.some.injEq] at h
          subst h
          have hagg : ∃ vs : Array Value, v = .agg vs ∧ CRels k (cellsOf x) vs.toList := by
            cases x with
            | one c => simp [isStruct] at hg
            | tup ps => simp [isStruct] at hg
            | pure t y => obtain ⟨_, vs, e, hv⟩ := hx; exact ⟨vs, e, (flat_rel t y _).1 hv⟩
            | agg cs => exact hx
          obtain ⟨vs, e, hv⟩ := hagg
          subst e
          obtain ⟨h1, h2, h3⟩ := hv.span hs
          simp only [Bool.and_eq_true] at hg
          have hw := hg.2
          have hw' := hw
          simp only [wf1, Bool.and_eq_true, Bool.or_eq_true, decide_eq_true_eq] at hw'
          obtain ⟨dd, hd⟩ := Option.isSome_iff_exists.1 hw'.2
          obtain ⟨i, hi⟩ := info_of_under hd
          have hsz := cellsOf_info hi
          refine OK.quiet hk hf (v := if aggT E.P fd.type then .agg ((vs.toList.drop fd.offset).take (E.P.cellsOf fd.type)).toArray else ((vs.toList.drop fd.offset).take (E.P.cellsOf fd.type)).getD 0 undef) ?_ (loaded_rel h1 hw h2)
          simp only [Instr.field, Sem.run_bind, run_under k.w hu, Result.andThen_ok, hfd, asAgg, Sem.run_pure, part, run_isAgg k.w hd]
          cases ha : aggT E.P fd.type with
          | true =>
            simp only [if_true, Sem.run_bind, run_sizeOf' k.w hi, Result.andThen_ok, Sem.run_pure, ← hsz]
            congr 2
            apply Array.ext'
            rw [Array.toList_extract]
            simp [List.extract, Nat.add_sub_cancel_left]
          | false =>
            have h1' : E.P.cellsOf fd.type = 1 := by rcases hw'.1 with h | h <;> simp_all
            have hlt : fd.offset < vs.size := by simp at h3; omega
            simp only [Bool.false_eq_true, if_false, Array.getElem?_eq_getElem hlt, Sem.run_pure]
            congr 1
            simp [List.getD_eq_getElem?_getD, List.getElem?_take, h1', hlt]
      · rw [if_neg hg] at h; cases h
    · cases h
  · cases h


/-! ### indexes -/
theorem fits_iff {P : Program} {e : Ty} {el : TypeId} : fits P e el = true ↔ e.size = P.cellsOf el ∧ 0 < e.size := by simp [fits]

/-- A header with elements leads to the block. -/
theorem Hdr.at {l : Loc} {e : Ty} {lo len : Nat} {v : Value} (h : Hdr l e lo len v) (hp : 0 < len) : ∃ B o cap c, l = .at_ B o cap ∧ v = .slice (some ⟨B, o + lo * e.size, none⟩) len c ∧ len ≤ c ∧ lo + c ≤ cap := by
  cases l with
  | none => obtain ⟨a, _, e2, _⟩ := h; omega
  | at_ B o cap =>
    obtain ⟨a, c, e1, h1, h2, h3⟩ := h
    rcases h3 with h3 | h3
    · subst h3; exact ⟨B, o, cap, c, rfl, e1, h1, h2⟩
    · omega

theorem indexAddr_sound {E : Env} {N : Nat} {k : Kx} {fr : Fr} {tmps : Array Value} (hk : HRel N k) (hf : FRel k fr tmps) {t : TypeId} {c : Cell} {v : Value} {q : IntKind} {n : Int} {out : Out}
    (hc : c ≠ .undef → CRel k c v) (h : indexAddrA E (hget k.hp) t c n = some out) (ht : out.test = true) : OK E N k fr tmps out (Instr.indexAt t v (.int q n)) := by
  unfold indexAddrA at h
  split at h
  · rename_i el hu
    have run : ∀ (a : Addr) (len cap : Nat) (w : Nat) , v = .slice (some a) len cap → w = E.P.cellsOf el → 0 < w → 0 ≤ n → n < (len : Int) →
        (Instr.indexAt t v (.int q n)).run E.P k.w = .ok (.pointer (some (a.add (n.toNat * w)))) k.w := by
      intro a len cap w hv hw hz h0 h1
      obtain ⟨i, hi⟩ := info_of_cells (P := E.P) (t := el) (by omega)
      have hsz := cellsOf_info hi
      subst hv
      have : i.size = w := by omega
      simp [Instr.indexAt, asIntOf, run_under k.w hu, h0, h1, run_sizeOf' k.w hi, this]
    have ref : ∀ (m : Nat) (e : Ty) (xs : List e.den) (lo len : Int), arrAs e (hget k.hp m) = some xs → k.U m → 0 ≤ lo → 0 ≤ len → lo + len ≤ (xs.length : Int) → Hdr (k.μ m) e lo.toNat len.toNat v → fits E.P e el = true → 0 ≤ n → n < len →
        OK E N k fr tmps { test := out.test, v := .one (.eptr m e (lo + n) 0) } (Instr.indexAt t v (.int q n)) := by
      intro m e xs lo len hxs hm hlo hlen hle hh hfit h0 h1
      rw [fits_iff] at hfit
      obtain ⟨B, o, cap, c', hl, hv, h2, h3⟩ := hh.at (by omega)
      refine OK.quiet hk hf (run _ _ _ e.size hv hfit.1 hfit.2 h0 (by omega)) (Or.inr ⟨⟨hm, _, rfl⟩, fun ys hys hi => ⟨B, o, cap, hl, ?_⟩⟩)
      rw [add0]
      have : (lo + n).toNat = lo.toNat + n.toNat := by omega
      rw [this, Nat.add_mul]
      congr 3
      omega
    cases c with
    | val ty xs =>
      cases ty with
      | slice e =>
        have hc := hc (by simp)
        simp only at h
        split at h
        · rename_i hsz
          rw [fits_iff] at hsz
          simp only [Option.some.injEq] at h
          subst h
          rw [inR_bnd] at ht
          obtain ⟨a, cap, e1, h1, h2, h3⟩ := hc
          simp only [List.cons.injEq, and_true] at e1
          have hlt : n.toNat < xs.length := by omega
          obtain ⟨B, o, row, T, fz, e2, hO, hrow, hs, hv⟩ := h3 (by intro he; rw [he] at hlt; simp at hlt)
          subst e2
          refine OK.quiet hk hf (run _ _ _ e.size e1 hsz.1 hsz.2 ht.1 ht.2) (Or.inr ⟨B, o + n.toNat * e.size, row, T, fz, by rw [add0]; rfl, hO, hrow, ?_, ?_⟩)
          · have : (n.toNat + 1) * e.size ≤ xs.length * e.size := Nat.mul_le_mul_right _ (by omega)
            rw [Nat.add_mul] at this
            omega
          · rw [getI_eq _ _ _ hlt]; exact hv _ hlt
        · cases h
      | _ => simp at h
    | own m e =>
      have hc := hc (by simp)
      simp only at h
      cases hxs : arrAs e (hget k.hp m) with
      | none => rw [hxs] at h; cases h
      | some xs =>
        rw [hxs] at h
        simp only at h
        split at h
        · rename_i hfit
          simp only [Option.some.injEq] at h
          subst h
          rw [inR_bnd] at ht
          have := ref m e xs 0 xs.length hxs hc.1.1 (by omega) (by omega) (by omega) (by simpa using hc.2 xs (arrAs_eq hxs)) hfit ht.1 ht.2
          simpa using this
        · cases h
    | sub m e lo hi =>
      have hc := hc (by simp)
      simp only at h
      cases hxs : arrAs e (hget k.hp m) with
      | none => rw [hxs] at h; cases h
      | some xs =>
        rw [hxs] at h
        simp only at h
        split at h
        · rename_i hfit
          simp only [Option.some.injEq] at h
          subst h
          rw [inR_bnd] at ht
          obtain ⟨h0, h1, h2, h3⟩ := hc.2 xs (arrAs_eq hxs)
          exact ref m e xs lo (hi - lo) hxs hc.1.1 h0 (by omega) (by omega) h3 hfit ht.1 ht.2
        · cases h
    | _ => simp at h
  · rename_i len el hu
    split at h
    · rename_i hl
      cases hp : ptrOff c (n.toNat * E.P.cellsOf el) with
      | none => rw [hp] at h; cases h
      | some c' =>
        rw [hp] at h
        simp only [Option.map_some, Option.some.injEq] at h
        subst h
        rw [inR_bnd] at ht
        obtain ⟨a, ha, hr⟩ := ptrOff_rel hc hp
        obtain ⟨i, hi⟩ := info_of_cells (P := E.P) (t := el) (by omega)
        have hsz := cellsOf_info hi
        subst ha
        refine OK.quiet hk hf (v := .pointer (some (a.add (n.toNat * E.P.cellsOf el)))) ?_ (Or.inr hr)
        simp [Instr.indexAt, asIntOf, run_under k.w hu, ht.1, ht.2, Instr.sureAddr, run_sizeOf' k.w hi, ← hsz]
    · cases h
  · cases h

/-- an element of a text -/
theorem bytesOf_get (s : ByteArray) (i : Nat) (h : i < s.size) : (bytesOf s)[i]? = some ((s[i]'h).toNat : Int) := by
  simp only [bytesOf, List.getElem?_map]
  have : s.data.toList[i]? = some s[i] := by
    rw [Array.getElem?_toList]
    have h' : i < s.data.size := h
    rw [Array.getElem?_eq_getElem h']
    rfl
  rw [this]; rfl

theorem bytesOf_len (s : ByteArray) : (bytesOf s).length = s.size := by simp [bytesOf]

theorem wrap_u8 (b : UInt8) : IntKind.u8.wrap (b.toNat : Int) = (b.toNat : Int) := by
  have := b.toNat_lt
  simp [IntKind.wrap, IntKind.bits, IntKind.signed]
  omega

theorem index_sound {E : Env} {N : Nat} {k : Kx} {fr : Fr} {tmps : Array Value} (hk : HRel N k) (hf : FRel k fr tmps) {t : TypeId} {x : AVal} {v : Value} {q : IntKind} {n : Int} {out : Out}
    (hx : ARel k x v) (h : indexA E t x n = some out) (ht : out.test = true) : OK E N k fr tmps out (Instr.index t v (.int q n)) := by
  unfold indexA at h
  split at h
  · rename_i s hu
    simp only [Option.some.injEq] at h
    subst h
    rw [inR_bnd] at ht
    rcases hx with hx | hx
    · cases hx
    · obtain ⟨ba, e, hs, _⟩ := hx
      simp only [List.cons.injEq, and_true] at e
      subst e
      have hl : s.length = ba.size := by rw [hs, bytesOf_len]
      have hlt : n.toNat < ba.size := by omega
      refine OK.quiet hk hf (v := .int .u8 (ba[n.toNat]).toNat) ?_ (Or.inr ?_)
      · have hg : ba[n.toNat]? = some ba[n.toNat] := by simp [hlt]
        simp [Instr.index, asIntOf, run_under k.w hu, ht.1, hg]
      · have : getI (0 : Int) s n = ((ba[n.toNat]).toNat : Int) := by
          simp only [getI, List.getD_eq_getElem?_getD, hs, bytesOf_get ba _ hlt]; rfl
        exact ⟨by rw [this], by rw [this]; exact wrap_u8 _⟩
  · rename_i x _ _ len el hu
    by_cases hg : (isStruct x && wf1 E.P el) = true
    · rw [if_pos hg] at h
      cases hs : span (cellsOf x) (n.toNat * E.P.cellsOf el) (E.P.cellsOf el) with
      | none => rw [hs] at h; cases h
      | some d =>
        rw [hs] at h
        simp only [Option.map_some, Option.some.injEq] at h
        subst h
        rw [inR_bnd] at ht
        have hagg : ∃ vs : Array Value, v = .agg vs ∧ CRels k (cellsOf x) vs.toList := by
          cases x with
          | one c => simp [isStruct] at hg
          | tup ps => simp [isStruct] at hg
          | pure t y => obtain ⟨_, vs, e, hv⟩ := hx; exact ⟨vs, e, (flat_rel t y _).1 hv⟩
          | agg cs => exact hx
        obtain ⟨vs, e, hv⟩ := hagg
        subst e
        obtain ⟨h1, h2, h3⟩ := hv.span hs
        simp only [Bool.and_eq_true] at hg
        have hw := hg.2
        have hw' := hw
        simp only [wf1, Bool.and_eq_true, Bool.or_eq_true, decide_eq_true_eq] at hw'
        obtain ⟨dd, hd⟩ := Option.isSome_iff_exists.1 hw'.2
        obtain ⟨i, hi⟩ := info_of_under hd
        have hsz := cellsOf_info hi
        refine OK.quiet hk hf (v := if aggT E.P el then .agg ((vs.toList.drop (n.toNat * E.P.cellsOf el)).take (E.P.cellsOf el)).toArray else ((vs.toList.drop (n.toNat * E.P.cellsOf el)).take (E.P.cellsOf el)).getD 0 undef) ?_ (loaded_rel h1 hw h2)
        simp only [Instr.index, Sem.run_bind, asIntOf, Sem.run_pure, run_under k.w hu, Result.andThen_ok, ht.1, ht.2, and_self, if_true, run_sizeOf' k.w hi, part, run_isAgg k.w hd, ← hsz]
        cases ha : aggT E.P el with
        | true =>
          simp only [if_true, Sem.run_bind, run_sizeOf' k.w hi, Result.andThen_ok, Sem.run_pure, ← hsz]
          congr 2
          apply Array.ext'
          rw [Array.toList_extract]
          simp [List.extract, Nat.add_sub_cancel_left]
        | false =>
          have h1' : E.P.cellsOf el = 1 := by rcases hw'.1 with h | h <;> simp_all
          have hlt : n.toNat < vs.size := by rw [h1'] at h3; simp at h3; omega
          simp only [Bool.false_eq_true, if_false, h1', Nat.mul_one, Array.getElem?_eq_getElem hlt, Sem.run_pure]
          congr 1
          simp [List.getD_eq_getElem?_getD, List.getElem?_take, hlt]
    · rw [if_neg hg] at h; cases h
  · cases h

end Go.Ab

/-
  ONE OPERATION IS RIGHT: lengths, cuts, arithmetic, conversions that make nothing, what is taken out of results.
-/
set_option linter.unusedVariables false
set_option linter.unusedSimpArgs false
namespace Go.Ab
variable [Tabs]
open Go.RowKit (Below)

theorem wrap_range (k : IntKind) (n : Int) (h1 : k.min ≤ n) (h2 : n ≤ k.max) : k.wrap n = n := by
  cases k <;> simp [IntKind.wrap, IntKind.min, IntKind.max, IntKind.bits, IntKind.signed] at * <;> (try split) <;> omega

theorem wrap_bounds (k : IntKind) (n : Int) : k.min ≤ k.wrap n ∧ k.wrap n ≤ k.max := by
  cases k <;> simp [IntKind.wrap, IntKind.min, IntKind.max, IntKind.bits, IntKind.signed] <;> (try split) <;> omega

theorem wrap_wrap (k : IntKind) (n : Int) : k.wrap (k.wrap n) = k.wrap n := wrap_range k _ (wrap_bounds k n).1 (wrap_bounds k n).2

theorem ok_bounds {k : IntKind} {n : Int} (h : k.wrap n = n) : k.min ≤ n ∧ n ≤ k.max := by rw [← h]; exact wrap_bounds k n

theorem wrap_nat {n : Nat} (h : n ≤ MAXL) : IntKind.i64.wrap (n : Int) = n := wrap_range _ _ (by simp [IntKind.min, IntKind.signed, IntKind.bits] <;> omega) (by simp only [MAXL] at h; simp [IntKind.max, IntKind.signed, IntKind.bits]; omega)

theorem Hdr.len_le {N : Nat} {k : Kx} {n : Nat} {e : Ty} {xs : List e.den} {lo len : Nat} {v : Value} (hb : BRel k n (.arr e xs)) (h : Hdr (k.μ n) e lo len v) : ∃ a c, v = .slice a len c ∧ len ≤ c ∧ c ≤ MAXL := by
  unfold BRel at hb
  cases hm : k.μ n with
  | none => rw [hm] at h; obtain ⟨a, e1, e2, _⟩ := h; subst e2; exact ⟨a, 0, e1, Nat.le_refl _, by simp [MAXL]⟩
  | at_ B o cap =>
    rw [hm] at h hb
    obtain ⟨a, c, e1, h1, h2, _⟩ := h
    obtain ⟨row, E, fz, _, _, _, h3, _⟩ := hb
    exact ⟨a, c, e1, h1, by omega⟩

theorem len_sound {E : Env} {N : Nat} {k : Kx} (hk : HRel N k) {t : TypeId} {c : Cell} {v : Value} {n : Int} {ats : Array TypeId} {ty : TypeId} (hat : ats[0]? = some t) (hc : c ≠ .undef → CRel k c v)
    (h : lenA E (hget k.hp) t c = some n) : (Builtin.len_ ats ty #[v]).run E.P k.w = .ok (.int .i64 n) k.w ∧ IntKind.i64.wrap n = n := by
  unfold lenA at h
  split at h
  · rename_i el hu
    have fin : ∀ a (len c' : Nat), v = .slice a len c' → len ≤ MAXL → n = len → (Builtin.len_ ats ty #[v]).run E.P k.w = .ok (.int .i64 n) k.w ∧ IntKind.i64.wrap n = n := by
      intro a len c' hv hl hn
      subst hv; subst hn
      exact ⟨by simp [Builtin.len_, hat, run_under k.w hu, goInt], wrap_nat hl⟩
    cases c with
    | val ty xs =>
      cases ty with
      | slice e =>
        simp only [lenOfCell, if_true, Option.some.injEq] at h
        obtain ⟨a, cap, e1, h1, h2, _⟩ := hc (by simp)
        simp only [List.cons.injEq, and_true] at e1
        exact fin a _ cap e1 (by omega) h.symm
      | str => simp [lenOfCell] at h
      | _ => simp [lenOfCell] at h
    | clip e xs =>
      simp only [lenOfCell, if_true, Option.some.injEq] at h
      obtain ⟨a, e1, a', cap, e2, h1, h2, _⟩ := hc (by simp)
      exact fin a _ _ e1 (by omega) h.symm
    | nq b e xs =>
      simp only [lenOfCell, if_true, Option.some.injEq] at h
      obtain ⟨⟨a, cap, e1, h1, h2, _⟩, _⟩ := hc (by simp)
      simp only [List.cons.injEq, and_true] at e1
      exact fin a _ cap e1 (by omega) h.symm
    | nilS =>
      simp only [lenOfCell, if_true, Option.some.injEq] at h
      have hv : v = _ := hc (by simp)
      exact fin none 0 0 hv (by simp [MAXL]) (by rw [← h]; rfl)
    | own m e =>
      simp only [lenOfCell, if_true] at h
      cases hxs : arrAs e (hget k.hp m) with
      | none => rw [hxs] at h; cases h
      | some xs =>
        rw [hxs] at h
        simp only [Option.map_some, Option.some.injEq] at h
        have hb := arrAs_eq hxs
        obtain ⟨a, c', e1, h1, h2⟩ := Hdr.len_le (N := N) (hk.blk m _ hb) ((hc (by simp)).2 xs hb)
        exact fin a _ c' e1 (by omega) h.symm
    | sub m e lo hi =>
      simp only [lenOfCell, if_true] at h
      cases hxs : arrAs e (hget k.hp m) with
      | none => rw [hxs] at h; cases h
      | some xs =>
        rw [hxs] at h
        simp only [Option.map_some, Option.some.injEq] at h
        have hb := arrAs_eq hxs
        obtain ⟨h0, h3, h4, h5⟩ := (hc (by simp)).2 xs hb
        obtain ⟨a, c', e1, h1, h2⟩ := Hdr.len_le (N := N) (hk.blk m _ hb) h5
        exact fin a _ c' e1 (by omega) (by omega)
    | clp m e lo hi =>
      simp only [lenOfCell, if_true] at h
      cases hxs : arrAs e (hget k.hp m) with
      | none => rw [hxs] at h; cases h
      | some xs =>
        rw [hxs] at h
        simp only [Option.map_some, Option.some.injEq] at h
        have hb := arrAs_eq hxs
        obtain ⟨h0, h3, h4, _, h5⟩ := (hc (by simp)).2 xs hb
        obtain ⟨a, c', e1, h1, h2⟩ := Hdr.len_le (N := N) (hk.blk m _ hb) h5
        exact fin a _ c' e1 (by omega) (by omega)
    | _ => simp [lenOfCell] at h
  · rename_i hu
    cases c with
    | val ty' xs =>
      cases ty' with
      | str =>
        simp only [lenOfCell, Bool.false_eq_true, if_false, Option.some.injEq] at h
        obtain ⟨ba, e1, h1, h2⟩ := hc (by simp)
        simp only [List.cons.injEq, and_true] at e1
        subst e1
        have hl : xs.length = ba.size := by rw [h1, bytesOf_len]
        have : n = (ba.size : Int) := by rw [← h, ← hl]
        exact ⟨by simp [Builtin.len_, hat, run_under k.w hu, goInt, this], by rw [this]; exact wrap_nat h2⟩
      | slice e => simp [lenOfCell] at h
      | _ => simp [lenOfCell] at h
    | _ => simp [lenOfCell] at h
  · cases h

/-! ### arithmetic -/
theorem bit_ok (k : IntKind) (n : Int) : k.wrap (k.wrap n) = k.wrap n := wrap_wrap k n

theorem run_eqGuard_int {P : Program} (w : World) (op : BinOp) (t : TypeId) (x y : Operand) (q q' : IntKind) (a b : Int) : (eqGuard op t x y (.int q a) (.int q' b)).run P w = .ok () w := by
  cases op <;> rfl
theorem run_eqGuard_bool {P : Program} (w : World) (op : BinOp) (t : TypeId) (x y : Operand) (a b : Bool) : (eqGuard op t x y (.bool a) (.bool b)).run P w = .ok () w := by
  cases op <;> rfl
theorem run_eqGuard_str {P : Program} (w : World) (op : BinOp) (t : TypeId) (x y : Operand) (a b : ByteArray) : (eqGuard op t x y (.string a) (.string b)).run P w = .ok () w := by
  cases op <;> rfl

theorem tmod_le {a : Int} (b : Int) (h : 0 ≤ a) : a.tmod b ≤ a := by
  have h1 := Int.natAbs_tmod a b
  have h2 := Nat.mod_le a.natAbs b.natAbs
  have h3 := Int.tmod_nonneg b h
  omega

theorem tmod_bounds (k : IntKind) (a b : Int) (ha : k.wrap a = a) (hb : k.wrap b = b) (h0 : b ≠ 0) : k.wrap (a.tmod b) = a.tmod b := by
  have h1 := ok_bounds ha
  have h2 := ok_bounds hb
  apply wrap_range
  · rcases Int.le_total 0 a with h | h
    · have := Int.tmod_nonneg b h
      have : k.min ≤ 0 := by cases k <;> simp [IntKind.min, IntKind.signed, IntKind.bits]
      omega
    · have h3 : a ≤ a.tmod b := by
        have e := Int.neg_tmod (-a) b
        have h4 : (-a).tmod b ≤ -a := tmod_le b (by omega)
        rw [Int.neg_neg] at e
        omega
      omega
  · rcases Int.le_total 0 a with h | h
    · have : a.tmod b ≤ a := tmod_le b h
      omega
    · have h3 : a.tmod b ≤ 0 := by
        have e := Int.neg_tmod (-a) b
        have h4 : 0 ≤ (-a).tmod b := Int.tmod_nonneg b (by omega)
        rw [Int.neg_neg] at e
        omega
      have : 0 ≤ k.max := by cases k <;> simp [IntKind.max, IntKind.signed, IntKind.bits]
      omega

theorem shr_ok (k : IntKind) (a b : Int) (ha : k.wrap a = a) : k.wrap (shrI k a b) = shrI k a b := by
  have h1 := ok_bounds ha
  have hm : k.min ≤ 0 := by cases k <;> simp [IntKind.min, IntKind.signed, IntKind.bits]
  have hM : 0 ≤ k.max := by cases k <;> simp [IntKind.max, IntKind.signed, IntKind.bits]
  unfold shrI
  generalize min b.toNat k.bits = q
  have hp : (0 : Int) < 2 ^ q := Int.pow_pos (by omega)
  apply wrap_range
  · rw [Int.fdiv_eq_ediv_of_nonneg _ (by omega)]
    rcases Int.le_total 0 a with h | h
    · have := Int.ediv_nonneg h (Int.le_of_lt hp); omega
    · have : a ≤ a / 2 ^ q := by
        rw [Int.le_ediv_iff_mul_le hp]
        have : a * 2 ^ q ≤ a * 1 := Int.mul_le_mul_of_nonpos_left h (by omega)
        omega
      omega
  · rw [Int.fdiv_eq_ediv_of_nonneg _ (by omega)]
    rcases Int.le_total 0 a with h | h
    · have := Int.ediv_le_self (2 ^ q) h; omega
    · have : a / 2 ^ q ≤ 0 := Int.ediv_nonpos_of_nonpos_of_neg h hp
      omega


/-! ### texts in order -/
theorem toList_eq (ba : ByteArray) : ba.toList = ba.data.toList := by simp [ByteArray.toList_eq]

theorem bytesOf_inj {x y : ByteArray} : bytesOf x = bytesOf y ↔ x.data.toList = y.data.toList := by
  constructor
  · intro h
    have inj : ∀ (a b : List UInt8), a.map (fun b => (b.toNat : Int)) = b.map (fun b => (b.toNat : Int)) → a = b := by
      intro a
      induction a with
      | nil => intro b hb; cases b with
        | nil => rfl
        | cons c r => simp at hb
      | cons c r ih =>
        intro b hb
        cases b with
        | nil => simp at hb
        | cons d q =>
          simp only [List.map_cons, List.cons.injEq] at hb
          have : c = d := UInt8.toNat_inj.1 (by omega)
          rw [this, ih q hb.2]
    exact inj _ _ h
  · intro h; simp [bytesOf, h]

theorem bytesLess_eq : ∀ (a b : List UInt8), Op.bytesLess a b = strLess (a.map fun b => (b.toNat : Int)) (b.map fun b => (b.toNat : Int)) := by
  intro a
  induction a with
  | nil => intro b; cases b <;> rfl
  | cons c r ih =>
    intro b
    cases b with
    | nil => rfl
    | cons d q =>
      simp only [Op.bytesLess, List.map_cons, strLess, ih q]
      have h1 : (decide (c < d)) = decide ((c.toNat : Int) < d.toNat) := by
        rw [decide_eq_decide, UInt8.lt_iff_toNat_lt]; omega
      have h2 : (c == d) = decide ((c.toNat : Int) = d.toNat) := by
        rw [Bool.eq_iff_iff]
        simp only [beq_iff_eq, decide_eq_true_eq]
        constructor
        · intro h; rw [h]
        · intro h; exact UInt8.toNat_inj.1 (by omega)
      rw [h1, h2]

theorem bytesOf_append (x y : ByteArray) : bytesOf (x ++ y) = bytesOf x ++ bytesOf y := by
  simp [bytesOf, ByteArray.data_append]

/-! ### operators -/
theorem binOp_sound {k : Kx} {P : Program} {op : BinOp} {t : TypeId} {x y : Operand} {cx cy : Cell} {v u : Value} {r : Bool × Cell} (hx : cx ≠ .undef → CRel k cx v) (hy : cy ≠ .undef → CRel k cy u)
    (h : binOpA (boolT P t) op cx cy = some r) (ht : r.1 = true) : ∃ z, (do eqGuard op t x y v u; binOp op t v u : Sem Value).run P k.w = .ok z k.w ∧ CRel k r.2 z := by
  unfold binOpA at h
  split at h
  · rename_i q a q' b
    obtain ⟨ev, ha⟩ := hx (by simp)
    obtain ⟨eu, hb⟩ := hy (by simp)
    simp only [List.cons.injEq, and_true] at ev eu
    subst ev; subst eu
    rw [Sem.run_bind, run_eqGuard_int, Result.andThen_ok]
    split at h
    · simp only [Option.some.injEq] at h
      subst h
      have ht : (0 : Int) ≤ b := of_decide_eq_true ht
      refine ⟨.int q (shlI q a b), ?_, rfl, ?_⟩
      · simp only [binOp, Op.shift]
        rw [if_neg (by omega)]
        rfl
      · exact wrap_wrap _ _
    · simp only [Option.some.injEq] at h
      subst h
      have ht : (0 : Int) ≤ b := of_decide_eq_true ht
      refine ⟨.int q (shrI q a b), ?_, rfl, shr_ok q a b ha⟩
      simp only [binOp, Op.shift]
      rw [if_neg (Int.not_lt.2 ht)]
      rfl
    · split at h
      · rename_i hq
        subst hq
        have w1 : ∀ n : Int, (binOp op t (.int q a) (.int q b)).run P k.w = .ok (.int q n) k.w → q.wrap n = n → ∃ z, (binOp op t (.int q a) (.int q b)).run P k.w = .ok z k.w ∧ CRel k (.val (.int q) n) z := fun n h1 h2 => ⟨_, h1, rfl, h2⟩
        have w2 : ∀ b' : Bool, (binOp op t (.int q a) (.int q b)).run P k.w = .ok (.bool b') k.w → ∃ z, (binOp op t (.int q a) (.int q b)).run P k.w = .ok z k.w ∧ CRel k (.val .bool b') z := fun n h1 => ⟨_, h1, rfl⟩
        cases op <;> simp only [intOp, Option.some.injEq] at h <;> (try contradiction) <;> (try subst h)
        case add => exact w1 _ (by simp [binOp, Op.intArith]) (wrap_wrap _ _)
        case sub => exact w1 _ (by simp [binOp, Op.intArith]) (wrap_wrap _ _)
        case mul => exact w1 _ (by simp [binOp, Op.intArith]) (wrap_wrap _ _)
        case quo =>
          simp only [decide_eq_true_eq] at ht
          exact w1 _ (by simp [binOp, Op.intDiv, ht]) (wrap_wrap _ _)
        case rem =>
          simp only [decide_eq_true_eq] at ht
          exact w1 _ (by simp [binOp, Op.intDiv, ht]) (tmod_bounds q a b ha hb ht)
        case and => exact w1 _ (by simp [binOp, Op.intBits, bitAnd]) (wrap_wrap _ _)
        case or => exact w1 _ (by simp [binOp, Op.intBits, bitOr]) (wrap_wrap _ _)
        case xor => exact w1 _ (by simp [binOp, Op.intBits, bitXor]) (wrap_wrap _ _)
        case andNot => exact w1 _ (by simp [binOp, Op.intBits, bitAndNot]) (wrap_wrap _ _)
        case eql => exact w2 _ (by simp [binOp, Op.intCmp]; rfl)
        case neq => exact w2 _ (by simp [binOp, Op.intCmp]; rfl)
        case lss => exact w2 _ (by simp [binOp, Op.intCmp])
        case leq => exact w2 _ (by simp [binOp, Op.intCmp])
        case gtr => exact w2 _ (by simp [binOp, Op.intCmp])
        case geq => exact w2 _ (by simp [binOp, Op.intCmp])
      · cases h
  · rename_i a b
    have ev : [v] = [.bool a] := hx (by simp)
    have eu : [u] = [.bool b] := hy (by simp)
    simp only [List.cons.injEq, and_true] at ev eu
    subst ev; subst eu
    rw [Sem.run_bind, run_eqGuard_bool, Result.andThen_ok]
    split at h
    · rename_i hb
      have hu : P.underlying t = some .bool := by
        unfold boolT at hb
        split at hb
        · assumption
        · cases hb
      have he : (Op.equal t (.bool a) (.bool b)).run P k.w = .ok (a == b) k.w := by
        have key : ∀ d : Nat, (Op.equalIn (d + 1) t (.bool a) (.bool b)).run P k.w = .ok (a == b) k.w := by
          intro d
          simp only [Op.equalIn, Sem.run_bind, run_under k.w hu, Result.andThen_ok]
          rfl
        exact key 9999
      cases op <;> simp only [Option.some.injEq] at h <;> (try contradiction) <;> (try subst h)
      case eql => exact ⟨.bool (a == b), by simp [binOp, he], rfl⟩
      case neq => exact ⟨.bool (!(a == b)), by simp [binOp, he], rfl⟩
    · cases h
  · rename_i a b
    obtain ⟨ba, ev, ha, hal⟩ := hx (by simp)
    obtain ⟨bb, eu, hb, hbl⟩ := hy (by simp)
    simp only [List.cons.injEq, and_true] at ev eu
    subst ev; subst eu
    rw [Sem.run_bind, run_eqGuard_str, Result.andThen_ok]
    have heq : (ba.toList == bb.toList) = decide (a = b) := by
      rw [Bool.eq_iff_iff, beq_iff_eq, decide_eq_true_eq, toList_eq, toList_eq, ha, hb, bytesOf_inj]
    have hlt : Op.bytesLess ba.toList bb.toList = strLess a b := by rw [bytesLess_eq, toList_eq, toList_eq, ha, hb]; rfl
    have w2 : ∀ b' : Bool, (binOp op t (.string ba) (.string bb)).run P k.w = .ok (.bool b') k.w → ∃ z, (binOp op t (.string ba) (.string bb)).run P k.w = .ok z k.w ∧ CRel k (.val .bool b') z := fun n h1 => ⟨_, h1, rfl⟩
    cases op <;> simp only [strOp, Option.some.injEq] at h <;> (try contradiction) <;> (try subst h)
    case add =>
      simp only [decide_eq_true_eq] at ht
      have hs : ba.size + bb.size ≤ 140737488355328 := by rw [← bytesOf_len ba, ← bytesOf_len bb, ← ha, ← hb]; exact ht
      refine ⟨.string (ba ++ bb), ?_, ba ++ bb, rfl, by rw [bytesOf_append, ha, hb], by simp [ByteArray.size_append, MAXL]; omega⟩
      have : ¬ ((ba.size + bb.size : Nat) : Int) > IntKind.i64.max := by simp [IntKind.max, IntKind.signed, IntKind.bits]; omega
      simp only [binOp, Op.stringOp]
      rw [if_neg this]
      rfl
    case eql => exact w2 _ (by simp [binOp, Op.stringOp, heq])
    case neq => exact w2 _ (by simp [binOp, Op.stringOp, heq])
    case lss => exact w2 _ (by simp [binOp, Op.stringOp, hlt])
    case leq => exact w2 _ (by simp [binOp, Op.stringOp, hlt, heq])
    case gtr => exact w2 _ (by simp [binOp, Op.stringOp, hlt, heq])
    case geq => exact w2 _ (by simp [binOp, Op.stringOp, hlt])
  · cases h

theorem unOp_sound {k : Kx} {P : Program} {op : UnOp} {c r : Cell} {v : Value} (hc : c ≠ .undef → CRel k c v) (h : unOpA op c = some r) : ∃ z, (Op.unary op v).run P k.w = .ok z k.w ∧ CRel k r z := by
  unfold unOpA at h
  split at h
  · rename_i q a
    obtain ⟨ev, ha⟩ := hc (by simp)
    simp only [List.cons.injEq, and_true] at ev
    subst ev
    simp only [Option.some.injEq] at h
    subst h
    exact ⟨_, rfl, rfl, wrap_wrap _ _⟩
  · rename_i q a
    obtain ⟨ev, ha⟩ := hc (by simp)
    simp only [List.cons.injEq, and_true] at ev
    subst ev
    simp only [Option.some.injEq] at h
    subst h
    exact ⟨_, rfl, rfl, wrap_wrap _ _⟩
  · rename_i b
    have ev : [v] = [.bool b] := hc (by simp)
    simp only [List.cons.injEq, and_true] at ev
    subst ev
    simp only [Option.some.injEq] at h
    subst h
    exact ⟨_, rfl, rfl⟩
  · cases h

end Go.Ab

/-
  ONE OPERATION IS RIGHT: cuts of texts and slices.
-/
set_option linter.unusedVariables false
set_option linter.unusedSimpArgs false
namespace Go.Ab
variable [Tabs]
open Go.RowKit (Below)

theorem bounds_iff {n l h : Int} : bounds n l h = true ↔ 0 ≤ l ∧ l ≤ h ∧ h ≤ n := by simp [bounds]

theorem bound_rel {k : Kx} {fr : Fr} {tmps : Array Value} (hf : FRel k fr tmps) {a : Act} (ha : a.tmps = tmps) {x : Option Operand} {d l : Int} (h : bound fr x d = some l) :
    (x = none ∧ l = d) ∨ (∃ o q, x = some o ∧ a.eval o = .int q l) := by
  unfold bound at h
  split at h
  · simp only [Option.some.injEq] at h; exact Or.inl ⟨rfl, h.symm⟩
  · rename_i o
    obtain ⟨q, h1, _⟩ := intAt_rel hf ha h
    exact Or.inr ⟨o, q, rfl, h1⟩

theorem run_sliceBound (P : Program) (w : World) (q : IntKind) (i : Int) (y : Nat) (code : BoundsCode) (h0 : 0 ≤ i) (h1 : i ≤ y) : (Instr.sliceBound (.int q i) y code).run P w = .ok i.toNat w := by
  simp [Instr.sliceBound, asIntOf, h0, h1]

/-- The bounds of x[l:h]. -/
theorem run_bounds2 {k : Kx} {P : Program} {fr : Fr} {tmps : Array Value} (hf : FRel k fr tmps) {a : Act} (ha : a.tmps = tmps) {lo hi : Option Operand} {l h : Int} {len cap : Nat} (b : Bool)
    (hl : bound fr lo 0 = some l) (hh : bound fr hi len = some h) (ht : bounds len l h = true) (hc : len ≤ cap) :
    (Instr.sliceBounds b len cap (lo.map a.eval) (hi.map a.eval) none).run P k.w = .ok (l.toNat, h.toNat, cap) k.w := by
  rw [bounds_iff] at ht
  rcases bound_rel hf ha hl with ⟨rfl, rfl⟩ | ⟨ol, ql, rfl, el⟩ <;> rcases bound_rel hf ha hh with ⟨rfl, rfl⟩ | ⟨oh, qh, rfl, eh⟩
  · simp [Instr.sliceBounds]
  · simp [Instr.sliceBounds, eh, run_sliceBound P k.w qh h cap _ (by omega) (by omega)]
  · simp [Instr.sliceBounds, el, run_sliceBound P k.w ql l len _ (by omega) (by omega)]
  · simp [Instr.sliceBounds, el, eh, run_sliceBound P k.w qh h cap _ (by omega) (by omega), run_sliceBound P k.w ql l h.toNat _ (by omega) (by omega)]

theorem run_bounds3 {k : Kx} {P : Program} {fr : Fr} {tmps : Array Value} (hf : FRel k fr tmps) {a : Act} (ha : a.tmps = tmps) {lo hi : Option Operand} {mx : Operand} {l h m : Int} {len cap : Nat}
    (hl : bound fr lo 0 = some l) (hh : bound fr hi len = some h) (hm : intAt fr mx = some m) (ht : bounds len l h = true) (he : m = h) (hc : len ≤ cap) (hhi : hi ≠ none) :
    (Instr.sliceBounds true len cap (lo.map a.eval) (hi.map a.eval) ((some mx).map a.eval)).run P k.w = .ok (l.toNat, h.toNat, h.toNat) k.w := by
  rw [bounds_iff] at ht
  obtain ⟨qm, em, _⟩ := intAt_rel hf ha hm
  subst he
  rcases bound_rel hf ha hh with ⟨rfl, rfl⟩ | ⟨oh, qh, rfl, eh⟩
  · exact absurd rfl hhi
  · rcases bound_rel hf ha hl with ⟨rfl, rfl⟩ | ⟨ol, ql, rfl, el⟩
    · simp [Instr.sliceBounds, eh, em, run_sliceBound P k.w qm m cap _ (by omega) (by omega), run_sliceBound P k.w qh m m.toNat _ (by omega) (by omega)]
    · simp [Instr.sliceBounds, el, eh, em, run_sliceBound P k.w qm m cap _ (by omega) (by omega), run_sliceBound P k.w qh m m.toNat _ (by omega) (by omega), run_sliceBound P k.w ql l m.toNat _ (by omega) (by omega)]

theorem extract_bytes (s : ByteArray) (l h : Nat) (hh : h ≤ s.size) : bytesOf (s.extract l h) = ((bytesOf s).drop l).take (h - l) := by
  simp only [bytesOf, ByteArray.data_extract, Array.toList_extract, List.extract, List.map_take, List.map_drop]

theorem run_sliceAt_slice {P : Program} {w : World} {t el : TypeId} {i : TypeInfo} (hu : P.underlying t = some (.slice el)) (hi : P.info? el = some i) (a : Option Addr) (len cap : Nat) (lo hi' mx : Option Value) (l h m : Nat)
    (hb : (Instr.sliceBounds true len cap lo hi' mx).run P w = .ok (l, h, m) w) :
    (Instr.sliceAt t (.slice a len cap) lo hi' mx).run P w = .ok (.slice (if m = l then a else a.map (·.add (l * i.size))) (h - l) (m - l)) w := by
  simp only [Instr.sliceAt, Sem.run_bind, run_under w hu, Result.andThen_ok, Instr.slice, hb, run_sizeOf' w hi, Sem.run_pure]

theorem cut_len {α : Type} {xs : List α} {l h : Int} (h0 : 0 ≤ l) (h1 : l ≤ h) (h2 : h ≤ (xs.length : Int)) : (cut xs l h).length = (h - l).toNat := by
  simp [cut]; omega

/-- A part of a slice that is read. -/
theorem cut_rel {w : World} {O : Nat → Prop} {e : Ty} {xs : List e.den} {a : Option Addr} {cap : Nat} (hv : VRel w O (.slice e) xs [.slice a xs.length cap]) {l h : Int} {m : Nat} (h0 : 0 ≤ l) (h1 : l ≤ h) (h2 : h ≤ (xs.length : Int)) (hm : h.toNat ≤ m) (hm2 : m ≤ cap) :
    VRel w O (.slice e) (cut xs l h) [.slice (if m = l.toNat then a else a.map (·.add (l.toNat * e.size))) (h.toNat - l.toNat) (m - l.toNat)] := by
  obtain ⟨a', cap', e1, h3, h4, h5⟩ := hv
  simp only [List.cons.injEq, Value.slice.injEq, and_true] at e1
  obtain ⟨ea, _, ec⟩ := e1
  subst ea; subst ec
  have hcl := cut_len h0 h1 h2
  refine ⟨_, _, by rw [hcl]; congr 2; omega, by rw [hcl]; omega, by omega, fun hx => ?_⟩
  have hpos : 0 < (h - l).toNat := by
    rcases Nat.eq_zero_or_pos (h - l).toNat with hz | hz
    · exact absurd (List.eq_nil_of_length_eq_zero (hcl.trans hz)) hx
    · exact hz
  obtain ⟨B, o, row, T, fz, e2, hO, hrow, hs, hv⟩ := h5 (by intro he; rw [he] at h2; simp at h2; omega)
  subst e2
  refine ⟨B, o + l.toNat * e.size, row, T, fz, ?_, hO, hrow, ?_, fun i hi => ?_⟩
  · rw [if_neg (by omega)]
    simp only [Option.map_some, add0]
  · rw [hcl]
    have : (l.toNat + (h - l).toNat) * e.size ≤ xs.length * e.size := Nat.mul_le_mul_right _ (by omega)
    rw [Nat.add_mul] at this
    omega
  · rw [hcl] at hi
    have hlt : l.toNat + i < xs.length := by omega
    have := hv (l.toNat + i) hlt
    have e3 : (cut xs l h)[i]'(by rw [hcl]; exact hi) = xs[l.toNat + i] := by simp [cut]
    rw [e3]
    have e4 : o + (l.toNat + i) * e.size = o + l.toNat * e.size + i * e.size := by rw [Nat.add_mul]; omega
    rw [e4] at this
    exact this

/-- A part of a block of the call's own. -/
theorem Hdr.cut {L : Loc} {e : Ty} {lo len : Nat} {v : Value} (hh : Hdr L e lo len v) {l h : Nat} (h1 : l ≤ h) (h2 : h ≤ len) :
    ∃ a c, v = .slice a len c ∧ len ≤ c ∧ Hdr L e (lo + l) (h - l) (.slice (if c = l then a else a.map (·.add (l * e.size))) (h - l) (c - l)) ∧ PB L a := by
  cases L with
  | none =>
    obtain ⟨a, e1, e2, e3⟩ := hh
    subst e2
    obtain rfl : l = 0 := by omega
    obtain rfl : h = 0 := by omega
    exact ⟨a, 0, e1, Nat.le_refl _, ⟨a, by simp, rfl, e3⟩, e3⟩
  | at_ B o cap =>
    obtain ⟨a, c, e1, h3, h4, h5⟩ := hh
    have hpa : PB (.at_ B o cap) a := by
      rcases h5 with h5 | h5
      · exact ⟨_, h5⟩
      · exact h5.2
    refine ⟨a, c, e1, h3, ⟨_, _, rfl, by omega, by omega, ?_⟩, hpa⟩
    by_cases hc : c = l
    · refine Or.inr ⟨by omega, ?_⟩
      rw [if_pos hc]
      exact hpa
    · refine Or.inl ?_
      rw [if_neg hc]
      rcases h5 with h5 | h5
      · subst h5
        simp only [Option.map_some, add0, Nat.add_mul]
        congr 2
        omega
      · omega

theorem Hdr.clip3 {L : Loc} {e : Ty} {lo c l h sz : Nat} {a' : Option Addr} (h3 : Hdr L e lo (h - l) (.slice (if c = l then a' else a'.map (·.add (l * sz))) (h - l) (c - l))) (h1 : l ≤ h) (h2 : h ≤ c) (hp : PB L a') :
    Hdr L e lo (h - l) (.slice (if h = l then a' else a'.map (·.add (l * sz))) (h - l) (h - l)) := by
  cases L with
  | none =>
    obtain ⟨a, e1, e2, e3⟩ := h3
    simp only [Value.slice.injEq] at e1
    refine ⟨_, by rw [e2], e2, ?_⟩
    have : c = l := by omega
    have : h = l := by omega
    rw [if_pos (by omega)] at e1
    rw [if_pos (by omega), e1.1]
    exact e3
  | at_ B o cap =>
    obtain ⟨a, c', e1, g1, g2, g3⟩ := h3
    simp only [Value.slice.injEq] at e1
    obtain ⟨e1, _, e2⟩ := e1
    refine ⟨_, h - l, rfl, Nat.le_refl _, by omega, ?_⟩
    by_cases hh : h = l
    · refine Or.inr ⟨by omega, ?_⟩
      rw [if_pos hh]
      exact hp
    · refine Or.inl ?_
      have hc : ¬ c = l := by omega
      rw [if_neg hc] at e1
      rw [if_neg hh, e1]
      rcases g3 with g3 | g3
      · exact g3
      · omega

theorem slice_sound {E : Env} {N : Nat} {k : Kx} {fr : Fr} {tmps : Array Value} (hk : HRel N k) (hf : FRel k fr tmps) {a : Act} (ha : a.tmps = tmps) {t : TypeId} {c : Cell} {v : Value} {lo hi mx : Option Operand} {out : Out}
    (hc : c ≠ .undef → CRel k c v) (h : sliceA E (hget k.hp) fr t c lo hi mx = some out) (ht : out.test = true) :
    OK E N k fr tmps out (Instr.sliceAt t v (lo.map a.eval) (hi.map a.eval) (mx.map a.eval)) := by
  unfold sliceA at h
  split at h
  · -- a text
    rename_i hu
    split at h
    · rename_i s
      split at h
      · rename_i l r hl hr
        simp only [Option.some.injEq] at h
        subst h
        obtain ⟨ba, e1, hs, hsz⟩ := hc (by simp)
        simp only [List.cons.injEq, and_true] at e1
        subst e1
        have hlen : s.length = ba.size := by rw [hs, bytesOf_len]
        rw [hlen] at hr
        have ht' : bounds (ba.size : Int) l r = true := by rw [← hlen]; exact ht
        have hb := run_bounds2 (P := E.P) hf ha false hl hr ht' (Nat.le_refl _)
        rw [bounds_iff] at ht'
        refine OK.quiet hk hf (v := .string (ba.extract l.toNat r.toNat)) ?_ (Or.inr ⟨ba.extract l.toNat r.toNat, rfl, ?_, ?_⟩)
        · simp [Instr.sliceAt, run_under k.w hu, Instr.slice, hb]
        · rw [extract_bytes ba _ _ (by omega), ← hs]
          unfold cut
          congr 1
          omega
        · simp [ByteArray.size_extract]; omega
      · cases h
    · cases h
  · rename_i el hu
    split at h
    · -- x[l:h]
      cases c with
      | val ty xs =>
        cases ty with
        | slice e =>
          simp only at h
          split at h
          · rename_i hfit
            rw [fits_iff] at hfit
            split at h
            · rename_i l r hl hr
              simp only [Option.some.injEq] at h
              subst h
              have hv := hc (by simp)
              obtain ⟨i, hi'⟩ := info_of_cells (P := E.P) (t := el) (by omega)
              have hsz := cellsOf_info hi'
              have hv' := hv
              obtain ⟨a', cap, e1, h1, h2, _⟩ := hv'
              simp only [List.cons.injEq, and_true] at e1
              subst e1
              have hb := run_bounds2 (P := E.P) (cap := cap) hf ha true hl hr ht h1
              rw [bounds_iff] at ht
              refine OK.quiet hk hf (run_sliceAt_slice hu hi' a' _ cap _ _ _ _ _ _ hb) (Or.inr ?_)
              have := cut_rel hv (m := cap) ht.1 ht.2.1 ht.2.2 (by omega) (Nat.le_refl _)
              rw [show i.size = e.size by omega]
              exact this
            · cases h
          · cases h
        | _ => simp at h
      | own n e =>
        simp only at h
        cases hxs : arrAs e (hget k.hp n) with
        | none => rw [hxs] at h; cases h
        | some xs =>
          rw [hxs] at h
          simp only at h
          split at h
          · rename_i hfit
            rw [fits_iff] at hfit
            split at h
            · rename_i l r hl hr
              simp only [Option.some.injEq] at h
              subst h
              have hv := hc (by simp)
              obtain ⟨i, hi'⟩ := info_of_cells (P := E.P) (t := el) (by omega)
              have hsz := cellsOf_info hi'
              have hh := hv.2 xs (arrAs_eq hxs)
              have ht' := ht
              rw [bounds_iff] at ht'
              obtain ⟨a', cap, e1, h1, h3, hpa⟩ := hh.cut (l := l.toNat) (h := r.toNat) (by omega) (by omega)
              subst e1
              have hb := run_bounds2 (P := E.P) (cap := cap) hf ha true hl hr ht h1
              refine OK.quiet hk hf (run_sliceAt_slice hu hi' a' _ cap _ _ _ _ _ _ hb) (Or.inr ⟨⟨hv.1.1, rfl⟩, fun ys hys => ?_⟩)
              have : ys = xs := by
                have := arrAs_eq hxs
                rw [this] at hys
                simpa using hys.symm
              subst this
              refine ⟨ht'.1, ht'.2.1, ht'.2.2, ?_⟩
              rw [show i.size = e.size by omega, show (r - l).toNat = r.toNat - l.toNat by omega]
              simpa using h3
            · cases h
          · cases h
      | sub n e lo' hi' =>
        simp only at h
        cases hxs : arrAs e (hget k.hp n) with
        | none => rw [hxs] at h; cases h
        | some xs =>
          rw [hxs] at h
          simp only at h
          split at h
          · rename_i hfit
            rw [fits_iff] at hfit
            split at h
            · rename_i l r hl hr
              simp only [Option.some.injEq] at h
              subst h
              have hv := hc (by simp)
              obtain ⟨i, hi''⟩ := info_of_cells (P := E.P) (t := el) (by omega)
              have hsz := cellsOf_info hi''
              obtain ⟨g0, g1, g2, hh⟩ := hv.2 xs (arrAs_eq hxs)
              have ht' := ht
              rw [bounds_iff] at ht'
              obtain ⟨a', cap, e1, h1, h3, hpa⟩ := hh.cut (l := l.toNat) (h := r.toNat) (by omega) (by omega)
              subst e1
              have hlen : ((hi' - lo').toNat : Int) = hi' - lo' := by omega
              have hb := run_bounds2 (P := E.P) (cap := cap) (len := (hi' - lo').toNat) hf ha true hl (by rw [hlen]; exact hr) (by rw [hlen]; exact ht) h1
              refine OK.quiet hk hf (run_sliceAt_slice hu hi'' a' _ cap _ _ _ _ _ _ hb) (Or.inr ⟨⟨hv.1.1, rfl⟩, fun ys hys => ?_⟩)
              have : ys = xs := by
                have := arrAs_eq hxs
                rw [this] at hys
                simpa using hys.symm
              subst this
              refine ⟨by omega, by omega, by omega, ?_⟩
              rw [show i.size = e.size by omega, show (lo' + r - (lo' + l)).toNat = r.toNat - l.toNat by omega, show (lo' + l).toNat = lo'.toNat + l.toNat by omega]
              exact h3
            · cases h
          · cases h
      | nilS =>
        simp only at h
        split at h
        · rename_i hel
          split at h
          · rename_i l r hl hr
            simp only [Option.some.injEq] at h
            subst h
            have hv : v = _ := hc (by simp)
            subst hv
            obtain ⟨i, hi'⟩ := info_of_cells (P := E.P) (t := el) (by omega)
            have hb := run_bounds2 (P := E.P) (len := 0) (cap := 0) hf ha true hl hr ht (Nat.le_refl _)
            rw [bounds_iff] at ht
            have hl0 : l.toNat = 0 := by omega
            have hr0 : r.toNat = 0 := by omega
            rw [hl0, hr0] at hb
            refine OK.quiet hk hf (run_sliceAt_slice hu hi' none 0 0 _ _ _ _ _ _ hb) (Or.inr ?_)
            rfl
          · cases h
        · cases h
      | _ => simp at h
    · -- x[l:h:h]
      rename_i m0
      split at h
      · cases h
      · rename_i hhi
        have hhi : hi ≠ none := by intro e; rw [e] at hhi; simp at hhi
        cases c with
        | val ty xs =>
          cases ty with
          | slice e =>
            simp only at h
            split at h
            · rename_i hfit
              rw [fits_iff] at hfit
              split at h
              · rename_i l r m hl hr hm
                simp only [Option.some.injEq] at h
                subst h
                simp only [Bool.and_eq_true, decide_eq_true_eq] at ht
                obtain ⟨ht, hmr⟩ := ht
                have hv := hc (by simp)
                obtain ⟨i, hi'⟩ := info_of_cells (P := E.P) (t := el) (by omega)
                have hsz := cellsOf_info hi'
                have hv' := hv
                obtain ⟨a', cap, e1, h1, h2, _⟩ := hv'
                simp only [List.cons.injEq, and_true] at e1
                subst e1
                have hb := run_bounds3 (P := E.P) (cap := cap) hf ha hl hr hm ht hmr h1 hhi
                rw [bounds_iff] at ht
                refine OK.quiet hk hf (run_sliceAt_slice hu hi' a' _ cap _ _ _ _ _ _ hb) (Or.inr ?_)
                have := cut_rel hv (m := r.toNat) ht.1 ht.2.1 ht.2.2 (Nat.le_refl _) (by omega)
                rw [show i.size = e.size by omega]
                refine ⟨if r.toNat = l.toNat then a' else a'.map (·.add (l.toNat * e.size)), ?_, this⟩
                have hcl := cut_len ht.1 ht.2.1 ht.2.2
                rw [show (r - l).toNat = r.toNat - l.toNat by omega] at hcl
                exact congrArg (fun n => Value.slice (if r.toNat = l.toNat then a' else a'.map (·.add (l.toNat * e.size))) n n) hcl.symm
              · cases h
            · cases h
          | _ => simp at h
        | own n e =>
          simp only at h
          cases hxs : arrAs e (hget k.hp n) with
          | none => rw [hxs] at h; cases h
          | some xs =>
            rw [hxs] at h
            simp only at h
            split at h
            · rename_i hfit
              rw [fits_iff] at hfit
              split at h
              · rename_i l r m hl hr hm
                simp only [Option.some.injEq] at h
                subst h
                simp only [Bool.and_eq_true, decide_eq_true_eq] at ht
                obtain ⟨ht, hmr⟩ := ht
                have hv := hc (by simp)
                obtain ⟨i, hi'⟩ := info_of_cells (P := E.P) (t := el) (by omega)
                have hsz := cellsOf_info hi'
                have hh := hv.2 xs (arrAs_eq hxs)
                have ht' := ht
                rw [bounds_iff] at ht'
                obtain ⟨a', cap, e1, h1, h3, hpa⟩ := hh.cut (l := l.toNat) (h := r.toNat) (by omega) (by omega)
                subst e1
                have hb := run_bounds3 (P := E.P) (cap := cap) hf ha hl hr hm ht hmr h1 hhi
                refine OK.quiet hk hf (run_sliceAt_slice hu hi' a' _ cap _ _ _ _ _ _ hb) (Or.inr ⟨⟨hv.1.1, rfl⟩, fun ys hys => ?_⟩)
                have : ys = xs := by
                  have := arrAs_eq hxs
                  rw [this] at hys
                  simpa using hys.symm
                subst this
                rw [show i.size = e.size by omega, show (r - l).toNat = r.toNat - l.toNat by omega]
                refine ⟨ht'.1, ht'.2.1, ht'.2.2, ⟨_, rfl⟩, ?_⟩
                have h3' := Hdr.clip3 h3 (by omega) (by omega) hpa
                simp only [Nat.zero_add] at h3'
                exact h3'
              · cases h
            · cases h
        | nilS =>
          simp only at h
          split at h
          · rename_i hel
            split at h
            · rename_i l r m hl hr hm
              simp only [Option.some.injEq] at h
              subst h
              simp only [Bool.and_eq_true, decide_eq_true_eq] at ht
              obtain ⟨ht, hmr⟩ := ht
              have hv : v = _ := hc (by simp)
              subst hv
              obtain ⟨i, hi'⟩ := info_of_cells (P := E.P) (t := el) (by omega)
              have hb := run_bounds3 (P := E.P) (len := 0) (cap := 0) hf ha hl hr hm ht hmr (Nat.le_refl _) hhi
              rw [bounds_iff] at ht
              have hl0 : l.toNat = 0 := by omega
              have hr0 : r.toNat = 0 := by omega
              rw [hl0, hr0] at hb
              refine OK.quiet hk hf (run_sliceAt_slice hu hi' none 0 0 _ _ _ _ _ _ hb) (Or.inr ?_)
              rfl
            · cases h
          · cases h
        | _ => simp at h
  · cases h

end Go.Ab
