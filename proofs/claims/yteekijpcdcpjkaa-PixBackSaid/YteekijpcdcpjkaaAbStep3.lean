/-
  ONE OPERATION IS RIGHT: lengths, cuts, arithmetic, conversions that make nothing, what is taken out of results.
-/
import Derived.Test.YteekijpcdcpjkaaAbStep2
set_option linter.unusedVariables false
set_option linter.unusedSimpArgs false
namespace Go.Ab
open Go.RowKit (Below)

theorem wrap_range (k : IntKind) (n : Int) (h1 : k.min ≤ n) (h2 : n ≤ k.max) : k.wrap n = n := by
  cases k <;> simp [IntKind.wrap, IntKind.min, IntKind.max, IntKind.bits, IntKind.signed] at * <;> (try split) <;> omega

theorem wrap_bounds (k : IntKind) (n : Int) : k.min ≤ k.wrap n ∧ k.wrap n ≤ k.max := by
  cases k <;> simp [IntKind.wrap, IntKind.min, IntKind.max, IntKind.bits, IntKind.signed] <;> (try split) <;> omega

theorem wrap_wrap (k : IntKind) (n : Int) : k.wrap (k.wrap n) = k.wrap n := wrap_range k _ (wrap_bounds k n).1 (wrap_bounds k n).2

theorem ok_bounds {k : IntKind} {n : Int} (h : k.wrap n = n) : k.min ≤ n ∧ n ≤ k.max := by rw [← h]; exact wrap_bounds k n

theorem wrap_nat {n : Nat} (h : n ≤ MAXL) : IntKind.i64.wrap (n : Int) = n := wrap_range _ _ (by simp [IntKind.min, IntKind.signed, IntKind.bits] <;> omega) (by simp only [MAXL] at h; simp [IntKind.max, IntKind.signed, IntKind.bits]; omega)

theorem Hdr.len_le {N : Nat} {k : Kx} {n : Nat} {e : Ty} {xs : List e.den} {lo len : Nat} {v : Value} (hb : BRel k n (.arr e xs)) (h : Hdr (k.μ n) e lo len v) : ∃ a c, v = .slice a len c ∧ len ≤ c ∧ c ≤ MAXL := by
  unfold BRel at hb
  cases hm : k.μ n with
  | none => rw [hm] at h; obtain ⟨a, e1, e2⟩ := h; subst e2; exact ⟨a, 0, e1, Nat.le_refl _, by simp [MAXL]⟩
  | at_ B o cap =>
    rw [hm] at h hb
    obtain ⟨a, c, e1, h1, h2, _⟩ := h
    obtain ⟨row, E, fz, _, _, _, h3, _⟩ := hb
    exact ⟨a, c, e1, h1, by omega⟩

theorem len_sound {E : Env} {N : Nat} {k : Kx} (hk : HRel N k) {t : TypeId} {c : Cell} {v : Value} {n : Int} {ats : Array TypeId} {ty : TypeId} (hat : ats[0]? = some t) (hc : c ≠ .undef → CRel k c v)
    (h : lenA E (hget k.hp) t c = some n) : (Builtin.len_ ats ty #[v]).run E.P k.w = .ok (.int .i64 n) k.w ∧ IntKind.i64.wrap n = n := by
  unfold lenA at h
  split at h
  · rename_i el hu
    have fin : ∀ a (len c' : Nat), v = .slice a len c' → len ≤ MAXL → n = len → (Builtin.len_ ats ty #[v]).run E.P k.w = .ok (.int .i64 n) k.w ∧ IntKind.i64.wrap n = n := by
      intro a len c' hv hl hn
      subst hv; subst hn
      exact ⟨by simp [Builtin.len_, hat, run_under k.w hu, goInt], wrap_nat hl⟩
    cases c with
    | val ty xs =>
      cases ty with
      | slice e =>
        simp only [lenOfCell, if_true, Option.some.injEq] at h
        obtain ⟨a, cap, e1, h1, h2, _⟩ := hc (by simp)
        simp only [List.cons.injEq, and_true] at e1
        exact fin a _ cap e1 (by omega) h.symm
      | str => simp [lenOfCell] at h
      | _ => simp [lenOfCell] at h
    | clip e xs =>
      simp only [lenOfCell, if_true, Option.some.injEq] at h
      obtain ⟨a, e1, a', cap, e2, h1, h2, _⟩ := hc (by simp)
      exact fin a _ _ e1 (by omega) h.symm
    | nilS =>
      simp only [lenOfCell, if_true, Option.some.injEq] at h
      have hv : v = _ := hc (by simp)
      exact fin none 0 0 hv (by simp [MAXL]) (by rw [← h]; rfl)
    | own m e =>
      simp only [lenOfCell, if_true] at h
      cases hxs : arrAs e (hget k.hp m) with
      | none => rw [hxs] at h; cases h
      | some xs =>
        rw [hxs] at h
        simp only [Option.map_some, Option.some.injEq] at h
        have hb := arrAs_eq hxs
        obtain ⟨a, c', e1, h1, h2⟩ := Hdr.len_le (N := N) (hk.blk m _ hb) ((hc (by simp)).2 xs hb)
        exact fin a _ c' e1 (by omega) h.symm
    | sub m e lo hi =>
      simp only [lenOfCell, if_true] at h
      cases hxs : arrAs e (hget k.hp m) with
      | none => rw [hxs] at h; cases h
      | some xs =>
        rw [hxs] at h
        simp only [Option.map_some, Option.some.injEq] at h
        have hb := arrAs_eq hxs
        obtain ⟨h0, h3, h4, h5⟩ := (hc (by simp)).2 xs hb
        obtain ⟨a, c', e1, h1, h2⟩ := Hdr.len_le (N := N) (hk.blk m _ hb) h5
        exact fin a _ c' e1 (by omega) (by omega)
    | _ => simp [lenOfCell] at h
  · rename_i hu
    cases c with
    | val ty' xs =>
      cases ty' with
      | str =>
        simp only [lenOfCell, Bool.false_eq_true, if_false, Option.some.injEq] at h
        obtain ⟨ba, e1, h1, h2⟩ := hc (by simp)
        simp only [List.cons.injEq, and_true] at e1
        subst e1
        have hl : xs.length = ba.size := by rw [h1, bytesOf_len]
        have : n = (ba.size : Int) := by rw [← h, ← hl]
        exact ⟨by simp [Builtin.len_, hat, run_under k.w hu, goInt, this], by rw [this]; exact wrap_nat h2⟩
      | slice e => simp [lenOfCell] at h
      | _ => simp [lenOfCell] at h
    | _ => simp [lenOfCell] at h
  · cases h

/-! ### arithmetic -/
theorem bit_ok (k : IntKind) (n : Int) : k.wrap (k.wrap n) = k.wrap n := wrap_wrap k n

theorem run_eqGuard_int {P : Program} (w : World) (op : BinOp) (t : TypeId) (x y : Operand) (q q' : IntKind) (a b : Int) : (eqGuard op t x y (.int q a) (.int q' b)).run P w = .ok () w := by
  cases op <;> rfl
theorem run_eqGuard_bool {P : Program} (w : World) (op : BinOp) (t : TypeId) (x y : Operand) (a b : Bool) : (eqGuard op t x y (.bool a) (.bool b)).run P w = .ok () w := by
  cases op <;> rfl
theorem run_eqGuard_str {P : Program} (w : World) (op : BinOp) (t : TypeId) (x y : Operand) (a b : ByteArray) : (eqGuard op t x y (.string a) (.string b)).run P w = .ok () w := by
  cases op <;> rfl

theorem tmod_le {a : Int} (b : Int) (h : 0 ≤ a) : a.tmod b ≤ a := by
  have h1 := Int.natAbs_tmod a b
  have h2 := Nat.mod_le a.natAbs b.natAbs
  have h3 := Int.tmod_nonneg b h
  omega

theorem tmod_bounds (k : IntKind) (a b : Int) (ha : k.wrap a = a) (hb : k.wrap b = b) (h0 : b ≠ 0) : k.wrap (a.tmod b) = a.tmod b := by
  have h1 := ok_bounds ha
  have h2 := ok_bounds hb
  apply wrap_range
  · rcases Int.le_total 0 a with h | h
    · have := Int.tmod_nonneg b h
      have : k.min ≤ 0 := by cases k <;> simp [IntKind.min, IntKind.signed, IntKind.bits]
      omega
    · have h3 : a ≤ a.tmod b := by
        have e := Int.neg_tmod (-a) b
        have h4 : (-a).tmod b ≤ -a := tmod_le b (by omega)
        rw [Int.neg_neg] at e
        omega
      omega
  · rcases Int.le_total 0 a with h | h
    · have : a.tmod b ≤ a := tmod_le b h
      omega
    · have h3 : a.tmod b ≤ 0 := by
        have e := Int.neg_tmod (-a) b
        have h4 : 0 ≤ (-a).tmod b := Int.tmod_nonneg b (by omega)
        rw [Int.neg_neg] at e
        omega
      have : 0 ≤ k.max := by cases k <;> simp [IntKind.max, IntKind.signed, IntKind.bits]
      omega

theorem shr_ok (k : IntKind) (a b : Int) (ha : k.wrap a = a) : k.wrap (shrI k a b) = shrI k a b := by
  have h1 := ok_bounds ha
  have hm : k.min ≤ 0 := by cases k <;> simp [IntKind.min, IntKind.signed, IntKind.bits]
  have hM : 0 ≤ k.max := by cases k <;> simp [IntKind.max, IntKind.signed, IntKind.bits]
  unfold shrI
  generalize min b.toNat k.bits = q
  have hp : (0 : Int) < 2 ^ q := Int.pow_pos (by omega)
  apply wrap_range
  · rw [Int.fdiv_eq_ediv_of_nonneg _ (by omega)]
    rcases Int.le_total 0 a with h | h
    · have := Int.ediv_nonneg h (Int.le_of_lt hp); omega
    · have : a ≤ a / 2 ^ q := by
        rw [Int.le_ediv_iff_mul_le hp]
        have : a * 2 ^ q ≤ a * 1 := Int.mul_le_mul_of_nonpos_left h (by omega)
        omega
      omega
  · rw [Int.fdiv_eq_ediv_of_nonneg _ (by omega)]
    rcases Int.le_total 0 a with h | h
    · have := Int.ediv_le_self (2 ^ q) h; omega
    · have : a / 2 ^ q ≤ 0 := Int.ediv_nonpos_of_nonpos_of_neg h hp
      omega


/-! ### texts in order -/
theorem toList_eq (ba : ByteArray) : ba.toList = ba.data.toList := by simp [ByteArray.toList_eq]

theorem bytesOf_inj {x y : ByteArray} : bytesOf x = bytesOf y ↔ x.data.toList = y.data.toList := by
  constructor
  · intro h
    have inj : ∀ (a b : List UInt8), a.map (fun b => (b.toNat : Int)) = b.map (fun b => (b.toNat : Int)) → a = b := by
      intro a
      induction a with
      | nil => intro b hb; cases b with
        | nil => rfl
        | cons c r => simp at hb
      | cons c r ih =>
        intro b hb
        cases b with
        | nil => simp at hb
        | cons d q =>
          simp only [List.map_cons, List.cons.injEq] at hb
          have : c = d := UInt8.toNat_inj.1 (by omega)
          rw [this, ih q hb.2]
    exact inj _ _ h
  · intro h; simp [bytesOf, h]

theorem bytesLess_eq : ∀ (a b : List UInt8), Op.bytesLess a b = strLess (a.map fun b => (b.toNat : Int)) (b.map fun b => (b.toNat : Int)) := by
  intro a
  induction a with
  | nil => intro b; cases b <;> rfl
  | cons c r ih =>
    intro b
    cases b with
    | nil => rfl
    | cons d q =>
      simp only [Op.bytesLess, List.map_cons, strLess, ih q]
      have h1 : (decide (c < d)) = decide ((c.toNat : Int) < d.toNat) := by
        rw [decide_eq_decide, UInt8.lt_iff_toNat_lt]; omega
      have h2 : (c == d) = decide ((c.toNat : Int) = d.toNat) := by
        rw [Bool.eq_iff_iff]
        simp only [beq_iff_eq, decide_eq_true_eq]
        constructor
        · intro h; rw [h]
        · intro h; exact UInt8.toNat_inj.1 (by omega)
      rw [h1, h2]

theorem bytesOf_append (x y : ByteArray) : bytesOf (x ++ y) = bytesOf x ++ bytesOf y := by
  simp [bytesOf, ByteArray.data_append]

/-! ### operators -/
theorem binOp_sound {k : Kx} {P : Program} {op : BinOp} {t : TypeId} {x y : Operand} {cx cy : Cell} {v u : Value} {r : Bool × Cell} (hx : cx ≠ .undef → CRel k cx v) (hy : cy ≠ .undef → CRel k cy u)
    (h : binOpA (boolT P t) op cx cy = some r) (ht : r.1 = true) : ∃ z, (do eqGuard op t x y v u; binOp op t v u : Sem Value).run P k.w = .ok z k.w ∧ CRel k r.2 z := by
  unfold binOpA at h
  split at h
  · rename_i q a q' b
    obtain ⟨ev, ha⟩ := hx (by simp)
    obtain ⟨eu, hb⟩ := hy (by simp)
    simp only [List.cons.injEq, and_true] at ev eu
    subst ev; subst eu
    rw [Sem.run_bind, run_eqGuard_int, Result.andThen_ok]
    split at h
    · simp only [Option.some.injEq] at h
      subst h
      have ht : (0 : Int) ≤ b := of_decide_eq_true ht
      refine ⟨.int q (shlI q a b), ?_, rfl, ?_⟩
      · simp only [binOp, Op.shift]
        rw [if_neg (by omega)]
        rfl
      · exact wrap_wrap _ _
    · simp only [Option.some.injEq] at h
      subst h
      have ht : (0 : Int) ≤ b := of_decide_eq_true ht
      refine ⟨.int q (shrI q a b), ?_, rfl, shr_ok q a b ha⟩
      simp only [binOp, Op.shift]
      rw [if_neg (Int.not_lt.2 ht)]
      rfl
    · split at h
      · rename_i hq
        subst hq
        have w1 : ∀ n : Int, (binOp op t (.int q a) (.int q b)).run P k.w = .ok (.int q n) k.w → q.wrap n = n → ∃ z, (binOp op t (.int q a) (.int q b)).run P k.w = .ok z k.w ∧ CRel k (.val (.int q) n) z := fun n h1 h2 => ⟨_, h1, rfl, h2⟩
        have w2 : ∀ b' : Bool, (binOp op t (.int q a) (.int q b)).run P k.w = .ok (.bool b') k.w → ∃ z, (binOp op t (.int q a) (.int q b)).run P k.w = .ok z k.w ∧ CRel k (.val .bool b') z := fun n h1 => ⟨_, h1, rfl⟩
        cases op <;> simp only [intOp, Option.some.injEq] at h <;> (try contradiction) <;> (try subst h)
        case add => exact w1 _ (by simp [binOp, Op.intArith]) (wrap_wrap _ _)
        case sub => exact w1 _ (by simp [binOp, Op.intArith]) (wrap_wrap _ _)
        case mul => exact w1 _ (by simp [binOp, Op.intArith]) (wrap_wrap _ _)
        case quo =>
          simp only [decide_eq_true_eq] at ht
          exact w1 _ (by simp [binOp, Op.intDiv, ht]) (wrap_wrap _ _)
        case rem =>
          simp only [decide_eq_true_eq] at ht
          exact w1 _ (by simp [binOp, Op.intDiv, ht]) (tmod_bounds q a b ha hb ht)
        case and => exact w1 _ (by simp [binOp, Op.intBits, bitAnd]) (wrap_wrap _ _)
        case or => exact w1 _ (by simp [binOp, Op.intBits, bitOr]) (wrap_wrap _ _)
        case xor => exact w1 _ (by simp [binOp, Op.intBits, bitXor]) (wrap_wrap _ _)
        case andNot => exact w1 _ (by simp [binOp, Op.intBits, bitAndNot]) (wrap_wrap _ _)
        case eql => exact w2 _ (by simp [binOp, Op.intCmp]; rfl)
        case neq => exact w2 _ (by simp [binOp, Op.intCmp]; rfl)
        case lss => exact w2 _ (by simp [binOp, Op.intCmp])
        case leq => exact w2 _ (by simp [binOp, Op.intCmp])
        case gtr => exact w2 _ (by simp [binOp, Op.intCmp])
        case geq => exact w2 _ (by simp [binOp, Op.intCmp])
      · cases h
  · rename_i a b
    have ev : [v] = [.bool a] := hx (by simp)
    have eu : [u] = [.bool b] := hy (by simp)
    simp only [List.cons.injEq, and_true] at ev eu
    subst ev; subst eu
    rw [Sem.run_bind, run_eqGuard_bool, Result.andThen_ok]
    split at h
    · rename_i hb
      have hu : P.underlying t = some .bool := by
        unfold boolT at hb
        split at hb
        · assumption
        · cases hb
      have he : (Op.equal t (.bool a) (.bool b)).run P k.w = .ok (a == b) k.w := by
        have key : ∀ d : Nat, (Op.equalIn (d + 1) t (.bool a) (.bool b)).run P k.w = .ok (a == b) k.w := by
          intro d
          simp only [Op.equalIn, Sem.run_bind, run_under k.w hu, Result.andThen_ok]
          rfl
        exact key 9999
      cases op <;> simp only [Option.some.injEq] at h <;> (try contradiction) <;> (try subst h)
      case eql => exact ⟨.bool (a == b), by simp [binOp, he], rfl⟩
      case neq => exact ⟨.bool (!(a == b)), by simp [binOp, he], rfl⟩
    · cases h
  · rename_i a b
    obtain ⟨ba, ev, ha, hal⟩ := hx (by simp)
    obtain ⟨bb, eu, hb, hbl⟩ := hy (by simp)
    simp only [List.cons.injEq, and_true] at ev eu
    subst ev; subst eu
    rw [Sem.run_bind, run_eqGuard_str, Result.andThen_ok]
    have heq : (ba.toList == bb.toList) = decide (a = b) := by
      rw [Bool.eq_iff_iff, beq_iff_eq, decide_eq_true_eq, toList_eq, toList_eq, ha, hb, bytesOf_inj]
    have hlt : Op.bytesLess ba.toList bb.toList = strLess a b := by rw [bytesLess_eq, toList_eq, toList_eq, ha, hb]; rfl
    have w2 : ∀ b' : Bool, (binOp op t (.string ba) (.string bb)).run P k.w = .ok (.bool b') k.w → ∃ z, (binOp op t (.string ba) (.string bb)).run P k.w = .ok z k.w ∧ CRel k (.val .bool b') z := fun n h1 => ⟨_, h1, rfl⟩
    cases op <;> simp only [strOp, Option.some.injEq] at h <;> (try contradiction) <;> (try subst h)
    case add =>
      simp only [decide_eq_true_eq] at ht
      have hs : ba.size + bb.size ≤ 140737488355328 := by rw [← bytesOf_len ba, ← bytesOf_len bb, ← ha, ← hb]; exact ht
      refine ⟨.string (ba ++ bb), ?_, ba ++ bb, rfl, by rw [bytesOf_append, ha, hb], by simp [ByteArray.size_append, MAXL]; omega⟩
      have : ¬ ((ba.size + bb.size : Nat) : Int) > IntKind.i64.max := by simp [IntKind.max, IntKind.signed, IntKind.bits]; omega
      simp only [binOp, Op.stringOp]
      rw [if_neg this]
      rfl
    case eql => exact w2 _ (by simp [binOp, Op.stringOp, heq])
    case neq => exact w2 _ (by simp [binOp, Op.stringOp, heq])
    case lss => exact w2 _ (by simp [binOp, Op.stringOp, hlt])
    case leq => exact w2 _ (by simp [binOp, Op.stringOp, hlt, heq])
    case gtr => exact w2 _ (by simp [binOp, Op.stringOp, hlt, heq])
    case geq => exact w2 _ (by simp [binOp, Op.stringOp, hlt])
  · cases h

theorem unOp_sound {k : Kx} {P : Program} {op : UnOp} {c r : Cell} {v : Value} (hc : c ≠ .undef → CRel k c v) (h : unOpA op c = some r) : ∃ z, (Op.unary op v).run P k.w = .ok z k.w ∧ CRel k r z := by
  unfold unOpA at h
  split at h
  · rename_i q a
    obtain ⟨ev, ha⟩ := hc (by simp)
    simp only [List.cons.injEq, and_true] at ev
    subst ev
    simp only [Option.some.injEq] at h
    subst h
    exact ⟨_, rfl, rfl, wrap_wrap _ _⟩
  · rename_i q a
    obtain ⟨ev, ha⟩ := hc (by simp)
    simp only [List.cons.injEq, and_true] at ev
    subst ev
    simp only [Option.some.injEq] at h
    subst h
    exact ⟨_, rfl, rfl, wrap_wrap _ _⟩
  · rename_i b
    have ev : [v] = [.bool b] := hc (by simp)
    simp only [List.cons.injEq, and_true] at ev
    subst ev
    simp only [Option.some.injEq] at h
    subst h
    exact ⟨_, rfl, rfl⟩
  · cases h

end Go.Ab
