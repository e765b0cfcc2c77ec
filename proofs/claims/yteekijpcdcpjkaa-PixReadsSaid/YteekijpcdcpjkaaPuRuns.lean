/-
  PLAIN LAW: bytes as runs: arch.Pack and the reference's Ran come to the same runs; slices.Repeat, slices.Equal.
-/
import Derived.Test.YteekijpcdcpjkaaPuEq
set_option linter.unusedVariables false
set_option linter.unusedSimpArgs false
namespace Go.Proofs.Yteekijpcdcpjkaa
open Go Go.Ab

/-! ### slices.Repeat of one byte -/
theorem mul64_small (N : Nat) (x y : Int) (hx : 0 ≤ x) (hx' : x < 4294967296) (hy : 0 ≤ y) (hy' : y < 2147483648) : bits_Mul N x y = some (0, x * y) := by
  have hxy : 0 ≤ x * y := Int.mul_nonneg hx hy
  have hxy' : x * y ≤ 4294967295 * 2147483647 := Int.mul_le_mul (by omega) (by omega) hy (by omega)
  unfold bits_Mul bits_Mul64
  simp only [gate_pos (show decide (0 ≤ (32 : Int)) = true from rfl)]
  have e1 : bitAnd .u64 x 4294967295 = x := by rw [bitAnd_mask32 hx (by omega)]; omega
  have e2 : bitAnd .u64 y 4294967295 = y := by rw [bitAnd_mask32 hy (by omega)]; omega
  have sh : ∀ z : Int, shrI .u64 z 32 = z / 4294967296 := fun z => by
    have := shrI_nat .u64 (x := z) 32 (by decide)
    simpa using this
  have e3 : x / 4294967296 = 0 := by omega
  have e4 : y / 4294967296 = 0 := by omega
  rw [e1, e2]
  simp only [sh, e3, e4, Int.zero_mul, Int.mul_zero, Int.zero_add, Int.add_zero]
  rw [wu64 hxy (by omega), wu64 (x := 0) (by omega) (by omega)]
  have d1 : 0 ≤ x * y / 4294967296 := Int.ediv_nonneg hxy (by omega)
  have d2 : x * y / 4294967296 < 2147483648 := by omega
  simp only [Int.zero_add]
  rw [wu64 d1 (by omega), bitAnd_mask32 d1 (by omega)]
  have d3 : x * y / 4294967296 % 4294967296 = x * y / 4294967296 := by omega
  have d4 : x * y / 4294967296 / 4294967296 = 0 := by omega
  have z : IntKind.wrap .u64 0 = 0 := wu64 (by omega) (by omega)
  simp only [d3, d4, z, Int.add_zero, Int.zero_add]
  rw [wu64 d1 (by omega), d4, z]
  rfl

/-- a list's head overwritten -/
theorem over_rep (n m L : Nat) (c d : Int) (hm : m ≤ n) (hL : n + m ≤ L) : over (List.replicate n c ++ List.replicate (L - n) d) (List.replicate n c) n m = List.replicate (n + m) c ++ List.replicate (L - (n + m)) d := by
  unfold over
  rw [List.take_left' (by simp), List.drop_append, List.take_replicate, Nat.min_eq_left hm]
  simp only [List.length_replicate, List.drop_replicate]
  rw [show n - (n + m) = 0 by omega, show n + m - n = m by omega, show L - n - m = L - (n + m) by omega, ← List.replicate_append_replicate]
  simp

theorem repeat_loop {R : Type} (N : Nat) (s : R) (k0 : (List Int × Unit) → R) (c : Int) (L : Nat) (hL : L ≤ 140737488355328) (Q : R → Prop) (h0 : Q (k0 (List.replicate L c, ())))
    (k n : Nat) (hk : 1 ≤ k ∨ L = 0) (hkL : k ≤ L) (hn : L < n) : Q (iter (slices_Repeat_byte.s0 N s k0 ()) s n (List.replicate k c ++ List.replicate (L - k) 0, (k : Int), ())) := by
  refine iter_rule (fun v => ∃ k : Nat, (1 ≤ k ∨ L = 0) ∧ k ≤ L ∧ v = (List.replicate k c ++ List.replicate (L - k) 0, (k : Int), ())) (fun v => L - v.2.1.toNat) Q ?_ n _ ⟨k, hk, hkL, rfl⟩ (by simp; omega)
  rintro v again ⟨k, hk, hkL, rfl⟩ hag
  unfold slices_Repeat_byte.s0
  simp only [decide_eq_true_eq, List.length_append, List.length_replicate]
  have e : k + (L - k) = L := by omega
  rw [e]
  by_cases hlt : k < L
  · rw [if_pos (by omega), gate_pos (bounds_of (by omega) (by omega) (by omega)), gate_pos (bounds_of (by omega) (by omega) (by omega))]
    have ec : cut (List.replicate k c ++ List.replicate (L - k) 0) 0 (k : Int) = List.replicate k c := by
      have := cut_nat (List.replicate k c ++ List.replicate (L - k) (0 : Int)) 0 k (Nat.zero_le _)
      simp only [Int.natCast_zero, List.drop_zero, Nat.sub_zero] at this
      rw [this, List.take_left' (by simp)]
    rw [ec]
    simp only [List.length_replicate, Int.toNat_natCast]
    have em : ((L : Int) - (k : Int)).toNat = L - k := by omega
    rw [em, over_rep k (min k (L - k)) L c 0 (Nat.min_le_left _ _) (by omega), w64 (by omega) (by omega)]
    have hmin : min k (L - k) = k ∨ min k (L - k) = L - k := by omega
    refine hag _ ⟨k + min k (L - k), by omega, by omega, ?_⟩ ?_
    · simp
    · simp only [Int.toNat_natCast]
      omega
  · rw [if_neg (by omega)]
    have hk2 : k = L := by omega
    subst hk2
    simpa using h0

theorem repeat_eq (N : Nat) (c : Int) (n : Nat) (hn : n < 2147483648) (hN : n < N) : slices_Repeat_byte N [c] (n : Int) = some (List.replicate n c) := by
  unfold slices_Repeat_byte
  simp only [decide_eq_true_eq, List.length_singleton]
  rw [if_neg (by omega)]
  have e1 : IntKind.wrap .u64 ((1 : Nat) : Int) = 1 := wu64 (by omega) (by omega)
  have e2 : IntKind.wrap .u64 (n : Int) = n := wu64 (by omega) (by omega)
  rw [e1, e2, bindO_of (mul64_small N 1 n (by omega) (by omega) (by omega) (by omega))]
  simp only [Int.one_mul, gt_iff_lt, Int.lt_irrefl, if_false]
  rw [bindO_of rfl]
  rw [if_neg (by simp; omega)]
  have e3 : IntKind.wrap .i64 (n : Int) = n := w64 (by omega) (by omega)
  rw [e3, gate_pos (by simp [room_of (n := n) (b := 1) (by omega) (by omega)])]
  simp only [Int.toNat_natCast, List.length_replicate]
  have e4 : over (List.replicate n (0 : Int)) [c] 0 (min 1 n) = List.replicate (min 1 n) c ++ List.replicate (n - min 1 n) 0 := by
    unfold over
    rcases Nat.eq_zero_or_pos n with h | h
    · subst h; simp
    · have : min 1 n = 1 := by omega
      rw [this]; simp
  rw [e4]
  exact repeat_loop N none _ c n (by omega) (fun r => r = some (List.replicate n c)) rfl (min 1 n) N (by omega) (by omega) hN

/-! ### runs -/
/-- a run of m bytes c so far, and what is left -/
def runGo : Nat → Int → List Int → List Int
  | m, c, [] => [(m : Int), c]
  | m, c, x :: r => if x = c ∧ m < 255 then runGo (m + 1) c r else (m : Int) :: c :: runGo 1 x r
def runs : List Int → List Int
  | [] => []
  | c :: r => runGo 1 c r

theorem runGo_end {m : Nat} {c : Int} {r : List Int} (h : m = 255 ∨ r = [] ∨ ∃ x t, r = x :: t ∧ x ≠ c) : runGo m c r = (m : Int) :: c :: runs r := by
  cases r with
  | nil => rfl
  | cons x t =>
    simp only [runGo]
    rw [if_neg]
    · rfl
    · rcases h with h | h | ⟨y, u, h, hx⟩
      · omega
      · cases h
      · cases h; exact fun h => hx h.1

theorem drop_get {xs : List Int} {i : Nat} (h : i < xs.length) : xs.drop i = xs[i] :: xs.drop (i + 1) := List.drop_eq_getElem_cons h

theorem runGo_len : ∀ (r : List Int) (m : Nat) (c : Int), (runGo m c r).length ≤ 2 * (r.length + 1) := by
  intro r
  induction r with
  | nil => intro m c; simp [runGo]
  | cons x r ih =>
    intro m c
    simp only [runGo]
    split
    · have := ih (m + 1) c; simp only [List.length_cons]; omega
    · have := ih 1 x; simp only [List.length_cons]; omega
theorem runs_len (r : List Int) : (runs r).length ≤ 2 * r.length := by
  cases r with
  | nil => simp [runs]
  | cons x r => have := runGo_len r 1 x; simp only [runs, List.length_cons]; omega

theorem pack_inner {R : Type} (N : Nat) (s : R) (k2 : (List Int × Int × Unit) → R) (b out : List Int) (i : Nat) (hb : b.length ≤ 1048576) (hi : i < b.length) (Q : R → Prop)
    (hk : ∀ m : Nat, 1 ≤ m → m ≤ 255 → i + m ≤ b.length → runGo 1 b[i] (b.drop (i + 1)) = (m : Int) :: b[i] :: runs (b.drop (i + m)) → Q (k2 (out, (m : Int), ()))) (n : Nat) (hn : 255 < n) :
    Q (iter (arch_Pack.s1 N s k2 (b, (i : Int), ())) s n (out, (1 : Int), ())) := by
  refine iter_rule (fun v => ∃ m : Nat, v = (out, (m : Int), ()) ∧ 1 ≤ m ∧ m ≤ 255 ∧ i + m ≤ b.length ∧ runGo 1 b[i] (b.drop (i + 1)) = runGo m b[i] (b.drop (i + m))) (fun v => 255 - v.2.1.toNat) Q ?_ n _ ⟨1, rfl, by omega, by omega, by omega, rfl⟩ (by simp; omega)
  rintro v again ⟨m, rfl, h1, h2, h3, h4⟩ hag
  unfold arch_Pack.s1
  simp only [decide_eq_true_eq]
  by_cases hm : m < 255
  · rw [if_pos (by omega), w64 (by omega) (by omega)]
    by_cases hlt : i + m < b.length
    · rw [if_pos (by omega), gate_pos (inR_of (by omega) (by omega)), gate_pos (inR_of (by omega) (by omega))]
      rw [bindO_of rfl]
      have ei : (i : Int) + (m : Int) = ((i + m : Nat) : Int) := by omega
      rw [ei, getI_get hlt, getI_get hi]
      by_cases hc : b[i + m] = b[i]
      · rw [if_pos (by simpa using hc), w64 (by omega) (by omega)]
        refine hag _ ⟨m + 1, by simp, by omega, by omega, by omega, ?_⟩ (by simp; omega)
        rw [h4, drop_get hlt]
        simp only [runGo]
        rw [if_pos ⟨hc, hm⟩]
        rfl
      · rw [if_neg (by simpa using hc)]
        refine hk m h1 h2 h3 ?_
        rw [h4]
        exact runGo_end (.inr (.inr ⟨_, _, drop_get hlt, hc⟩))
    · rw [if_neg (by omega)]
      rw [bindO_of rfl, if_neg (by simp)]
      refine hk m h1 h2 h3 ?_
      rw [h4]
      exact runGo_end (.inr (.inl (List.drop_eq_nil_of_le (by omega))))
  · rw [if_neg (by omega)]
    rw [bindO_of rfl, if_neg (by simp)]
    refine hk m h1 h2 h3 ?_
    rw [h4]
    exact runGo_end (.inl (by omega))

theorem pack_eq (N : Nat) (b : List Int) (hb : b.length ≤ 1048576) (hN : 1048576 < N) : arch_Pack N b = some (runs b) := by
  unfold arch_Pack
  refine iter_rule (fun v => ∃ (i : Nat) (out : List Int), v = (out, (i : Int), ()) ∧ i ≤ b.length ∧ out.length ≤ 2 * i ∧ runs b = out ++ runs (b.drop i)) (fun v => b.length - v.2.1.toNat) (fun r => r = some (runs b)) ?_ N _ ⟨0, [], rfl, Nat.zero_le _, by simp, by simp⟩ (by simp; omega)
  rintro v again ⟨i, out, rfl, hi, ho, hr⟩ hag
  unfold arch_Pack.s0
  simp only [decide_eq_true_eq]
  by_cases hlt : i < b.length
  · rw [if_pos (by omega)]
    refine pack_inner N none _ b out i hb hlt (fun r => r = some (runs b)) (fun m h1 h2 h3 h4 => ?_) N (by omega)
    simp only
    rw [gate_pos (inR_of (by omega) (by omega)), getI_get hlt, wu8 (by omega) (by omega), w64 (by omega) (by omega)]
    rw [gate_pos (room_of (by simp; omega) (by simp; omega))]
    refine hag _ ⟨i + m, out ++ [(m : Int), b[i]], by simp, h3, by simp; omega, ?_⟩ (by simp; omega)
    rw [hr, drop_get hlt]
    show out ++ runGo 1 b[i] (b.drop (i + 1)) = _
    rw [h4]
    simp
  · rw [if_neg (by omega)]
    rw [hr, List.drop_eq_nil_of_le (by omega)]
    simp [runs]

theorem ran_eq (N : Nat) (b : List Int) (hb : b.length ≤ 1048576) (hN : 1048576 < N) : wrackref2_Ran N b = some (runs b) := by
  unfold wrackref2_Ran
  refine iter_rule (fun v => ∃ (i : Nat) (out : List Int), v = (out, (i : Int), ()) ∧ i ≤ b.length ∧
      ((i = 0 ∧ out = []) ∨ ∃ (pre : List Int) (m : Nat) (h : i - 1 < b.length), 0 < i ∧ out = pre ++ [(m : Int), b[i - 1]] ∧ pre.length ≤ 2 * i ∧ 1 ≤ m ∧ m ≤ 255 ∧ runs b = pre ++ runGo m b[i - 1] (b.drop i)))
    (fun v => b.length - v.2.1.toNat) (fun r => r = some (runs b)) ?_ N _ ⟨0, [], rfl, Nat.zero_le _, .inl ⟨rfl, rfl⟩⟩ (by simp; omega)
  rintro v again ⟨i, out, rfl, hi, hr⟩ hag
  unfold wrackref2_Ran.s0
  simp only [decide_eq_true_eq]
  by_cases hlt : i < b.length
  · rw [if_pos (by omega), gate_pos (inR_of (by omega) (by omega)), getI_get hlt]
    rcases hr with ⟨rfl, rfl⟩ | ⟨pre, m, h, h0, rfl, hp, h1, h2, hr⟩
    · rw [if_neg (by omega), bindO_of rfl, if_neg (by simp), w64 (by omega) (by omega), gate_pos (room_of (by simp) (by simp))]
      refine hag _ ⟨1, [1, b[0]], by simp, by omega, .inr ⟨[], 1, by omega, by omega, by simp, by simp, by omega, by omega, ?_⟩⟩ (by simp; omega)
      have : b = b[0] :: b.drop 1 := by simpa using drop_get hlt
      conv => lhs; rw [this]
      rfl
    · have e1 : ((i : Int) - 1) = ((i - 1 : Nat) : Int) := by omega
      have e2 : (((pre ++ [(m : Int), b[i - 1]]).length : Int) - 2) = (pre.length : Int) := by simp
      have e3 : getI (0 : Int) (pre ++ [(m : Int), b[i - 1]]) (pre.length : Int) = m := by rw [getI_nat]; simp
      rw [if_pos (by omega), w64 (x := (i : Int) - 1) (by omega) (by omega), gate_pos (inR_of (by omega) (by omega)), e1, getI_get h]
      rw [e2, w64 (x := (pre.length : Int)) (by omega) (by omega), e3]
      have hin : inR (pre.length : Int) ((pre ++ [(m : Int), b[i - 1]]).length : Int) = true := inR_of (by omega) (by simp; omega)
      rw [gate_pos hin, gate_pos hin, gate_pos hin, gate_pos hin, gate_pos hin, gate_pos hin]
      have hset : (pre ++ [(m : Int), b[i - 1]]).set (pre.length : Int).toNat ((m : Int) + 1) = pre ++ [((m + 1 : Nat) : Int), b[i - 1]] := by
        simp
      rw [w64 (x := (i : Int) + 1) (by omega) (by omega)]
      by_cases hc : b[i - 1] = b[i] ∧ m < 255
      · rw [if_pos hc.1, bindO_of rfl, if_pos (by simp; omega), wu8 (by omega) (by omega), hset]
        refine hag _ ⟨i + 1, pre ++ [((m + 1 : Nat) : Int), b[i - 1]], by simp, by omega, .inr ⟨pre, m + 1, by omega, by omega, ?_, by omega, by omega, by omega, ?_⟩⟩ (by simp; omega)
        · simp [hc.1]
        · rw [hr, drop_get hlt]
          simp only [runGo, Nat.add_sub_cancel]
          rw [if_pos ⟨hc.1.symm, hc.2⟩, hc.1]
      · have hb2 : (if b[i - 1] = b[i] then some (decide ((m : Int) < 255)) else some false) = some false := by
          by_cases hx : b[i - 1] = b[i]
          · rw [if_pos hx]; simp; omega
          · rw [if_neg hx]
        rw [bindO_of hb2, if_neg (by simp), gate_pos (room_of (by simp; omega) (by simp; omega))]
        refine hag _ ⟨i + 1, (pre ++ [(m : Int), b[i - 1]]) ++ [1, b[i]], by simp, by omega, .inr ⟨pre ++ [(m : Int), b[i - 1]], 1, by omega, by omega, ?_, by simp; omega, by omega, by omega, ?_⟩⟩ (by simp; omega)
        · simp
        · rw [hr, drop_get hlt]
          simp only [runGo, Nat.add_sub_cancel]
          rw [if_neg (fun h => hc ⟨h.1.symm, h.2⟩)]
          simp
  · rw [if_neg (by omega)]
    rcases hr with ⟨rfl, rfl⟩ | ⟨pre, m, h, h0, rfl, hp, h1, h2, hr⟩
    · have : b = [] := by rw [← List.length_eq_zero_iff]; omega
      subst this; rfl
    · rw [hr, List.drop_eq_nil_of_le (by omega)]
      rfl

/-! ### runs read back -/
/-- pairs of how many and which byte, at most 'many' bytes -/
def unrun (many : Int) : List Int → List Int → List Int × Int
  | n :: c :: r, out => if n = 0 then ([], 3) else if n > many - out.length then ([], 2) else unrun many r (out ++ List.replicate n.toNat c)
  | _, out => (out, 0)

theorem unpack_eq (N : Nat) (b : List Int) (many : Int) (hb : b.length ≤ 1048576) (hN : 1048576 < N) (hby : ∀ x ∈ b, 0 ≤ x ∧ x < 256) (hm : -9223372036854775808 ≤ many ∧ many ≤ 9223372036854775807) :
    arch_Unpack N b many = some (if b.length % 2 = 1 then ([], 3) else unrun many b []) := by
  unfold arch_Unpack
  rw [gate_pos (by decide)]
  have e0 : Int.tmod (b.length : Int) 2 = ((b.length % 2 : Nat) : Int) := by
    rw [Int.tmod_eq_emod_of_nonneg (by omega)]; omega
  simp only [e0]
  by_cases hod : b.length % 2 = 1
  · rw [if_pos (by simp; omega), if_pos hod]
  · rw [if_neg (by simp; omega), if_neg hod]
    refine iter_rule (fun v => ∃ (i : Nat) (out : List Int), v = (out, (i : Int), ()) ∧ i ≤ b.length ∧ i % 2 = 0 ∧ out.length ≤ 255 * i ∧ ((out.length : Int) ≤ many ∨ out = []) ∧ unrun many b [] = unrun many (b.drop i) out)
      (fun v => b.length - v.2.1.toNat) (fun r => r = some (unrun many b [])) ?_ N _ ⟨0, [], rfl, by omega, by omega, by simp, .inr rfl, by simp⟩ (by simp; omega)
    rintro v again ⟨i, out, rfl, hi, hev, ho, hmo, hr⟩ hag
    unfold arch_Unpack.s0
    simp only [decide_eq_true_eq]
    by_cases hlt : i < b.length
    · have hlt1 : i + 1 < b.length := by omega
      rw [if_pos (by omega), gate_pos (inR_of (by omega) (by omega)), getI_get hlt]
      have hbi := hby b[i] (List.getElem_mem _)
      have hbi1 := hby b[i + 1] (List.getElem_mem _)
      rw [drop_get hlt, drop_get hlt1] at hr
      simp only [unrun] at hr
      by_cases hz : b[i] = 0
      · rw [if_pos hz]
        rw [if_pos hz] at hr
        rw [hr]
      · rw [if_neg hz, gate_pos (inR_of (by omega) (by omega)), w64 (by omega) (by omega)]
        rw [if_neg hz] at hr
        have hw : IntKind.wrap .i64 (many - (out.length : Int)) = many - out.length ∨ out = [] := by
          rcases hmo with h | h
          · left; exact w64 (by omega) (by omega)
          · right; exact h
        have hw : IntKind.wrap .i64 (many - (out.length : Int)) = many - out.length := by
          rcases hw with h | h
          · exact h
          · subst h; simp only [List.length_nil]; exact w64 (by omega) (by omega)
        rw [hw]
        by_cases hg : b[i] > many - out.length
        · rw [if_pos hg]
          rw [if_pos hg] at hr
          rw [hr]
        · rw [if_neg hg]
          rw [if_neg hg] at hr
          have e1 : (i : Int) + 1 = ((i + 1 : Nat) : Int) := by omega
          rw [w64 (x := (i : Int) + 1) (by omega) (by omega), gate_pos (inR_of (by omega) (by omega)), gate_pos (inR_of (by omega) (by omega)), e1, getI_get hlt1]
          have e2 : b[i] = ((b[i].toNat : Nat) : Int) := by omega
          have hrep := repeat_eq N b[i + 1] b[i].toNat (by omega) (by omega)
          rw [← e2] at hrep
          rw [bindO_of hrep, gate_pos (room_of (by simp; omega) (by simp; omega)), w64 (by omega) (by omega)]
          refine hag _ ⟨i + 2, out ++ List.replicate b[i].toNat b[i + 1], by simp, by omega, by omega, by simp; omega, .inl (by simp; omega), hr⟩ (by simp; omega)
    · rw [if_neg (by omega)]
      rw [hr, List.drop_eq_nil_of_le (by omega)]
      rfl

theorem unran_inner {R : Type} (N : Nat) (s : R) (k2 : (List Int × Unit) → R) (kr : (Int × Unit) → R) (b out : List Int) (many : Int) (i : Nat) (hb : b.length ≤ 1048576) (hi : i + 1 < b.length) (c : Nat) (hc : c < 256) (ho : out.length ≤ 255 * i) (Q : R → Prop)
    (h0 : (c : Int) > many - out.length → Q (kr (2, ()))) (h1 : ¬ (c : Int) > many - out.length → Q (k2 (out ++ List.replicate c b[i + 1], ()))) (hm : (out.length : Int) ≤ many ∨ 0 < c) (n : Nat) (hn : 255 < n) :
    Q (iter (wrackref2_Unran.s1 N s k2 kr (b, many, (i : Int), (c : Int), ())) s n (out, (0 : Int), ())) := by
  refine iter_rule (fun v => ∃ j : Nat, v = (out ++ List.replicate j b[i + 1], (j : Int), ()) ∧ j ≤ c ∧ (((out.length + j : Nat) : Int) ≤ many ∨ (j = 0 ∧ 0 < c))) (fun v => c - v.2.1.toNat) Q ?_ n _ ⟨0, by simp, by omega, by omega⟩ (by simp; omega)
  rintro v again ⟨j, rfl, hj, hjm⟩ hag
  unfold wrackref2_Unran.s1
  simp only [decide_eq_true_eq, List.length_append, List.length_replicate]
  by_cases hlt : j < c
  · rw [if_pos (by omega)]
    by_cases hl : (((out.length + j : Nat) : Int)) ≥ many
    · rw [if_pos (by simpa using hl)]
      exact h0 (by omega)
    · rw [if_neg (by simpa using hl)]
      have e1 : (i : Int) + 1 = ((i + 1 : Nat) : Int) := by omega
      rw [w64 (x := (i : Int) + 1) (by omega) (by omega), gate_pos (inR_of (by omega) (by omega)), gate_pos (room_of (by simp; omega) (by simp; omega)), e1, getI_get hi, wu8 (by omega) (by omega)]
      refine hag _ ⟨j + 1, ?_, by omega, .inl (by omega)⟩ (by simp; omega)
      simp [List.replicate_succ']
  · rw [if_neg (by omega)]
    have : j = c := by omega
    subst this
    exact h1 (by omega)

theorem unran_eq (N : Nat) (b : List Int) (many : Int) (hb : b.length ≤ 1048576) (hN : 1048576 < N) (hby : ∀ x ∈ b, 0 ≤ x ∧ x < 256) :
    wrackref2_Unran N b many = some (if b.length % 2 = 1 then ([], 3) else unrun many b []) := by
  unfold wrackref2_Unran
  rw [gate_pos (by decide)]
  have e0 : Int.tmod (b.length : Int) 2 = ((b.length % 2 : Nat) : Int) := by
    rw [Int.tmod_eq_emod_of_nonneg (by omega)]; omega
  simp only [e0, decide_eq_true_eq]
  by_cases hod : b.length % 2 = 1
  · rw [if_pos (by omega), if_pos hod]
  · rw [if_neg (by omega), if_neg hod]
    refine iter_rule (fun v => ∃ (i : Nat) (out : List Int), v = (out, (i : Int), ()) ∧ i ≤ b.length ∧ i % 2 = 0 ∧ out.length ≤ 255 * i ∧ unrun many b [] = unrun many (b.drop i) out)
      (fun v => b.length - v.2.1.toNat) (fun r => r = some (unrun many b [])) ?_ N _ ⟨0, [], rfl, by omega, by omega, by simp, by simp⟩ (by simp; omega)
    rintro v again ⟨i, out, rfl, hi, hev, ho, hr⟩ hag
    unfold wrackref2_Unran.s0
    simp only [decide_eq_true_eq]
    by_cases hlt : i < b.length
    · have hlt1 : i + 1 < b.length := by omega
      rw [if_pos (by omega), gate_pos (inR_of (by omega) (by omega)), getI_get hlt]
      have hbi := hby b[i] (List.getElem_mem _)
      rw [drop_get hlt, drop_get hlt1] at hr
      simp only [unrun] at hr
      by_cases hz : b[i] = 0
      · rw [if_pos hz]
        rw [if_pos hz] at hr
        rw [hr]
      · rw [if_neg hz, gate_pos (inR_of (by omega) (by omega))]
        rw [if_neg hz] at hr
        have e2 : b[i] = ((b[i].toNat : Nat) : Int) := by omega
        rw [e2]
        refine unran_inner N none _ _ b out many i hb hlt1 b[i].toNat (by omega) ho (fun r => r = some (unrun many b [])) (fun h => ?_) (fun h => ?_) (.inr (by omega)) N (by omega)
        · rw [if_pos (by omega)] at hr
          simp only
          rw [hr]
        · rw [if_neg (by omega)] at hr
          simp only
          rw [w64 (by omega) (by omega)]
          exact hag _ ⟨i + 2, out ++ List.replicate b[i].toNat b[i + 1], by simp, by omega, by omega, by simp; omega, hr⟩ (by simp; omega)
    · rw [if_neg (by omega)]
      rw [hr, List.drop_eq_nil_of_le (by omega)]
      rfl

theorem unrun_len (many : Int) : ∀ (k : Nat) (b out : List Int), b.length ≤ k → (∀ x ∈ b, 0 ≤ x ∧ x < 256) → (unrun many b out).1.length ≤ out.length + 255 * b.length := by
  intro k
  induction k using Nat.strongRecOn with
  | _ k ih =>
    intro b out hk hby
    match b, hby with
    | [], _ => simp [unrun]
    | [x], _ => simp [unrun]
    | n :: c :: r, hby =>
      simp only [unrun]
      have hn := hby n (by simp)
      split
      · simp
      · split
        · simp
        · have := ih r.length (by simp at hk; omega) r (out ++ List.replicate n.toNat c) (Nat.le_refl _) fun x hx => hby x (by simp [hx])
          simp only [List.length_append, List.length_replicate, List.length_cons] at this ⊢
          omega

theorem archives_eq (N : Nat) (hN : 1048576 < N) : wracklaw2_archives N = some true := by
  unfold wracklaw2_archives
  rw [bindO_of (pack_eq N [7, 7, 7] (by simp) hN), bindO_of (equal_eq N _ _ (by have := runs_len [7, 7, 7]; simp at this; omega) (by have := runs_len [7, 7, 7]; simp at this; omega))]
  simp [runs, runGo]

theorem archPacks_true (N : Nat) (b : List Int) (many : Int) (hb : b.length ≤ 1048576) (hN : 536870912 < N) (hby : ∀ x ∈ b, 0 ≤ x ∧ x < 256) (hm : -9223372036854775808 ≤ many ∧ many ≤ 9223372036854775807) : wracklaw2_ArchPacks N b many = some true := by
  unfold wracklaw2_ArchPacks
  rw [bindO_of (unpack_eq N b many hb (by omega) hby hm), bindO_of (unran_eq N b many hb (by omega) hby), bindO_of (archives_eq N (by omega)), if_pos rfl]
  rw [bindO_of (pack_eq N b hb (by omega)), bindO_of (ran_eq N b hb (by omega))]
  have h1 := runs_len b
  rw [bindO_of (equal_eq N _ _ (by omega) (by omega)), if_pos (by simp), if_pos (by simp)]
  have h2 : (if b.length % 2 = 1 then (([] : List Int), (3 : Int)) else unrun many b []).1.length ≤ 255 * b.length := by
    split
    · simp
    · have := unrun_len many b.length b [] (Nat.le_refl _) hby; simpa using this
  rw [bindO_of (equal_eq N _ _ (by omega) (by omega))]
  simp

end Go.Proofs.Yteekijpcdcpjkaa
