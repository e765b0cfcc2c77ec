/-
  PLAIN: all plain texts that archScans_true needs, in one.
-/
import Derived.Test.YteekijpcdcpjkaaDoorAbPlain
import Derived.Test.YteekijpcdcpjkaaDoorPu
set_option linter.unusedVariables false
set_option linter.unusedSimpArgs false
namespace Go.Proofs.YteekijpcdcpjkaaDoor
open Go Go.Ab

def numB (bs : List Int) : Nat := bs.foldr (fun c a => a * 256 + c.toNat) 0

theorem numB_lt : ∀ bs : List Int, (∀ x ∈ bs, 0 ≤ x ∧ x < 256) → numB bs < 256 ^ bs.length := by
  intro bs
  induction bs with
  | nil => intro _; decide
  | cons x r ih =>
    intro h
    have h1 := ih fun y hy => h y (by simp [hy])
    have h2 := h x (by simp)
    show numB r * 256 + x.toNat < 256 ^ (r.length + 1)
    rw [Nat.pow_succ]
    omega

theorem numB_snoc (c : Int) : ∀ a : List Int, numB (a ++ [c]) = numB a + c.toNat * 256 ^ a.length := by
  intro a
  induction a with
  | nil => simp [numB]
  | cons x r ih =>
    show numB (r ++ [c]) * 256 + x.toNat = numB r * 256 + x.toNat + c.toNat * 256 ^ (r.length + 1)
    rw [ih, Nat.pow_succ, Nat.add_mul, Nat.mul_assoc]
    omega

theorem or8 (n c : Nat) (hn : n < 281474976710656) (hc : c < 256) : bitOr .i64 (shlI .i64 (n : Int) 8) (c : Int) = ((n * 256 + c : Nat) : Int) := by
  have h1 : shlI .i64 (n : Int) 8 = ((n * 256 : Nat) : Int) := by
    unfold shlI
    have e : (2 : Int) ^ (min ((8 : Int)).toNat (IntKind.bits .i64)) = 256 := by decide
    rw [e, w64 (by omega) (by omega)]
    omega
  rw [h1]
  unfold bitOr
  have e : (BitVec.ofInt (IntKind.bits .i64) ((n * 256 : Nat) : Int) ||| BitVec.ofInt (IntKind.bits .i64) (c : Int)).toNat = n * 256 + c := by
    show (BitVec.ofInt 64 ((n * 256 : Nat) : Int) ||| BitVec.ofInt 64 (c : Int)).toNat = n * 256 + c
    rw [BitVec.toNat_or]
    have a : (BitVec.ofInt 64 ((n * 256 : Nat) : Int)).toNat = n * 256 := by
      rw [BitVec.toNat_ofInt]
      omega
    have b : (BitVec.ofInt 64 (c : Int)).toNat = c := by
      rw [BitVec.toNat_ofInt]
      omega
    rw [a, b]
    have := Nat.two_pow_add_eq_or_of_lt (i := 8) (a := n) (b := c) hc
    have e2 : 2 ^ 8 * n = n * 256 := by omega
    rw [e2] at this
    exact this.symm
  rw [e, w64 (by omega) (by omega)]

theorem r0_num {R : Type} (N : Nat) (s : R) (again : (Int × Unit) → R) (x : Int × Int) (acc c : Nat) (hc : x.2 = (c : Int)) (h : c < 256) (ha : acc < 281474976710656) :
    arch_number.r0 N s () x again ((acc : Int), ()) = again (((acc * 256 + c : Nat) : Int), ()) := by
  unfold arch_number.r0
  simp only
  rw [gate_pos (by decide), hc, w64 (by omega) (by omega), or8 acc c ha h]

theorem fold_num {R : Type} (N : Nat) (s : R) (done : (Int × Unit) → R) : ∀ (l : List (Int × Int)) (acc j : Nat), (∀ x ∈ l, 0 ≤ x.2 ∧ x.2 < 256) → acc < 256 ^ j → j + l.length ≤ 6 →
    foldR (arch_number.r0 N s ()) done l ((acc : Int), ()) = done (((l.foldl (fun a x => a * 256 + x.2.toNat) acc : Nat) : Int), ()) := by
  intro l
  induction l with
  | nil => intro acc j _ _ _; rfl
  | cons x r ih =>
    intro acc j hx ha hj
    obtain ⟨h1, h2⟩ := hx x (by simp)
    obtain ⟨c, hc⟩ := Int.eq_ofNat_of_zero_le h1
    have hp : 256 ^ j ≤ 256 ^ 5 := Nat.pow_le_pow_right (by decide) (by simp at hj; omega)
    have hp : 256 ^ j ≤ 1099511627776 := hp
    show arch_number.r0 N s () x (foldR (arch_number.r0 N s ()) done r) ((acc : Int), ()) = _
    rw [r0_num N s _ x acc c hc (by omega) (by omega), ih (acc * 256 + c) (j + 1) (fun y hy => hx y (by simp [hy])) (by rw [Nat.pow_succ]; omega) (by simp at hj; omega)]
    simp only [List.foldl_cons, hc, Int.toNat_natCast]

theorem backs_snd (bs : List Int) : (backs bs).map Prod.snd = bs.reverse := by
  unfold backs
  apply List.ext_getElem
  · simp
  · intro i h1 h2
    simp only [List.length_map, List.length_range] at h1
    simp only [List.getElem_map, List.getElem_range, List.getElem_reverse]
    rw [List.getD_eq_getElem?_getD, List.getElem?_eq_getElem (by omega)]
    rfl

theorem number_eq (N : Nat) (bs : List Int) (hb : ∀ x ∈ bs, 0 ≤ x ∧ x < 256) (hl : bs.length ≤ 6) : arch_number N bs = some ((numB bs : Nat) : Int) := by
  unfold arch_number
  have h1 : backGo bs = some (backs bs) := by unfold backGo; rw [if_pos (by omega)]
  rw [bindO_of h1]
  have h2 : ∀ x ∈ backs bs, 0 ≤ x.2 ∧ x.2 < 256 := by
    intro x hx
    have : x.2 ∈ (backs bs).map Prod.snd := List.mem_map.2 ⟨x, hx, rfl⟩
    rw [backs_snd] at this
    exact hb _ (by simpa using this)
  have := fold_num N (none : Option Int) (fun x => some x.1) (backs bs) 0 0 h2 (by decide) (by simp [backs]; exact hl)
  rw [show ((0 : Nat) : Int) = (0 : Int) from rfl] at this
  rw [this]
  congr 2
  have h3 : (backs bs).foldl (fun a x => a * 256 + x.2.toNat) 0 = ((backs bs).map Prod.snd).foldl (fun a c => a * 256 + c.toNat) 0 := by
    rw [List.foldl_map]
  rw [h3, backs_snd, List.foldl_reverse]
  rfl

theorem le_eq (N : Nat) (bs : List Int) (hb : ∀ x ∈ bs, 0 ≤ x ∧ x < 256) (hl : bs.length ≤ 6) (hN : 1048577 < N) : wrackref2_le N bs = some ((numB bs : Nat) : Int) := by
  unfold wrackref2_le
  refine iter_rule (fun v => ∃ i : Nat, v = (((numB (bs.take i) : Nat) : Int), ((256 ^ i : Nat) : Int), (i : Int), ()) ∧ i ≤ bs.length) (fun v => bs.length - v.2.2.1.toNat) (fun o => o = some ((numB bs : Nat) : Int)) ?_ N _ ⟨0, rfl, Nat.zero_le _⟩ (by simp only; omega)
  rintro v again ⟨i, rfl, hi⟩ hag
  unfold wrackref2_le.s0
  simp only [decide_eq_true_eq]
  by_cases hlt : i < bs.length
  · have hm : bs.getD i 0 ∈ bs := by
      rw [List.getD_eq_getElem?_getD, List.getElem?_eq_getElem hlt]; exact List.getElem_mem hlt
    obtain ⟨h1, h2⟩ := hb _ hm
    obtain ⟨c, hc⟩ := Int.eq_ofNat_of_zero_le h1
    have hp : 256 ^ i ≤ 256 ^ 5 := Nat.pow_le_pow_right (by decide) (by omega)
    have hp : 256 ^ i ≤ 1099511627776 := hp
    have hnl := numB_lt (bs.take i) (fun x hx => hb x (List.mem_of_mem_take hx))
    have htl : (bs.take i).length = i := by rw [List.length_take]; omega
    rw [htl] at hnl
    have hcc : c < 256 := by omega
    have hmul : c * 256 ^ i ≤ 255 * 1099511627776 := Nat.mul_le_mul (by omega) hp
    have e1 : (c : Int) * ((256 ^ i : Nat) : Int) = ((c * 256 ^ i : Nat) : Int) := by rw [Int.natCast_mul]
    have e2 : ((numB (bs.take i) : Nat) : Int) + ((c * 256 ^ i : Nat) : Int) = ((numB (bs.take (i + 1)) : Nat) : Int) := by
      have : bs.take (i + 1) = bs.take i ++ [bs.getD i 0] := by
        rw [List.take_add_one, List.getElem?_eq_getElem hlt, List.getD_eq_getElem?_getD, List.getElem?_eq_getElem hlt]
        rfl
      rw [this, numB_snoc, htl, hc, Int.toNat_natCast]
      omega
    have hnl2 : numB (bs.take (i + 1)) < 2 ^ 60 := by omega
    rw [if_pos (by omega), gate_pos (inR_of (by omega) (by omega)), getI_nat, hc, w64 (x := (c : Int)) (by omega) (by omega), e1, w64 (x := ((c * 256 ^ i : Nat) : Int)) (by omega) (by omega), e2, w64 (x := ((numB (bs.take (i + 1)) : Nat) : Int)) (by omega) (by omega)]
    have e3 : ((256 ^ i : Nat) : Int) * 256 = ((256 ^ (i + 1) : Nat) : Int) := by rw [Nat.pow_succ]; omega
    rw [e3, w64 (x := ((256 ^ (i + 1) : Nat) : Int)) (by omega) (by rw [Nat.pow_succ]; omega), w64 (by omega) (by omega)]
    exact hag _ ⟨i + 1, by simp, by omega⟩ (by simp only; omega)
  · rw [if_neg (by omega)]
    have : i = bs.length := by omega
    subst this
    rw [List.take_length]

theorem equal_loop {R : Type} (N : Nat) (s : R) (k0 : Unit → R) (kr : (Bool × Unit) → R) (xs ys : List Int) (hl : xs.length = ys.length) (hx : xs.length ≤ 140737488355328) (Q : R → Prop) (h0 : xs = ys → Q (k0 ())) (h1 : xs ≠ ys → Q (kr (false, ())))
    (n : Nat) (hn : xs.length < n) : Q (iter (slices_Equal_byte.s0 N s k0 kr (xs, ys, (xs.length : Int), ())) s n ((0 : Int), ())) := by
  refine iter_rule (fun v => ∃ i : Nat, v = ((i : Int), ()) ∧ i ≤ xs.length ∧ ∀ j, j < i → xs.getD j 0 = ys.getD j 0) (fun v => xs.length - v.1.toNat) Q ?_ n _ ⟨0, rfl, Nat.zero_le _, fun j hj => absurd hj (Nat.not_lt_zero _)⟩ (by simpa using hn)
  rintro v again ⟨i, rfl, hi, hall⟩ hag
  unfold slices_Equal_byte.s0
  simp only [decide_eq_true_eq]
  by_cases hlt : i < xs.length
  · rw [if_pos (by omega), gate_pos (inR_of (by omega) (by omega)), gate_pos (inR_of (by omega) (by omega))]
    rw [getI_nat, getI_nat]
    by_cases he : xs.getD i 0 = ys.getD i 0
    · rw [if_neg (by simpa using he), w64 (by omega) (by omega)]
      refine hag _ ⟨i + 1, by simp, by omega, fun j hj => ?_⟩ (by simp; omega)
      rcases Nat.lt_or_eq_of_le (Nat.le_of_lt_succ hj) with h | h
      · exact hall j h
      · subst h; exact he
    · rw [if_pos (by simpa using he)]
      exact h1 fun h => he (by rw [h])
  · rw [if_neg (by omega)]
    refine h0 (List.ext_getElem hl fun j h1 h2 => ?_)
    have := hall j (by omega)
    simpa [h1, h2] using this

theorem equal_eq (N : Nat) (xs ys : List Int) (hx : xs.length ≤ 140737488355328) (hN : xs.length < N) : slices_Equal_byte N xs ys = some (decide (xs = ys)) := by
  unfold slices_Equal_byte
  simp only [Bool.not_eq_true', decide_eq_false_iff_not]
  by_cases hl : xs.length = ys.length
  · rw [if_neg (by omega)]
    refine equal_loop N none _ _ xs ys hl hx (fun r => r = some (decide (xs = ys))) (fun h => by simp [h]) (fun h => by simp [h]) N hN
  · rw [if_pos (by omega)]
    simp only [Option.some.injEq, Bool.false_eq, decide_eq_false_iff_not]
    exact fun h => hl (by rw [h])

theorem mul64_small (N : Nat) (x y : Int) (hx : 0 ≤ x) (hx' : x < 4294967296) (hy : 0 ≤ y) (hy' : y < 2147483648) : bits_Mul N x y = some (0, x * y) := by
  have hxy : 0 ≤ x * y := Int.mul_nonneg hx hy
  have hxy' : x * y ≤ 4294967295 * 2147483647 := Int.mul_le_mul (by omega) (by omega) hy (by omega)
  unfold bits_Mul bits_Mul64
  simp only [gate_pos (show decide (0 ≤ (32 : Int)) = true from rfl)]
  have e1 : bitAnd .u64 x 4294967295 = x := by rw [bitAnd_mask32 hx (by omega)]; omega
  have e2 : bitAnd .u64 y 4294967295 = y := by rw [bitAnd_mask32 hy (by omega)]; omega
  have sh : ∀ z : Int, shrI .u64 z 32 = z / 4294967296 := fun z => by
    have := shrI_nat .u64 (x := z) 32 (by decide)
    simpa using this
  have e3 : x / 4294967296 = 0 := by omega
  have e4 : y / 4294967296 = 0 := by omega
  rw [e1, e2]
  simp only [sh, e3, e4, Int.zero_mul, Int.mul_zero, Int.zero_add, Int.add_zero]
  rw [wu64 hxy (by omega), wu64 (x := 0) (by omega) (by omega)]
  have d1 : 0 ≤ x * y / 4294967296 := Int.ediv_nonneg hxy (by omega)
  have d2 : x * y / 4294967296 < 2147483648 := by omega
  simp only [Int.zero_add]
  rw [wu64 d1 (by omega), bitAnd_mask32 d1 (by omega)]
  have d3 : x * y / 4294967296 % 4294967296 = x * y / 4294967296 := by omega
  have d4 : x * y / 4294967296 / 4294967296 = 0 := by omega
  have z : IntKind.wrap .u64 0 = 0 := wu64 (by omega) (by omega)
  simp only [d3, d4, z, Int.add_zero, Int.zero_add]
  rw [wu64 d1 (by omega), d4, z]
  rfl

/-- a list's head overwritten -/
theorem over_rep (n m L : Nat) (c d : Int) (hm : m ≤ n) (hL : n + m ≤ L) : over (List.replicate n c ++ List.replicate (L - n) d) (List.replicate n c) n m = List.replicate (n + m) c ++ List.replicate (L - (n + m)) d := by
  unfold over
  rw [List.take_left' (by simp), List.drop_append, List.take_replicate, Nat.min_eq_left hm]
  simp only [List.length_replicate, List.drop_replicate]
  rw [show n - (n + m) = 0 by omega, show n + m - n = m by omega, show L - n - m = L - (n + m) by omega, ← List.replicate_append_replicate]
  simp

theorem repeat_loop {R : Type} (N : Nat) (s : R) (k0 : (List Int × Unit) → R) (c : Int) (L : Nat) (hL : L ≤ 140737488355328) (Q : R → Prop) (h0 : Q (k0 (List.replicate L c, ())))
    (k n : Nat) (hk : 1 ≤ k ∨ L = 0) (hkL : k ≤ L) (hn : L < n) : Q (iter (slices_Repeat_byte.s0 N s k0 ()) s n (List.replicate k c ++ List.replicate (L - k) 0, (k : Int), ())) := by
  refine iter_rule (fun v => ∃ k : Nat, (1 ≤ k ∨ L = 0) ∧ k ≤ L ∧ v = (List.replicate k c ++ List.replicate (L - k) 0, (k : Int), ())) (fun v => L - v.2.1.toNat) Q ?_ n _ ⟨k, hk, hkL, rfl⟩ (by simp; omega)
  rintro v again ⟨k, hk, hkL, rfl⟩ hag
  unfold slices_Repeat_byte.s0
  simp only [decide_eq_true_eq, List.length_append, List.length_replicate]
  have e : k + (L - k) = L := by omega
  rw [e]
  by_cases hlt : k < L
  · rw [if_pos (by omega), gate_pos (bounds_of (by omega) (by omega) (by omega)), gate_pos (bounds_of (by omega) (by omega) (by omega))]
    have ec : cut (List.replicate k c ++ List.replicate (L - k) 0) 0 (k : Int) = List.replicate k c := by
      have := cut_nat (List.replicate k c ++ List.replicate (L - k) (0 : Int)) 0 k (Nat.zero_le _)
      simp only [Int.natCast_zero, List.drop_zero, Nat.sub_zero] at this
      rw [this, List.take_left' (by simp)]
    rw [ec]
    simp only [List.length_replicate, Int.toNat_natCast]
    have em : ((L : Int) - (k : Int)).toNat = L - k := by omega
    rw [em, over_rep k (min k (L - k)) L c 0 (Nat.min_le_left _ _) (by omega), w64 (by omega) (by omega)]
    have hmin : min k (L - k) = k ∨ min k (L - k) = L - k := by omega
    refine hag _ ⟨k + min k (L - k), by omega, by omega, ?_⟩ ?_
    · simp
    · simp only [Int.toNat_natCast]
      omega
  · rw [if_neg (by omega)]
    have hk2 : k = L := by omega
    subst hk2
    simpa using h0

theorem repeat_eq (N : Nat) (c : Int) (n : Nat) (hn : n < 2147483648) (hN : n < N) : slices_Repeat_byte N [c] (n : Int) = some (List.replicate n c) := by
  unfold slices_Repeat_byte
  simp only [decide_eq_true_eq, List.length_singleton]
  rw [if_neg (by omega)]
  have e1 : IntKind.wrap .u64 ((1 : Nat) : Int) = 1 := wu64 (by omega) (by omega)
  have e2 : IntKind.wrap .u64 (n : Int) = n := wu64 (by omega) (by omega)
  rw [e1, e2, bindO_of (mul64_small N 1 n (by omega) (by omega) (by omega) (by omega))]
  simp only [Int.one_mul, gt_iff_lt, Int.lt_irrefl, if_false]
  rw [bindO_of rfl]
  rw [if_neg (by simp; omega)]
  have e3 : IntKind.wrap .i64 (n : Int) = n := w64 (by omega) (by omega)
  rw [e3, gate_pos (by simp [room_of (n := n) (b := 1) (by omega) (by omega)])]
  simp only [Int.toNat_natCast, List.length_replicate]
  have e4 : over (List.replicate n (0 : Int)) [c] 0 (min 1 n) = List.replicate (min 1 n) c ++ List.replicate (n - min 1 n) 0 := by
    unfold over
    rcases Nat.eq_zero_or_pos n with h | h
    · subst h; simp
    · have : min 1 n = 1 := by omega
      rw [this]; simp
  rw [e4]
  exact repeat_loop N none _ c n (by omega) (fun r => r = some (List.replicate n c)) rfl (min 1 n) N (by omega) (by omega) hN

/-- a run of m bytes c so far, and what is left -/
def runGo : Nat → Int → List Int → List Int
  | m, c, [] => [(m : Int), c]
  | m, c, x :: r => if x = c ∧ m < 255 then runGo (m + 1) c r else (m : Int) :: c :: runGo 1 x r

def runs : List Int → List Int
  | [] => []
  | c :: r => runGo 1 c r

theorem runGo_end {m : Nat} {c : Int} {r : List Int} (h : m = 255 ∨ r = [] ∨ ∃ x t, r = x :: t ∧ x ≠ c) : runGo m c r = (m : Int) :: c :: runs r := by
  cases r with
  | nil => rfl
  | cons x t =>
    simp only [runGo]
    rw [if_neg]
    · rfl
    · rcases h with h | h | ⟨y, u, h, hx⟩
      · omega
      · cases h
      · cases h; exact fun h => hx h.1

theorem drop_get {xs : List Int} {i : Nat} (h : i < xs.length) : xs.drop i = xs[i] :: xs.drop (i + 1) := List.drop_eq_getElem_cons h

theorem runGo_len : ∀ (r : List Int) (m : Nat) (c : Int), (runGo m c r).length ≤ 2 * (r.length + 1) := by
  intro r
  induction r with
  | nil => intro m c; simp [runGo]
  | cons x r ih =>
    intro m c
    simp only [runGo]
    split
    · have := ih (m + 1) c; simp only [List.length_cons]; omega
    · have := ih 1 x; simp only [List.length_cons]; omega

theorem runs_len (r : List Int) : (runs r).length ≤ 2 * r.length := by
  cases r with
  | nil => simp [runs]
  | cons x r => have := runGo_len r 1 x; simp only [runs, List.length_cons]; omega

theorem pack_inner {R : Type} (N : Nat) (s : R) (k2 : (List Int × Int × Unit) → R) (b out : List Int) (i : Nat) (hb : b.length ≤ 1048576) (hi : i < b.length) (Q : R → Prop)
    (hk : ∀ m : Nat, 1 ≤ m → m ≤ 255 → i + m ≤ b.length → runGo 1 b[i] (b.drop (i + 1)) = (m : Int) :: b[i] :: runs (b.drop (i + m)) → Q (k2 (out, (m : Int), ()))) (n : Nat) (hn : 255 < n) :
    Q (iter (arch_Pack.s1 N s k2 (b, (i : Int), ())) s n (out, (1 : Int), ())) := by
  refine iter_rule (fun v => ∃ m : Nat, v = (out, (m : Int), ()) ∧ 1 ≤ m ∧ m ≤ 255 ∧ i + m ≤ b.length ∧ runGo 1 b[i] (b.drop (i + 1)) = runGo m b[i] (b.drop (i + m))) (fun v => 255 - v.2.1.toNat) Q ?_ n _ ⟨1, rfl, by omega, by omega, by omega, rfl⟩ (by simp; omega)
  rintro v again ⟨m, rfl, h1, h2, h3, h4⟩ hag
  unfold arch_Pack.s1
  simp only [decide_eq_true_eq]
  by_cases hm : m < 255
  · rw [if_pos (by omega), w64 (by omega) (by omega)]
    by_cases hlt : i + m < b.length
    · rw [if_pos (by omega), gate_pos (inR_of (by omega) (by omega)), gate_pos (inR_of (by omega) (by omega))]
      rw [bindO_of rfl]
      have ei : (i : Int) + (m : Int) = ((i + m : Nat) : Int) := by omega
      rw [ei, getI_get hlt, getI_get hi]
      by_cases hc : b[i + m] = b[i]
      · rw [if_pos (by simpa using hc), w64 (by omega) (by omega)]
        refine hag _ ⟨m + 1, by simp, by omega, by omega, by omega, ?_⟩ (by simp; omega)
        rw [h4, drop_get hlt]
        simp only [runGo]
        rw [if_pos ⟨hc, hm⟩]
        rfl
      · rw [if_neg (by simpa using hc)]
        refine hk m h1 h2 h3 ?_
        rw [h4]
        exact runGo_end (.inr (.inr ⟨_, _, drop_get hlt, hc⟩))
    · rw [if_neg (by omega)]
      rw [bindO_of rfl, if_neg (by simp)]
      refine hk m h1 h2 h3 ?_
      rw [h4]
      exact runGo_end (.inr (.inl (List.drop_eq_nil_of_le (by omega))))
  · rw [if_neg (by omega)]
    rw [bindO_of rfl, if_neg (by simp)]
    refine hk m h1 h2 h3 ?_
    rw [h4]
    exact runGo_end (.inl (by omega))

theorem pack_eq (N : Nat) (b : List Int) (hb : b.length ≤ 1048576) (hN : 1048576 < N) : arch_Pack N b = some (runs b) := by
  unfold arch_Pack
  refine iter_rule (fun v => ∃ (i : Nat) (out : List Int), v = (out, (i : Int), ()) ∧ i ≤ b.length ∧ out.length ≤ 2 * i ∧ runs b = out ++ runs (b.drop i)) (fun v => b.length - v.2.1.toNat) (fun r => r = some (runs b)) ?_ N _ ⟨0, [], rfl, Nat.zero_le _, by simp, by simp⟩ (by simp; omega)
  rintro v again ⟨i, out, rfl, hi, ho, hr⟩ hag
  unfold arch_Pack.s0
  simp only [decide_eq_true_eq]
  by_cases hlt : i < b.length
  · rw [if_pos (by omega)]
    refine pack_inner N none _ b out i hb hlt (fun r => r = some (runs b)) (fun m h1 h2 h3 h4 => ?_) N (by omega)
    simp only
    rw [gate_pos (inR_of (by omega) (by omega)), getI_get hlt, wu8 (by omega) (by omega), w64 (by omega) (by omega)]
    rw [gate_pos (room_of (by simp; omega) (by simp; omega))]
    refine hag _ ⟨i + m, out ++ [(m : Int), b[i]], by simp, h3, by simp; omega, ?_⟩ (by simp; omega)
    rw [hr, drop_get hlt]
    show out ++ runGo 1 b[i] (b.drop (i + 1)) = _
    rw [h4]
    simp
  · rw [if_neg (by omega)]
    rw [hr, List.drop_eq_nil_of_le (by omega)]
    simp [runs]

theorem archives_eq (N : Nat) (hN : 1048576 < N) : wracklaw2_archives N = some true := by
  unfold wracklaw2_archives
  rw [bindO_of (pack_eq N [7, 7, 7] (by simp) hN), bindO_of (equal_eq N _ _ (by have := runs_len [7, 7, 7]; simp at this; omega) (by have := runs_len [7, 7, 7]; simp at this; omega))]
  simp [runs, runGo]

/-- pairs of how many and which byte, at most 'many' bytes -/
def unrun (many : Int) : List Int → List Int → List Int × Int
  | n :: c :: r, out => if n = 0 then ([], 3) else if n > many - out.length then ([], 2) else unrun many r (out ++ List.replicate n.toNat c)
  | _, out => (out, 0)

theorem unpack_eq (N : Nat) (b : List Int) (many : Int) (hb : b.length ≤ 1048576) (hN : 1048576 < N) (hby : ∀ x ∈ b, 0 ≤ x ∧ x < 256) (hm : -9223372036854775808 ≤ many ∧ many ≤ 9223372036854775807) :
    arch_Unpack N b many = some (if b.length % 2 = 1 then ([], 3) else unrun many b []) := by
  unfold arch_Unpack
  rw [gate_pos (by decide)]
  have e0 : Int.tmod (b.length : Int) 2 = ((b.length % 2 : Nat) : Int) := by
    rw [Int.tmod_eq_emod_of_nonneg (by omega)]; omega
  simp only [e0]
  by_cases hod : b.length % 2 = 1
  · rw [if_pos (by simp; omega), if_pos hod]
  · rw [if_neg (by simp; omega), if_neg hod]
    refine iter_rule (fun v => ∃ (i : Nat) (out : List Int), v = (out, (i : Int), ()) ∧ i ≤ b.length ∧ i % 2 = 0 ∧ out.length ≤ 255 * i ∧ ((out.length : Int) ≤ many ∨ out = []) ∧ unrun many b [] = unrun many (b.drop i) out)
      (fun v => b.length - v.2.1.toNat) (fun r => r = some (unrun many b [])) ?_ N _ ⟨0, [], rfl, by omega, by omega, by simp, .inr rfl, by simp⟩ (by simp; omega)
    rintro v again ⟨i, out, rfl, hi, hev, ho, hmo, hr⟩ hag
    unfold arch_Unpack.s0
    simp only [decide_eq_true_eq]
    by_cases hlt : i < b.length
    · have hlt1 : i + 1 < b.length := by omega
      rw [if_pos (by omega), gate_pos (inR_of (by omega) (by omega)), getI_get hlt]
      have hbi := hby b[i] (List.getElem_mem _)
      have hbi1 := hby b[i + 1] (List.getElem_mem _)
      rw [drop_get hlt, drop_get hlt1] at hr
      simp only [unrun] at hr
      by_cases hz : b[i] = 0
      · rw [if_pos hz]
        rw [if_pos hz] at hr
        rw [hr]
      · rw [if_neg hz, gate_pos (inR_of (by omega) (by omega)), w64 (by omega) (by omega)]
        rw [if_neg hz] at hr
        have hw : IntKind.wrap .i64 (many - (out.length : Int)) = many - out.length ∨ out = [] := by
          rcases hmo with h | h
          · left; exact w64 (by omega) (by omega)
          · right; exact h
        have hw : IntKind.wrap .i64 (many - (out.length : Int)) = many - out.length := by
          rcases hw with h | h
          · exact h
          · subst h; simp only [List.length_nil]; exact w64 (by omega) (by omega)
        rw [hw]
        by_cases hg : b[i] > many - out.length
        · rw [if_pos hg]
          rw [if_pos hg] at hr
          rw [hr]
        · rw [if_neg hg]
          rw [if_neg hg] at hr
          have e1 : (i : Int) + 1 = ((i + 1 : Nat) : Int) := by omega
          rw [w64 (x := (i : Int) + 1) (by omega) (by omega), gate_pos (inR_of (by omega) (by omega)), gate_pos (inR_of (by omega) (by omega)), e1, getI_get hlt1]
          have e2 : b[i] = ((b[i].toNat : Nat) : Int) := by omega
          have hrep := repeat_eq N b[i + 1] b[i].toNat (by omega) (by omega)
          rw [← e2] at hrep
          rw [bindO_of hrep, gate_pos (room_of (by simp; omega) (by simp; omega)), w64 (by omega) (by omega)]
          refine hag _ ⟨i + 2, out ++ List.replicate b[i].toNat b[i + 1], by simp, by omega, by omega, by simp; omega, .inl (by simp; omega), hr⟩ (by simp; omega)
    · rw [if_neg (by omega)]
      rw [hr, List.drop_eq_nil_of_le (by omega)]
      rfl

theorem unran_inner {R : Type} (N : Nat) (s : R) (k2 : (List Int × Unit) → R) (kr : (Int × Unit) → R) (b out : List Int) (many : Int) (i : Nat) (hb : b.length ≤ 1048576) (hi : i + 1 < b.length) (c : Nat) (hc : c < 256) (ho : out.length ≤ 255 * i) (Q : R → Prop)
    (h0 : (c : Int) > many - out.length → Q (kr (2, ()))) (h1 : ¬ (c : Int) > many - out.length → Q (k2 (out ++ List.replicate c b[i + 1], ()))) (hm : (out.length : Int) ≤ many ∨ 0 < c) (n : Nat) (hn : 255 < n) :
    Q (iter (wrackref2_Unran.s1 N s k2 kr (b, many, (i : Int), (c : Int), ())) s n (out, (0 : Int), ())) := by
  refine iter_rule (fun v => ∃ j : Nat, v = (out ++ List.replicate j b[i + 1], (j : Int), ()) ∧ j ≤ c ∧ (((out.length + j : Nat) : Int) ≤ many ∨ (j = 0 ∧ 0 < c))) (fun v => c - v.2.1.toNat) Q ?_ n _ ⟨0, by simp, by omega, by omega⟩ (by simp; omega)
  rintro v again ⟨j, rfl, hj, hjm⟩ hag
  unfold wrackref2_Unran.s1
  simp only [decide_eq_true_eq, List.length_append, List.length_replicate]
  by_cases hlt : j < c
  · rw [if_pos (by omega)]
    by_cases hl : (((out.length + j : Nat) : Int)) ≥ many
    · rw [if_pos (by simpa using hl)]
      exact h0 (by omega)
    · rw [if_neg (by simpa using hl)]
      have e1 : (i : Int) + 1 = ((i + 1 : Nat) : Int) := by omega
      rw [w64 (x := (i : Int) + 1) (by omega) (by omega), gate_pos (inR_of (by omega) (by omega)), gate_pos (room_of (by simp; omega) (by simp; omega)), e1, getI_get hi, wu8 (by omega) (by omega)]
      refine hag _ ⟨j + 1, ?_, by omega, .inl (by omega)⟩ (by simp; omega)
      simp [List.replicate_succ']
  · rw [if_neg (by omega)]
    have : j = c := by omega
    subst this
    exact h1 (by omega)

theorem unran_eq (N : Nat) (b : List Int) (many : Int) (hb : b.length ≤ 1048576) (hN : 1048576 < N) (hby : ∀ x ∈ b, 0 ≤ x ∧ x < 256) :
    wrackref2_Unran N b many = some (if b.length % 2 = 1 then ([], 3) else unrun many b []) := by
  unfold wrackref2_Unran
  rw [gate_pos (by decide)]
  have e0 : Int.tmod (b.length : Int) 2 = ((b.length % 2 : Nat) : Int) := by
    rw [Int.tmod_eq_emod_of_nonneg (by omega)]; omega
  simp only [e0, decide_eq_true_eq]
  by_cases hod : b.length % 2 = 1
  · rw [if_pos (by omega), if_pos hod]
  · rw [if_neg (by omega), if_neg hod]
    refine iter_rule (fun v => ∃ (i : Nat) (out : List Int), v = (out, (i : Int), ()) ∧ i ≤ b.length ∧ i % 2 = 0 ∧ out.length ≤ 255 * i ∧ unrun many b [] = unrun many (b.drop i) out)
      (fun v => b.length - v.2.1.toNat) (fun r => r = some (unrun many b [])) ?_ N _ ⟨0, [], rfl, by omega, by omega, by simp, by simp⟩ (by simp; omega)
    rintro v again ⟨i, out, rfl, hi, hev, ho, hr⟩ hag
    unfold wrackref2_Unran.s0
    simp only [decide_eq_true_eq]
    by_cases hlt : i < b.length
    · have hlt1 : i + 1 < b.length := by omega
      rw [if_pos (by omega), gate_pos (inR_of (by omega) (by omega)), getI_get hlt]
      have hbi := hby b[i] (List.getElem_mem _)
      rw [drop_get hlt, drop_get hlt1] at hr
      simp only [unrun] at hr
      by_cases hz : b[i] = 0
      · rw [if_pos hz]
        rw [if_pos hz] at hr
        rw [hr]
      · rw [if_neg hz, gate_pos (inR_of (by omega) (by omega))]
        rw [if_neg hz] at hr
        have e2 : b[i] = ((b[i].toNat : Nat) : Int) := by omega
        rw [e2]
        refine unran_inner N none _ _ b out many i hb hlt1 b[i].toNat (by omega) ho (fun r => r = some (unrun many b [])) (fun h => ?_) (fun h => ?_) (.inr (by omega)) N (by omega)
        · rw [if_pos (by omega)] at hr
          simp only
          rw [hr]
        · rw [if_neg (by omega)] at hr
          simp only
          rw [w64 (by omega) (by omega)]
          exact hag _ ⟨i + 2, out ++ List.replicate b[i].toNat b[i + 1], by simp, by omega, by omega, by simp; omega, hr⟩ (by simp; omega)
    · rw [if_neg (by omega)]
      rw [hr, List.drop_eq_nil_of_le (by omega)]
      rfl

theorem unrun_len (many : Int) : ∀ (k : Nat) (b out : List Int), b.length ≤ k → (∀ x ∈ b, 0 ≤ x ∧ x < 256) → (unrun many b out).1.length ≤ out.length + 255 * b.length := by
  intro k
  induction k using Nat.strongRecOn with
  | _ k ih =>
    intro b out hk hby
    match b, hby with
    | [], _ => simp [unrun]
    | [x], _ => simp [unrun]
    | n :: c :: r, hby =>
      simp only [unrun]
      have hn := hby n (by simp)
      split
      · simp
      · split
        · simp
        · have := ih r.length (by simp at hk; omega) r (out ++ List.replicate n.toNat c) (Nat.le_refl _) fun x hx => hby x (by simp [hx])
          simp only [List.length_append, List.length_replicate, List.length_cons] at this ⊢
          omega

theorem xor32_bd (a b : Int) : 0 ≤ bitXor .u32 a b ∧ bitXor .u32 a b < 4294967296 := by
  unfold bitXor
  rw [wu32_mod]
  omega

theorem xor32_zero {a : Int} (h1 : 0 ≤ a) (h2 : a < 4294967296) : bitXor .u32 a 0 = a := by
  obtain ⟨n, rfl⟩ := Int.eq_ofNat_of_zero_le h1
  unfold bitXor
  have e : (BitVec.ofInt (IntKind.bits .u32) (n : Int) ^^^ BitVec.ofInt (IntKind.bits .u32) 0).toNat = n := by
    show (BitVec.ofInt 32 (n : Int) ^^^ BitVec.ofInt 32 0).toNat = n
    rw [BitVec.toNat_xor]
    have a : (BitVec.ofInt 32 (n : Int)).toNat = n := by simp; omega
    have b : (BitVec.ofInt 32 0).toNat = 0 := by decide
    rw [a, b, Nat.xor_zero]
  rw [e, wu32 (by omega) (by omega)]

theorem and32_one {a : Int} (h1 : 0 ≤ a) (h2 : a < 4294967296) : bitAnd .u32 a 1 = a % 2 := by
  obtain ⟨n, rfl⟩ := Int.eq_ofNat_of_zero_le h1
  unfold bitAnd
  have e : (BitVec.ofInt (IntKind.bits .u32) (n : Int) &&& BitVec.ofInt (IntKind.bits .u32) 1).toNat = n % 2 := by
    show (BitVec.ofInt 32 (n : Int) &&& BitVec.ofInt 32 1).toNat = n % 2
    rw [BitVec.toNat_and]
    have a : (BitVec.ofInt 32 (n : Int)).toNat = n := by simp; omega
    have b : (BitVec.ofInt 32 1).toNat = 1 := by decide
    rw [a, b, Nat.and_one_is_mod]
  rw [e, wu32 (by omega) (by omega)]
  omega

def crcBit (c : Int) : Int := if c % 2 = 1 then bitXor .u32 (c / 2) 3988292384 else c / 2

def crcN : Nat → Int → Int
  | 0, c => c
  | n + 1, c => crcN n (crcBit c)

def crcByte (c x : Int) : Int := crcN 8 (bitXor .u32 c (IntKind.wrap .u32 x))

def crcOf (bs : List Int) : Int := IntKind.wrap .i64 (bitXor .u32 4294967295 (bs.foldl crcByte 4294967295))

theorem crcBit_bd {c : Int} (h1 : 0 ≤ c) (h2 : c < 4294967296) : 0 ≤ crcBit c ∧ crcBit c < 4294967296 := by
  unfold crcBit
  split
  · exact xor32_bd _ _
  · omega

theorem sum_inner {R : Type} (N : Nat) (s : R) (k2 : (Int × Unit) → R) (ctx : List Int × Int × Int × Unit) (c : Int) (h1 : 0 ≤ c) (h2 : c < 4294967296) (Q : R → Prop) (hk : 0 ≤ crcN 8 c → crcN 8 c < 4294967296 → Q (k2 (crcN 8 c, ()))) (n : Nat) (hn : 8 < n) :
    Q (iter (sum_Crc.s1 N s k2 ctx) s n (c, (0 : Int), ())) := by
  refine iter_rule (fun v => ∃ (i : Nat) (d : Int), v = (d, (i : Int), ()) ∧ i ≤ 8 ∧ 0 ≤ d ∧ d < 4294967296 ∧ crcN 8 c = crcN (8 - i) d) (fun v => 8 - v.2.1.toNat) Q ?_ n _ ⟨0, c, rfl, by omega, h1, h2, rfl⟩ (by simp; omega)
  rintro v again ⟨i, d, rfl, hi, d1, d2, he⟩ hag
  unfold sum_Crc.s1
  simp only [decide_eq_true_eq]
  by_cases hlt : i < 8
  · rw [if_pos (by omega), gate_pos (by decide), w64 (by omega) (by omega), and32_one d1 d2]
    have sh : shrI .u32 d 1 = d / 2 := shrI_nat .u32 1 (by decide)
    have st : bitXor .u32 (shrI .u32 d 1) (IntKind.wrap .u32 (d % 2 * 3988292384)) = crcBit d := by
      rw [sh]
      unfold crcBit
      rcases (show d % 2 = 0 ∨ d % 2 = 1 by omega) with h | h
      · rw [h, if_neg (by omega), Int.zero_mul, wu32 (by omega) (by omega), xor32_zero (by omega) (by omega)]
      · rw [h, if_pos rfl, Int.one_mul, wu32 (by omega) (by omega)]
    rw [st]
    have hb := crcBit_bd d1 d2
    refine hag _ ⟨i + 1, crcBit d, by simp, by omega, hb.1, hb.2, ?_⟩ (by simp; omega)
    rw [he, show 8 - i = (8 - (i + 1)) + 1 by omega]
    rfl
  · rw [if_neg (by omega)]
    have : i = 8 := by omega
    subst this
    have he : crcN 8 c = d := he
    rw [he] at hk
    exact hk d1 d2

theorem sumCrc_eq (N : Nat) (bs : List Int) (hb : bs.length ≤ 140737488355328) (hN : bs.length < N) (hN8 : 8 < N) : sum_Crc N bs = some (crcOf bs) := by
  unfold sum_Crc
  refine iter_rule (fun v => ∃ (i : Nat) (d : Int), v = (d, (i : Int), ()) ∧ i ≤ bs.length ∧ 0 ≤ d ∧ d < 4294967296 ∧ bs.foldl crcByte 4294967295 = (bs.drop i).foldl crcByte d) (fun v => bs.length - v.2.1.toNat) (fun r => r = some (crcOf bs)) ?_ N _ ⟨0, 4294967295, rfl, Nat.zero_le _, by omega, by omega, rfl⟩ (by simpa using hN)
  rintro v again ⟨i, d, rfl, hi, d1, d2, he⟩ hag
  unfold sum_Crc.s0
  simp only [decide_eq_true_eq]
  by_cases hlt : i < bs.length
  · rw [if_pos (by omega), gate_pos (inR_of (by omega) (by omega)), getI_get hlt]
    have hx := xor32_bd d (IntKind.wrap .u32 bs[i])
    refine sum_inner N none _ _ _ hx.1 hx.2 (fun r => r = some (crcOf bs)) (fun n1 n2 => ?_) N hN8
    simp only
    rw [w64 (by omega) (by omega)]
    refine hag _ ⟨i + 1, _, rfl, by omega, n1, n2, ?_⟩ (by simp; omega)
    rw [he, List.drop_eq_getElem_cons hlt]
    rfl
  · rw [if_neg (by omega)]
    have : i = bs.length := by omega
    subst this
    simp only [List.drop_length, List.foldl_nil] at he
    rw [← he]
    rfl

theorem ref_inner {R : Type} (N : Nat) (s : R) (k2 : (Int × Unit) → R) (ctx : List Int × Int × Int × Unit) (c : Int) (h1 : 0 ≤ c) (h2 : c < 4294967296) (Q : R → Prop) (hk : 0 ≤ crcN 8 c → crcN 8 c < 4294967296 → Q (k2 (crcN 8 c, ()))) (n : Nat) (hn : 8 < n) :
    Q (iter (wrackref2_Crc.s1 N s k2 ctx) s n (c, (0 : Int), ())) := by
  refine iter_rule (fun v => ∃ (i : Nat) (d : Int), v = (d, (i : Int), ()) ∧ i ≤ 8 ∧ 0 ≤ d ∧ d < 4294967296 ∧ crcN 8 c = crcN (8 - i) d) (fun v => 8 - v.2.1.toNat) Q ?_ n _ ⟨0, c, rfl, by omega, h1, h2, rfl⟩ (by simp; omega)
  rintro v again ⟨i, d, rfl, hi, d1, d2, he⟩ hag
  unfold wrackref2_Crc.s1
  simp only [decide_eq_true_eq]
  by_cases hlt : i < 8
  · rw [if_pos (by omega), gate_pos (by decide), w64 (x := (i : Int) + 1) (by omega) (by omega)]
    rw [Int.tmod_eq_emod_of_nonneg d1, Int.tdiv_eq_ediv_of_nonneg d1]
    have hb := crcBit_bd d1 d2
    have hd : crcN 8 c = crcN (8 - (i + 1)) (crcBit d) := by
      rw [he, show 8 - i = (8 - (i + 1)) + 1 by omega]
      rfl
    by_cases h : d % 2 = 1
    · rw [if_pos h, gate_pos (by decide), wu32 (by omega) (by omega)]
      refine hag _ ⟨i + 1, crcBit d, ?_, by omega, hb.1, hb.2, hd⟩ (by simp; omega)
      unfold crcBit
      rw [if_pos h]
      simp
    · rw [if_neg h, gate_pos (by decide), wu32 (by omega) (by omega)]
      refine hag _ ⟨i + 1, crcBit d, ?_, by omega, hb.1, hb.2, hd⟩ (by simp; omega)
      unfold crcBit
      rw [if_neg h]
      simp
  · rw [if_neg (by omega)]
    have : i = 8 := by omega
    subst this
    have he : crcN 8 c = d := he
    rw [he] at hk
    exact hk d1 d2

theorem refCrc_eq (N : Nat) (bs : List Int) (hb : bs.length ≤ 140737488355328) (hN : bs.length < N) (hN8 : 8 < N) : wrackref2_Crc N bs = some (crcOf bs) := by
  unfold wrackref2_Crc
  refine iter_rule (fun v => ∃ (i : Nat) (d : Int), v = (d, (i : Int), ()) ∧ i ≤ bs.length ∧ 0 ≤ d ∧ d < 4294967296 ∧ bs.foldl crcByte 4294967295 = (bs.drop i).foldl crcByte d) (fun v => bs.length - v.2.1.toNat) (fun r => r = some (crcOf bs)) ?_ N _ ⟨0, 4294967295, rfl, Nat.zero_le _, by omega, by omega, rfl⟩ (by simpa using hN)
  rintro v again ⟨i, d, rfl, hi, d1, d2, he⟩ hag
  unfold wrackref2_Crc.s0
  simp only [decide_eq_true_eq]
  by_cases hlt : i < bs.length
  · rw [if_pos (by omega), gate_pos (inR_of (by omega) (by omega)), getI_get hlt]
    have hx := xor32_bd d (IntKind.wrap .u32 bs[i])
    refine ref_inner N none _ _ _ hx.1 hx.2 (fun r => r = some (crcOf bs)) (fun n1 n2 => ?_) N hN8
    simp only
    rw [w64 (by omega) (by omega)]
    refine hag _ ⟨i + 1, _, rfl, by omega, n1, n2, ?_⟩ (by simp; omega)
    rw [he, List.drop_eq_getElem_cons hlt]
    rfl
  · rw [if_neg (by omega)]
    have : i = bs.length := by omega
    subst this
    simp only [List.drop_length, List.foldl_nil] at he
    rw [← he]
    rfl

def nameCh (x : Int) : Bool := decide (97 ≤ x ∧ x ≤ 122) || decide (48 ≤ x ∧ x ≤ 57) || decide (x = 45)

def nameB (s : List Int) : Bool := match s with
  | [] => false
  | x :: r => decide (s.length ≤ 12) && (decide (97 ≤ x ∧ x ≤ 122) && s.all nameCh)

theorem split_eq (N : Nat) (s : List Int) (hs : s.length ≤ 1048576) : strings_Split N s [47] = some (splitI 47 s) := by
  unfold strings_Split
  have : genSplitF s [47] 0 (-1) = some (splitI 47 s) := by
    simp only [genSplitF]
    rw [if_pos ⟨trivial, trivial, by omega⟩]
  rw [bindO_of this]

theorem named_eq (N : Nat) (s : List Int) (hs : s.length ≤ 1048576) (hN : 1048577 < N) : fs_Named N s = some (nameB s) := by
  unfold fs_Named
  cases s with
  | nil => rfl
  | cons x r =>
    have e0 : getI 0 (x :: r) (0 : Int) = x := rfl
    rw [if_neg (by simp)]
    by_cases hl : (x :: r).length ≤ 12
    · rw [if_neg (by simp only [decide_eq_true_eq]; omega), gate_pos (inR_of (by omega) (by simp)), gate_pos (inR_of (by omega) (by simp)), e0]
      simp only [decide_eq_true_eq]
      by_cases h1 : x < 97
      · rw [if_pos h1]
        have : nameB (x :: r) = false := by
          simp only [nameB]
          have : decide (97 ≤ x ∧ x ≤ 122) = false := by simp; omega
          rw [this]; simp
        rw [this]; rfl
      · rw [if_neg h1]
        by_cases h2 : x > 122
        · have : nameB (x :: r) = false := by
            simp only [nameB]
            have : decide (97 ≤ x ∧ x ≤ 122) = false := by simp; omega
            rw [this]; simp
          rw [this]
          simp [bindO, h2]
        · have hx : decide (97 ≤ x ∧ x ≤ 122) = true := by simp; omega
          have hnb : nameB (x :: r) = (x :: r).all nameCh := by
            simp only [nameB]
            rw [hx]
            simp only [Bool.true_and]
            rw [show decide ((x :: r).length ≤ 12) = true by simpa using hl]
            simp
          rw [hnb]
          simp only [bindO, h2, decide_false]
          rw [if_neg (by decide)]
          generalize hy : x :: r = y at *
          refine iter_rule (fun v => ∃ i : Nat, v = ((i : Int), ()) ∧ i ≤ y.length ∧ ∀ j : Nat, j < i → nameCh (y.getD j 0) = true) (fun v => y.length - v.1.toNat)
            (fun o => o = some (y.all nameCh)) ?_ N _ ⟨0, rfl, Nat.zero_le _, fun j hj => absurd hj (Nat.not_lt_zero _)⟩ (by simp only; omega)
          rintro v again ⟨i, rfl, hi, hall⟩ hag
          unfold fs_Named.s0
          simp only [decide_eq_true_eq]
          by_cases hlt : i < y.length
          · rw [if_pos (by omega), gate_pos (inR_of (by omega) (by omega)), getI_nat]
            generalize hz : y.getD i 0 = z
            have body : (if z < 97 then (if z < 48 then some (!decide (z = 45)) else if z > 57 then some (!decide (z = 45)) else some false) else if z > 122 then (if z < 48 then some (!decide (z = 45)) else if z > 57 then some (!decide (z = 45)) else some false) else some false : Option Bool) = some (!nameCh z) := by
              unfold nameCh
              repeat' split
              all_goals
                simp only [Option.some.injEq, Bool.not_or, Bool.false_eq, Bool.and_eq_false_imp]
                rw [Bool.eq_iff_iff]
                simp
                try omega
            rw [body]
            simp only [bindO]
            cases hc : nameCh z with
            | true =>
              simp only [Bool.not_true, Bool.false_eq_true, if_false]
              rw [w64 (by omega) (by omega)]
              refine hag _ ⟨i + 1, by simp, by omega, fun j hj => ?_⟩ (by simp only; omega)
              rcases Nat.lt_or_eq_of_le (Nat.le_of_lt_succ hj) with h | h
              · exact hall j h
              · subst h; rw [hz]; exact hc
            | false =>
              simp only [Bool.not_false, if_true, Option.some.injEq, Bool.false_eq]
              rw [List.all_eq_false]
              refine ⟨y[i], List.getElem_mem hlt, ?_⟩
              rw [List.getD_eq_getElem?_getD, List.getElem?_eq_getElem hlt] at hz
              simp only [Option.getD_some] at hz
              rw [hz, hc]
              simp
          · rw [if_neg (by omega)]
            simp only [Option.some.injEq, Bool.true_eq, List.all_eq_true]
            intro z hz
            obtain ⟨j, hj, rfl⟩ := List.getElem_of_mem hz
            have := hall j (by omega)
            rw [List.getD_eq_getElem?_getD, List.getElem?_eq_getElem hj] at this
            exact this
    · rw [if_pos (by simp only [decide_eq_true_eq]; omega)]
      have : nameB (x :: r) = false := by
        simp only [nameB]
        have : decide ((x :: r).length ≤ 12) = false := by simpa using hl
        rw [this]; simp
      rw [this]; rfl

theorem dropWhile_nil {p : Int → Bool} : ∀ l : List Int, l.dropWhile p = [] ↔ ∀ x ∈ l, p x = true := by
  intro l
  induction l with
  | nil => simp
  | cons x r ih =>
    simp only [List.dropWhile_cons, List.mem_cons, forall_eq_or_imp]
    cases h : p x with
    | true => simp [ih]
    | false => simp

theorem trimI_nil (cs l : List Int) : trimI cs l = [] ↔ ∀ x ∈ l, cs.contains x = true := by
  have hd : ∀ m : List Int, (∀ x ∈ m.dropWhile (cs.contains ·), cs.contains x = true) → m.dropWhile (cs.contains ·) = [] := by
    intro m
    induction m with
    | nil => intro _; rfl
    | cons x r ih =>
      intro h
      rw [List.dropWhile_cons] at h ⊢
      cases hc : cs.contains x with
      | true => rw [hc] at h; simp only [if_true] at h ⊢; exact ih h
      | false =>
        rw [hc] at h
        simp only [Bool.false_eq_true, if_false, List.mem_cons, forall_eq_or_imp] at h
        rw [hc] at h
        exact absurd h.1 (by decide)
  unfold trimI
  rw [dropWhile_nil]
  constructor
  · intro h
    have h1 := hd l.reverse (fun x hx => h x (by simpa using hx))
    rw [dropWhile_nil] at h1
    exact fun x hx => h1 x (by simpa using hx)
  · intro h x hx
    have h1 : x ∈ l.reverse.dropWhile (cs.contains ·) := by simpa using hx
    exact h x (by simpa using (List.dropWhile_sublist _).mem h1)

theorem idxI_ge (c : Int) : ∀ l : List Int, -1 ≤ idxI c l ∧ (0 ≤ idxI c l ↔ c ∈ l) := by
  intro l
  induction l with
  | nil => simp [idxI]
  | cons x r ih =>
    obtain ⟨h1, h2⟩ := ih
    simp only [idxI, List.mem_cons]
    by_cases h : x = c
    · rw [if_pos h]
      simp [h]
    · rw [if_neg h]
      by_cases h3 : idxI c r = -1
      · rw [if_pos h3]
        refine ⟨by omega, ?_⟩
        constructor
        · intro h4; omega
        · intro h4
          rcases h4 with h4 | h4
          · exact absurd h4.symm h
          · have := h2.2 h4; omega
      · rw [if_neg h3]
        refine ⟨by omega, ?_⟩
        constructor
        · intro h4; exact Or.inr (h2.1 (by omega))
        · intro h4
          rcases h4 with h4 | h4
          · exact absurd h4.symm h
          · have := h2.2 h4; omega

theorem letter_mem (x : Int) : x ∈ ([97, 98, 99, 100, 101, 102, 103, 104, 105, 106, 107, 108, 109, 110, 111, 112, 113, 114, 115, 116, 117, 118, 119, 120, 121, 122] : List Int) ↔ 97 ≤ x ∧ x ≤ 122 := by
  simp only [List.mem_cons, List.not_mem_nil, or_false]
  omega

theorem nameCh_mem (x : Int) : ([97, 98, 99, 100, 101, 102, 103, 104, 105, 106, 107, 108, 109, 110, 111, 112, 113, 114, 115, 116, 117, 118, 119, 120, 121, 122, 48, 49, 50, 51, 52, 53, 54, 55, 56, 57, 45] : List Int).contains x = nameCh x := by
  rw [Bool.eq_iff_iff]
  simp only [List.contains_eq_mem, decide_eq_true_eq, nameCh, Bool.or_eq_true, List.mem_cons, List.not_mem_nil, or_false]
  omega

theorem word_eq (N : Nat) (s : List Int) : wrackref2_Word N s = some (nameB s) := by
  unfold wrackref2_Word
  cases s with
  | nil => rfl
  | cons x r =>
    simp only [decide_eq_true_eq]
    rw [if_pos (by simp)]
    by_cases hl : ((x :: r).length : Int) ≤ 12
    · rw [if_pos hl, gate_pos (bounds_of (by omega) (by omega) (by simp only [List.length_cons]; omega))]
      have ec : cut (x :: r) (0 : Int) (1 : Int) = [x] := rfl
      have hcon : strings_Contains N [97, 98, 99, 100, 101, 102, 103, 104, 105, 106, 107, 108, 109, 110, 111, 112, 113, 114, 115, 116, 117, 118, 119, 120, 121, 122] [x] = some (decide (97 ≤ x ∧ x ≤ 122)) := by
        unfold strings_Contains
        simp only [indexF, bindO, Option.some.injEq, ge_iff_le]
        rw [Bool.eq_iff_iff]
        simp only [decide_eq_true_eq]
        rw [(idxI_ge x _).2, letter_mem]
      rw [ec, bindO_of hcon]
      by_cases hx : 97 ≤ x ∧ x ≤ 122
      · rw [if_pos (by simpa using hx)]
        have ht : trimF (x :: r) [97, 98, 99, 100, 101, 102, 103, 104, 105, 106, 107, 108, 109, 110, 111, 112, 113, 114, 115, 116, 117, 118, 119, 120, 121, 122, 48, 49, 50, 51, 52, 53, 54, 55, 56, 57, 45] = some (trimI [97, 98, 99, 100, 101, 102, 103, 104, 105, 106, 107, 108, 109, 110, 111, 112, 113, 114, 115, 116, 117, 118, 119, 120, 121, 122, 48, 49, 50, 51, 52, 53, 54, 55, 56, 57, 45] (x :: r)) := by
          unfold trimF
          rw [if_pos (by decide)]
        rw [bindO_of ht]
        simp only [bindO, Option.some.injEq, nameB]
        rw [decide_eq_true (show (x :: r).length ≤ 12 by omega), decide_eq_true hx]
        simp only [Bool.true_and]
        rw [Bool.eq_iff_iff]
        simp only [decide_eq_true_eq, trimI_nil, nameCh_mem, List.all_eq_true]
      · rw [if_neg (by simpa using hx)]
        simp only [bindO, nameB]
        rw [decide_eq_false hx]
        simp
    · rw [if_neg hl]
      simp only [bindO, nameB]
      rw [decide_eq_false (show ¬ (x :: r).length ≤ 12 by omega)]
      simp

def pathB (s : List Int) : Bool := decide ((splitI 47 s).length ≤ 4) && (splitI 47 s).all nameB

theorem splitI_len (c : Int) : ∀ l : List Int, (splitI c l).length ≤ l.length + 1 ∧ ∀ p ∈ splitI c l, p.length ≤ l.length := by
  intro l
  induction l with
  | nil => simp [splitI]
  | cons x r ih =>
    simp only [splitI]
    obtain ⟨h1, h2⟩ := ih
    split
    · refine ⟨by simp; omega, fun p hp => ?_⟩
      rcases List.mem_cons.1 hp with hp | hp
      · subst hp; simp
      · have := h2 p hp; simp; omega
    · split
      · rename_i a t hs
        rw [hs] at h1 h2
        refine ⟨by simp at h1 ⊢; omega, fun p hp => ?_⟩
        rcases List.mem_cons.1 hp with hp | hp
        · subst hp
          have := h2 a (by simp)
          simp; omega
        · have := h2 p (by simp [hp])
          simp; omega
      · exact ⟨by simp, fun p hp => by simp at hp; subst hp; simp⟩

theorem way_eq (N : Nat) (s : List Int) (hs : s.length ≤ 1048576) (hN : 1048577 < N) : wrackref2_Way N s = some (pathB s) := by
  unfold wrackref2_Way
  rw [bindO_of (split_eq N s hs)]
  have hlen := (splitI_len 47 s).1
  unfold pathB
  generalize splitI 47 s = l at *
  refine iter_rule (fun v => ∃ i : Nat, v = (l, l, (i : Int), ()) ∧ i ≤ l.length ∧ ∀ j : Nat, j < i → nameB (l.getD j []) = true) (fun v => l.length - v.2.2.1.toNat)
    (fun o => o = some (decide (l.length ≤ 4) && l.all nameB)) ?_ N _ ⟨0, rfl, Nat.zero_le _, fun j hj => absurd hj (Nat.not_lt_zero _)⟩ (by simp only; omega)
  rintro v again ⟨i, rfl, hi, hall⟩ hag
  unfold wrackref2_Way.s0
  simp only [decide_eq_true_eq]
  by_cases hlt : i < l.length
  · rw [if_pos (by omega), gate_pos (inR_of (by omega) (by omega)), getI_nat, bindO_of (word_eq N _)]
    cases hc : nameB (l.getD i []) with
    | true =>
      simp only [Bool.not_true, Bool.false_eq_true, if_false]
      rw [w64 (by omega) (by omega)]
      refine hag _ ⟨i + 1, by simp, by omega, fun j hj => ?_⟩ (by simp only; omega)
      rcases Nat.lt_or_eq_of_le (Nat.le_of_lt_succ hj) with h | h
      · exact hall j h
      · subst h; exact hc
    | false =>
      simp only [Bool.not_false, if_true, Option.some.injEq, Bool.false_eq, Bool.and_eq_false_imp]
      intro _
      rw [List.all_eq_false]
      refine ⟨l[i], List.getElem_mem hlt, ?_⟩
      rw [List.getD_eq_getElem?_getD, List.getElem?_eq_getElem hlt] at hc
      simp only [Option.getD_some] at hc
      rw [hc]; simp
  · rw [if_neg (by omega)]
    have : l.all nameB = true := by
      rw [List.all_eq_true]
      intro z hz
      obtain ⟨j, hj, rfl⟩ := List.getElem_of_mem hz
      have := hall j (by omega)
      rw [List.getD_eq_getElem?_getD, List.getElem?_eq_getElem hj] at this
      exact this
    rw [this]
    simp only [Option.some.injEq, Bool.and_true, decide_eq_decide]
    omega

theorem path_eq (N : Nat) (s : List Int) (hs : s.length ≤ 1048576) (hN : 1048577 < N) : fs_Path N s = some (if pathB s = true then 0 else 6) := by
  unfold fs_Path
  rw [bindO_of (split_eq N s hs)]
  obtain ⟨hlen, hparts⟩ := splitI_len 47 s
  unfold pathB
  generalize splitI 47 s = l at *
  simp only [decide_eq_true_eq]
  by_cases h4 : (l.length : Int) > 4
  · rw [if_pos h4, decide_eq_false (show ¬ l.length ≤ 4 by omega)]
    simp
  · rw [if_neg h4, decide_eq_true (show l.length ≤ 4 by omega), Bool.true_and]
    refine iter_rule (fun v => ∃ i : Nat, v = ((i : Int), ()) ∧ i ≤ l.length ∧ ∀ j : Nat, j < i → nameB (l.getD j []) = true) (fun v => l.length - v.1.toNat)
      (fun o => o = some (if l.all nameB = true then (0 : Int) else 6)) ?_ N _ ⟨0, rfl, Nat.zero_le _, fun j hj => absurd hj (Nat.not_lt_zero _)⟩ (by simp only; omega)
    rintro v again ⟨i, rfl, hi, hall⟩ hag
    unfold fs_Path_i0_slices_ContainsFunc_i0_slices_IndexFunc.s0
    simp only [decide_eq_true_eq]
    by_cases hlt : i < l.length
    · have hp : fs_Path_1 N (l.getD i []) = some (!nameB (l.getD i [])) := by
        unfold fs_Path_1
        rw [bindO_of (named_eq N _ (by
          rw [List.getD_eq_getElem?_getD, List.getElem?_eq_getElem hlt]
          have := hparts _ (List.getElem_mem hlt)
          simp only [Option.getD_some]; omega) hN)]
      rw [if_pos (by omega), gate_pos (inR_of (by omega) (by omega)), getI_nat, bindO_of hp]
      cases hc : nameB (l.getD i []) with
      | true =>
        simp only [Bool.not_true, Bool.false_eq_true, if_false]
        rw [w64 (by omega) (by omega)]
        refine hag _ ⟨i + 1, by simp, by omega, fun j hj => ?_⟩ (by simp only; omega)
        rcases Nat.lt_or_eq_of_le (Nat.le_of_lt_succ hj) with h | h
        · exact hall j h
        · subst h; exact hc
      | false =>
        simp only [Bool.not_false, if_true]
        rw [if_pos (by omega)]
        have : l.all nameB = false := by
          rw [List.all_eq_false]
          refine ⟨l[i], List.getElem_mem hlt, ?_⟩
          rw [List.getD_eq_getElem?_getD, List.getElem?_eq_getElem hlt] at hc
          simp only [Option.getD_some] at hc
          rw [hc]; simp
        rw [this]; rfl
    · rw [if_neg (by omega)]
      have : l.all nameB = true := by
        rw [List.all_eq_true]
        intro z hz
        obtain ⟨j, hj, rfl⟩ := List.getElem_of_mem hz
        have := hall j (by omega)
        rw [List.getD_eq_getElem?_getD, List.getElem?_eq_getElem hj] at this
        exact this
      rw [this]
      simp

/-- n bytes from lo on -/
def partB (x : List Int) (lo n : Nat) : List Int := (x.drop lo).take n

def Bytes (b : List Int) : Prop := ∀ x ∈ b, 0 ≤ x ∧ x < 256

theorem cut_part (x : List Int) (lo n : Nat) (l h : Int) (hl : l = lo) (hh : h = lo + n) : cut x l h = partB x lo n := by
  subst hl; subst hh
  have := cut_nat x lo (lo + n) (by omega)
  rw [show ((lo + n : Nat) : Int) = (lo : Int) + n by omega] at this
  rw [this, Nat.add_sub_cancel_left]
  rfl

theorem part_bytes {x : List Int} (h : Bytes x) (lo n : Nat) : Bytes (partB x lo n) := fun y hy => h y (List.mem_of_mem_drop (List.mem_of_mem_take hy))

theorem partB_len (x : List Int) (lo n : Nat) : (partB x lo n).length ≤ n := by
  unfold partB
  rw [List.length_take]
  omega

theorem num2_lt {x : List Int} (h : Bytes x) (lo : Nat) : numB (partB x lo 2) < 65536 := by
  have h1 := numB_lt _ (part_bytes h lo 2)
  have h2 : 256 ^ (partB x lo 2).length ≤ 256 ^ 2 := Nat.pow_le_pow_right (by decide) (partB_len x lo 2)
  have h2 : 256 ^ (partB x lo 2).length ≤ 65536 := h2
  omega

/-- an entry at the beginning of x: it, and how long it is -/
def itemX (x : List Int) (at_ : Nat) : (List Int × List Int) × Int × Int :=
  if x.length < 3 ∨ (x.length : Int) < 11 + x.getD 2 0 then (([], []), 0, 15) else
  let n := (x.getD 2 0).toNat
  let path := partB x 3 n
  let size := numB (partB x (3 + n) 2)
  let st := numB (partB x (5 + n) 2)
  if x.getD 0 0 ≠ 105 ∨ x.getD 1 0 > 1 ∨ pathB path = false ∨ size > 2048 ∨ (x.getD 1 0 = 0 ∧ size ≠ st) then (([], []), 0, 3)
  else if x.length < 11 + n + st then (([], []), 0, 15)
  else
    let raw := partB x (11 + n) st
    let crc := ((numB (partB x (7 + n) 4) : Nat) : Int)
    if x.getD 1 0 = 1 then
      (let u := if raw.length % 2 = 1 then ([], 3) else unrun (size : Int) raw []
       if u.2 ≠ 0 ∨ u.1.length ≠ size then (([], []), 0, 3) else if crcOf u.1 ≠ crc then (([], []), 0, 13) else ((path, u.1), ((at_ + 11 + n + st : Nat) : Int), 0))
    else if crcOf raw ≠ crc then (([], []), 0, 13) else ((path, raw), ((at_ + 11 + n + st : Nat) : Int), 0)

def itemI (b : List Int) (at_ : Nat) : (List Int × List Int) × Int × Int := if b.length < at_ then (([], []), 0, 3) else itemX (b.drop at_) at_

theorem clone_eq' (N : Nat) (b : List Int) (hb : b.length ≤ 1048576) : slices_Clone_byte N b = some b := by
  unfold slices_Clone_byte
  rw [gate_pos (room_of (by simp; omega) (by simp; omega))]
  rfl

theorem getD_mem_b {x : List Int} {i : Nat} (h : i < x.length) : x.getD i 0 ∈ x := by
  rw [List.getD_eq_getElem?_getD, List.getElem?_eq_getElem h]
  exact List.getElem_mem h

theorem bad_if (x0 x1 : Int) (pb : Bool) (size st : Nat) :
    (if (!decide (x0 = 105)) = true then some true else if decide (x1 > 1) = true then some true else
      if (!decide ((if pb = true then (0 : Int) else 6) = (0 : Int))) = true then some true else if decide ((size : Int) > 2048) = true then some true else if decide (x1 = 0) = true then some (!decide ((size : Int) = (st : Int))) else some false : Option Bool) =
      some (decide (x0 ≠ 105 ∨ x1 > 1 ∨ pb = false ∨ size > 2048 ∨ (x1 = 0 ∧ size ≠ st))) := by
  by_cases c1 : x0 = 105
  · by_cases c2 : x1 > 1
    · simp [c1, c2]
    · cases pb with
      | true =>
        by_cases c4 : size > 2048
        · have c4' : (size : Int) > 2048 := by omega
          simp [c1, c2, c4, c4']
        · have c4' : ¬ ((size : Int) > 2048) := by omega
          by_cases c5 : x1 = 0
          · by_cases c6 : size = st
            · subst c6
              have d1 : ¬ (2048 < size) := by omega
              have d2 : ¬ ((2048 : Int) < (size : Int)) := by omega
              simp [c1, c5, d1, d2]
            · have c6' : ¬ ((size : Int) = (st : Int)) := by omega
              simp [c1, c4, c4', c5, c6, c6']
          · simp [c1, c2, c4, c4', c5]
      | false => simp [c1, c2]
  · simp [c1]

theorem bad_u (u2 : Int) (len size : Nat) : (if (!decide (u2 = 0)) = true then some true else some (!decide ((len : Int) = (size : Int))) : Option Bool) = some (decide (u2 ≠ 0 ∨ len ≠ size)) := by
  by_cases c1 : u2 = 0
  · by_cases c2 : len = size
    · subst c2; simp [c1]
    · have d : ¬ ((len : Int) = (size : Int)) := by omega
      simp [c1, c2, d]
  · simp [c1]

theorem one_eq (N : Nat) (b : List Int) (a : Nat) (hb : Bytes b) (hl : b.length ≤ 65536) (ha : a ≤ 281474976710656) (hN : 1048577 < N) : arch_one N b (a : Int) = some (itemI b a) := by
  unfold arch_one itemI
  have h0 : (if decide ((a : Int) < 0) = true then some true else some (decide ((a : Int) > (b.length : Int))) : Option Bool) = some (decide (b.length < a)) := by
    rw [if_neg (by simp), Option.some.injEq, decide_eq_decide]
    omega
  rw [bindO_of h0]
  by_cases hlt : b.length < a
  · rw [if_pos (by simpa using hlt), if_pos hlt]
  rw [if_neg (by simpa using hlt), if_neg hlt, gate_pos (bounds_of (by omega) (by omega) (by omega))]
  have hcut : cut b (a : Int) (b.length : Int) = b.drop a := by
    rw [cut_part b a (b.length - a) _ _ rfl (by omega)]
    unfold partB
    rw [List.take_of_length_le (by rw [List.length_drop]; exact Nat.le_refl _)]
  rw [hcut]
  have hx : Bytes (b.drop a) := fun y hy => hb y (List.mem_of_mem_drop hy)
  have hxl : (b.drop a).length ≤ 65536 := by rw [List.length_drop]; omega
  generalize b.drop a = x at *
  unfold itemX
  have g2 : getI (0 : Int) x 2 = x.getD 2 0 := getI_nat 0 x 2
  have g1 : getI (0 : Int) x 1 = x.getD 1 0 := getI_nat 0 x 1
  have g0 : getI (0 : Int) x 0 = x.getD 0 0 := getI_nat 0 x 0
  simp only [g0, g1, g2]
  by_cases h3 : x.length < 3
  · have e : (if decide (((x.length : Nat) : Int) < 3) = true then some true else gate (inR 2 (x.length : Int)) (some (decide ((x.length : Int) < IntKind.wrap .i64 (11 + IntKind.wrap .i64 (x.getD 2 0))))) none : Option Bool) = some true := by
      rw [if_pos (by simp; omega)]
    rw [bindO_of e, if_pos rfl, if_pos (Or.inl h3)]
  have hn := hx _ (getD_mem_b (show 2 < x.length by omega))
  have h1b := hx _ (getD_mem_b (show 1 < x.length by omega))
  have h0b := hx _ (getD_mem_b (show 0 < x.length by omega))
  obtain ⟨n, hnn⟩ := Int.eq_ofNat_of_zero_le hn.1
  have hn256 : n < 256 := by omega
  rw [hnn] at *
  have wn : IntKind.wrap .i64 (n : Int) = (n : Int) := w64 (by omega) (by omega)
  have w11 : IntKind.wrap .i64 ((11 : Int) + (n : Int)) = ((11 + n : Nat) : Int) := by rw [w64 (by omega) (by omega)]; omega
  have w3 : IntKind.wrap .i64 ((3 : Int) + (n : Int)) = ((3 + n : Nat) : Int) := by rw [w64 (by omega) (by omega)]; omega
  have w5 : IntKind.wrap .i64 ((5 : Int) + (n : Int)) = ((5 + n : Nat) : Int) := by rw [w64 (by omega) (by omega)]; omega
  have w7 : IntKind.wrap .i64 ((7 : Int) + (n : Int)) = ((7 + n : Nat) : Int) := by rw [w64 (by omega) (by omega)]; omega
  have e : (if decide (((x.length : Nat) : Int) < 3) = true then some true else gate (inR 2 (x.length : Int)) (some (decide ((x.length : Int) < IntKind.wrap .i64 (11 + IntKind.wrap .i64 (n : Int))))) none : Option Bool) = some (decide ((x.length : Int) < 11 + (n : Int))) := by
    rw [if_neg (by simp; omega), gate_pos (inR_of (by omega) (by omega)), wn, w11]
    congr 2
  rw [bindO_of e]
  by_cases h11 : (x.length : Int) < 11 + (n : Int)
  · rw [if_pos (by simpa using h11), if_pos (Or.inr h11)]
  rw [if_neg (by simpa using h11), if_neg (by rintro (h | h); exact h3 h; exact h11 h)]
  simp only [wn, w11, w3, w5, w7, Int.toNat_natCast]
  have p1 : cut x (3 : Int) ((3 + n : Nat) : Int) = partB x 3 n := cut_part x 3 n _ _ rfl (by omega)
  have p2 : cut x ((3 + n : Nat) : Int) ((5 + n : Nat) : Int) = partB x (3 + n) 2 := cut_part x (3 + n) 2 _ _ rfl (by omega)
  have p3 : cut x ((5 + n : Nat) : Int) ((7 + n : Nat) : Int) = partB x (5 + n) 2 := cut_part x (5 + n) 2 _ _ rfl (by omega)
  have p4 : cut x ((7 + n : Nat) : Int) ((11 + n : Nat) : Int) = partB x (7 + n) 4 := cut_part x (7 + n) 4 _ _ rfl (by omega)
  have q2 := number_eq N _ (part_bytes hx (3 + n) 2) (Nat.le_trans (partB_len _ _ _) (by decide))
  have q3 := number_eq N _ (part_bytes hx (5 + n) 2) (Nat.le_trans (partB_len _ _ _) (by decide))
  have q4 := number_eq N _ (part_bytes hx (7 + n) 4) (Nat.le_trans (partB_len _ _ _) (by decide))
  have hs2 := num2_lt hx (3 + n)
  have hs3 := num2_lt hx (5 + n)
  have hpl : (partB x 3 n).length ≤ 1048576 := Nat.le_trans (partB_len _ _ _) (by omega)
  rw [gate_pos (inR_of (by omega) (by omega)), gate_pos (bounds_of (by omega) (by omega) (by omega)), p1, gate_pos (bounds_of (by omega) (by omega) (by omega)), p2, bindO_of q2, gate_pos (bounds_of (by omega) (by omega) (by omega)), p3, bindO_of q3, gate_pos (bounds_of (by omega) (by omega) (by omega)), p4, bindO_of q4]
  generalize hsz : numB (partB x (3 + n) 2) = size at *
  generalize hst : numB (partB x (5 + n) 2) = st at *
  generalize numB (partB x (7 + n) 4) = crc
  have hin0 : inR (0 : Int) (x.length : Int) = true := inR_of (by omega) (by omega)
  have hin1 : inR (1 : Int) (x.length : Int) = true := inR_of (by omega) (by omega)
  have ec : (gate (inR (0 : Int) (x.length : Int)) (if (!decide (x.getD 0 0 = 105)) = true then some true else gate (inR (1 : Int) (x.length : Int)) (if decide (x.getD 1 0 > 1) = true then some true else
      bindO (fs_Path N (partB x 3 n)) (fun r => if (!decide (r = (0 : Int))) = true then some true else if decide ((size : Int) > 2048) = true then some true else gate (inR (1 : Int) (x.length : Int)) (if decide (x.getD 1 0 = 0) = true then some (!decide ((size : Int) = (st : Int))) else some false) none) none) none) none : Option Bool) =
      some (decide (x.getD 0 0 ≠ 105 ∨ x.getD 1 0 > 1 ∨ pathB (partB x 3 n) = false ∨ size > 2048 ∨ (x.getD 1 0 = 0 ∧ size ≠ st))) := by
    rw [gate_pos hin0, gate_pos hin1, bindO_of (path_eq N _ hpl hN), gate_pos hin1]
    exact bad_if _ _ _ _ _
  rw [bindO_of ec]
  by_cases hbad : x.getD 0 0 ≠ 105 ∨ x.getD 1 0 > 1 ∨ pathB (partB x 3 n) = false ∨ size > 2048 ∨ (x.getD 1 0 = 0 ∧ size ≠ st)
  · rw [if_pos (decide_eq_true hbad), if_pos hbad]
  rw [if_neg (by rw [decide_eq_false hbad]; decide), if_neg hbad]
  have w8 : IntKind.wrap .i64 (((11 + n : Nat) : Int) + (st : Int)) = ((11 + n + st : Nat) : Int) := by rw [w64 (by omega) (by omega)]; omega
  rw [w8]
  by_cases hsh : x.length < 11 + n + st
  · rw [if_pos (by simp; omega), if_pos hsh]
  rw [if_neg (by simp; omega), if_neg hsh, gate_pos (bounds_of (by omega) (by omega) (by omega))]
  have p5 : cut x ((11 + n : Nat) : Int) ((11 + n + st : Nat) : Int) = partB x (11 + n) st := cut_part x (11 + n) st _ _ rfl (by omega)
  have hraw := part_bytes hx (11 + n) st
  have hrl : (partB x (11 + n) st).length ≤ 65536 := Nat.le_trans (partB_len _ _ _) (by omega)
  rw [p5, bindO_of (clone_eq' N _ (by omega)), gate_pos hin1]
  generalize hrw : partB x (11 + n) st = raw at *
  have wa : IntKind.wrap .i64 (IntKind.wrap .i64 (IntKind.wrap .i64 ((a : Int) + 11) + (n : Int)) + (st : Int)) = ((a + 11 + n + st : Nat) : Int) := by
    rw [w64 (x := (a : Int) + 11) (by omega) (by omega), w64 (x := (a : Int) + 11 + (n : Int)) (by omega) (by omega), w64 (by omega) (by omega)]
    omega
  rw [wa]
  by_cases hw : x.getD 1 0 = 1
  · rw [if_pos (by simpa using hw), if_pos hw, bindO_of (unpack_eq N raw (size : Int) (by omega) (by omega) hraw ⟨by omega, by omega⟩)]
    have hul : (if raw.length % 2 = 1 then (([], 3) : List Int × Int) else unrun (size : Int) raw []).1.length ≤ 255 * 65536 := by
      split
      · simp
      · have := unrun_len (size : Int) raw.length raw [] (Nat.le_refl _) hraw
        simp only [List.length_nil, Nat.zero_add] at this
        exact Nat.le_trans this (Nat.mul_le_mul_left _ hrl)
    generalize (if raw.length % 2 = 1 then (([], 3) : List Int × Int) else unrun (size : Int) raw []) = u at *
    have eu : (if (!decide (u.2 = 0)) = true then some true else some (!decide ((u.1.length : Int) = (size : Int))) : Option Bool) = some (decide (u.2 ≠ 0 ∨ u.1.length ≠ size)) := by
      exact bad_u _ _ _
    rw [bindO_of eu]
    by_cases hu : u.2 ≠ 0 ∨ u.1.length ≠ size
    · rw [if_pos (decide_eq_true hu), if_pos hu]
    rw [if_neg (by rw [decide_eq_false hu]; decide), if_neg hu]
    have hlen : u.1.length = size := by
      by_cases c : u.1.length = size
      · exact c
      · exact absurd (Or.inr c) hu
    have hs48 : size ≤ 2048 := by
      by_cases c : size ≤ 2048
      · exact c
      · exact absurd (Or.inr (Or.inr (Or.inr (Or.inl (by omega))))) hbad
    rw [bindO_of (sumCrc_eq N u.1 (by omega) (by omega) (by omega))]
    by_cases hcr : crcOf u.1 = (crc : Int)
    · rw [if_neg (by simpa using hcr), if_neg (by simpa using hcr)]
    · rw [if_pos (by simpa using hcr), if_pos hcr]
  · rw [if_neg (by simpa using hw), if_neg hw, bindO_of (sumCrc_eq N raw (by omega) (by omega) (by omega))]
    by_cases hcr : crcOf raw = (crc : Int)
    · rw [if_neg (by simpa using hcr), if_neg (by simpa using hcr)]
    · rw [if_pos (by simpa using hcr), if_pos hcr]

theorem bad_ref (x0 x1 : Int) (pb : Bool) (size st : Nat) :
    (if (!decide (x0 = 105)) = true then some true else if decide (x1 > 1) = true then some true else
      if (!pb) = true then some true else if decide ((size : Int) > 2048) = true then some true else if decide (x1 = 0) = true then some (!decide ((st : Int) = (size : Int))) else some false : Option Bool) =
      some (decide (x0 ≠ 105 ∨ x1 > 1 ∨ pb = false ∨ size > 2048 ∨ (x1 = 0 ∧ size ≠ st))) := by
  rw [← bad_if]
  cases pb with
  | true =>
    simp only [Bool.not_true, Bool.false_eq_true, if_false, if_true, decide_true]
    have : decide ((st : Int) = (size : Int)) = decide ((size : Int) = (st : Int)) := by
      rw [decide_eq_decide]; omega
    rw [this]
  | false => rfl

theorem itemAt_eq (N : Nat) (b : List Int) (a : Nat) (hb : Bytes b) (hl : b.length ≤ 65536) (ha : a ≤ 281474976710656) (hN : 1048577 < N) : wrackref2_ItemAt N b (a : Int) = some (itemI b a) := by
  unfold wrackref2_ItemAt itemI
  by_cases hlt : b.length < a
  · rw [if_pos (by simp; omega), if_pos hlt]
  rw [if_neg (by simp; omega), if_neg hlt, gate_pos (bounds_of (by omega) (by omega) (by omega))]
  have hcut : cut b (a : Int) (b.length : Int) = b.drop a := by
    rw [cut_part b a (b.length - a) _ _ rfl (by omega)]
    unfold partB
    rw [List.take_of_length_le (by rw [List.length_drop]; exact Nat.le_refl _)]
  rw [hcut]
  have hx : Bytes (b.drop a) := fun y hy => hb y (List.mem_of_mem_drop hy)
  have hxl : (b.drop a).length ≤ 65536 := by rw [List.length_drop]; omega
  generalize b.drop a = x at *
  unfold itemX
  have g2 : getI (0 : Int) x 2 = x.getD 2 0 := getI_nat 0 x 2
  have g1 : getI (0 : Int) x 1 = x.getD 1 0 := getI_nat 0 x 1
  have g0 : getI (0 : Int) x 0 = x.getD 0 0 := getI_nat 0 x 0
  simp only [g0, g1, g2]
  by_cases h3 : x.length < 3
  · have e : (if decide (((x.length : Nat) : Int) < 3) = true then some true else gate (inR 2 (x.length : Int)) (some (decide (IntKind.wrap .i64 ((x.length : Int) - 11) < IntKind.wrap .i64 (x.getD 2 0)))) none : Option Bool) = some true := by
      rw [if_pos (by simp; omega)]
    rw [bindO_of e, if_pos rfl, if_pos (Or.inl h3)]
  have hn := hx _ (getD_mem_b (show 2 < x.length by omega))
  have h1b := hx _ (getD_mem_b (show 1 < x.length by omega))
  have h0b := hx _ (getD_mem_b (show 0 < x.length by omega))
  obtain ⟨n, hnn⟩ := Int.eq_ofNat_of_zero_le hn.1
  have hn256 : n < 256 := by omega
  rw [hnn] at *
  have wn : IntKind.wrap .i64 (n : Int) = (n : Int) := w64 (by omega) (by omega)
  have w11 : IntKind.wrap .i64 ((11 : Int) + (n : Int)) = ((11 + n : Nat) : Int) := by rw [w64 (by omega) (by omega)]; omega
  have w3 : IntKind.wrap .i64 ((3 : Int) + (n : Int)) = ((3 + n : Nat) : Int) := by rw [w64 (by omega) (by omega)]; omega
  have w5 : IntKind.wrap .i64 ((5 : Int) + (n : Int)) = ((5 + n : Nat) : Int) := by rw [w64 (by omega) (by omega)]; omega
  have w7 : IntKind.wrap .i64 ((7 : Int) + (n : Int)) = ((7 + n : Nat) : Int) := by rw [w64 (by omega) (by omega)]; omega
  have wl : IntKind.wrap .i64 ((x.length : Int) - 11) = (x.length : Int) - 11 := w64 (by omega) (by omega)
  have e : (if decide (((x.length : Nat) : Int) < 3) = true then some true else gate (inR 2 (x.length : Int)) (some (decide (IntKind.wrap .i64 ((x.length : Int) - 11) < IntKind.wrap .i64 (n : Int)))) none : Option Bool) = some (decide ((x.length : Int) < 11 + (n : Int))) := by
    rw [if_neg (by simp; omega), gate_pos (inR_of (by omega) (by omega)), wn, wl]
    congr 1
    rw [decide_eq_decide]
    omega
  rw [bindO_of e]
  by_cases h11 : (x.length : Int) < 11 + (n : Int)
  · rw [if_pos (by simpa using h11), if_pos (Or.inr h11)]
  rw [if_neg (by simpa using h11), if_neg (by rintro (h | h); exact h3 h; exact h11 h)]
  simp only [wn, w11, w3, w5, w7, wl, Int.toNat_natCast]
  have p1 : cut x (3 : Int) ((3 + n : Nat) : Int) = partB x 3 n := cut_part x 3 n _ _ rfl (by omega)
  have p2 : cut x ((3 + n : Nat) : Int) ((5 + n : Nat) : Int) = partB x (3 + n) 2 := cut_part x (3 + n) 2 _ _ rfl (by omega)
  have p3 : cut x ((5 + n : Nat) : Int) ((7 + n : Nat) : Int) = partB x (5 + n) 2 := cut_part x (5 + n) 2 _ _ rfl (by omega)
  have p4 : cut x ((7 + n : Nat) : Int) ((11 + n : Nat) : Int) = partB x (7 + n) 4 := cut_part x (7 + n) 4 _ _ rfl (by omega)
  have q2 := le_eq N _ (part_bytes hx (3 + n) 2) (Nat.le_trans (partB_len _ _ _) (by decide)) hN
  have q3 := le_eq N _ (part_bytes hx (5 + n) 2) (Nat.le_trans (partB_len _ _ _) (by decide)) hN
  have q4 := le_eq N _ (part_bytes hx (7 + n) 4) (Nat.le_trans (partB_len _ _ _) (by decide)) hN
  have hs2 := num2_lt hx (3 + n)
  have hs3 := num2_lt hx (5 + n)
  have hpl : (partB x 3 n).length ≤ 1048576 := Nat.le_trans (partB_len _ _ _) (by omega)
  rw [gate_pos (inR_of (by omega) (by omega)), gate_pos (bounds_of (by omega) (by omega) (by omega)), p1, gate_pos (bounds_of (by omega) (by omega) (by omega)), p2, bindO_of q2, gate_pos (bounds_of (by omega) (by omega) (by omega)), p3, bindO_of q3]
  have hb7 : bounds (x.length : Int) ((7 + n : Nat) : Int) ((11 + n : Nat) : Int) = true := bounds_of (by omega) (by omega) (by omega)
  simp only [gate_pos hb7, p4, q4]
  generalize hsz : numB (partB x (3 + n) 2) = size at *
  generalize hst : numB (partB x (5 + n) 2) = st at *
  generalize numB (partB x (7 + n) 4) = crc
  have hin0 : inR (0 : Int) (x.length : Int) = true := inR_of (by omega) (by omega)
  have hin1 : inR (1 : Int) (x.length : Int) = true := inR_of (by omega) (by omega)
  have ec : (gate (inR (0 : Int) (x.length : Int)) (if (!decide (x.getD 0 0 = 105)) = true then some true else gate (inR (1 : Int) (x.length : Int)) (if decide (x.getD 1 0 > 1) = true then some true else
      bindO (wrackref2_Way N (partB x 3 n)) (fun r => if (!r) = true then some true else if decide ((size : Int) > 2048) = true then some true else gate (inR (1 : Int) (x.length : Int)) (if decide (x.getD 1 0 = 0) = true then some (!decide ((st : Int) = (size : Int))) else some false) none) none) none) none : Option Bool) =
      some (decide (x.getD 0 0 ≠ 105 ∨ x.getD 1 0 > 1 ∨ pathB (partB x 3 n) = false ∨ size > 2048 ∨ (x.getD 1 0 = 0 ∧ size ≠ st))) := by
    rw [gate_pos hin0, gate_pos hin1, bindO_of (way_eq N _ hpl hN), gate_pos hin1]
    exact bad_ref _ _ _ _ _
  rw [bindO_of ec]
  by_cases hbad : x.getD 0 0 ≠ 105 ∨ x.getD 1 0 > 1 ∨ pathB (partB x 3 n) = false ∨ size > 2048 ∨ (x.getD 1 0 = 0 ∧ size ≠ st)
  · rw [if_pos (decide_eq_true hbad), if_pos hbad]
  rw [if_neg (by rw [decide_eq_false hbad]; decide), if_neg hbad]
  have wl2 : IntKind.wrap .i64 ((x.length : Int) - 11 - (n : Int)) = (x.length : Int) - 11 - (n : Int) := w64 (by omega) (by omega)
  have w8 : IntKind.wrap .i64 (((11 + n : Nat) : Int) + (st : Int)) = ((11 + n + st : Nat) : Int) := by rw [w64 (by omega) (by omega)]; omega
  rw [wl2, w8]
  by_cases hsh : x.length < 11 + n + st
  · rw [if_pos (by simp; omega), if_pos hsh]
  rw [if_neg (by simp; omega), if_neg hsh, gate_pos (bounds_of (by omega) (by omega) (by omega))]
  have p5 : cut x ((11 + n : Nat) : Int) ((11 + n + st : Nat) : Int) = partB x (11 + n) st := cut_part x (11 + n) st _ _ rfl (by omega)
  have hraw := part_bytes hx (11 + n) st
  have hrl : (partB x (11 + n) st).length ≤ 65536 := Nat.le_trans (partB_len _ _ _) (by omega)
  rw [p5, bindO_of (clone_eq' N _ (by omega)), gate_pos hin1]
  generalize hrw : partB x (11 + n) st = raw at *
  have wa : IntKind.wrap .i64 (IntKind.wrap .i64 (IntKind.wrap .i64 ((a : Int) + 11) + (n : Int)) + (st : Int)) = ((a + 11 + n + st : Nat) : Int) := by
    rw [w64 (x := (a : Int) + 11) (by omega) (by omega), w64 (x := (a : Int) + 11 + (n : Int)) (by omega) (by omega), w64 (by omega) (by omega)]
    omega
  rw [wa]
  by_cases hw : x.getD 1 0 = 1
  · rw [if_pos (by simpa using hw), if_pos hw, bindO_of (unran_eq N raw (size : Int) (by omega) (by omega) hraw)]
    have hul : (if raw.length % 2 = 1 then (([], 3) : List Int × Int) else unrun (size : Int) raw []).1.length ≤ 255 * 65536 := by
      split
      · simp
      · have := unrun_len (size : Int) raw.length raw [] (Nat.le_refl _) hraw
        simp only [List.length_nil, Nat.zero_add] at this
        exact Nat.le_trans this (Nat.mul_le_mul_left _ hrl)
    generalize (if raw.length % 2 = 1 then (([], 3) : List Int × Int) else unrun (size : Int) raw []) = u at *
    have eu : (if (!decide (u.2 = 0)) = true then some true else some (!decide ((u.1.length : Int) = (size : Int))) : Option Bool) = some (decide (u.2 ≠ 0 ∨ u.1.length ≠ size)) := bad_u _ _ _
    rw [bindO_of eu]
    by_cases hu : u.2 ≠ 0 ∨ u.1.length ≠ size
    · rw [if_pos (decide_eq_true hu), if_pos hu]
    rw [if_neg (by rw [decide_eq_false hu]; decide), if_neg hu]
    have hlen : u.1.length = size := by
      by_cases c : u.1.length = size
      · exact c
      · exact absurd (Or.inr c) hu
    have hs48 : size ≤ 2048 := by
      by_cases c : size ≤ 2048
      · exact c
      · exact absurd (Or.inr (Or.inr (Or.inr (Or.inl (by omega))))) hbad
    rw [bindO_of (refCrc_eq N u.1 (by omega) (by omega) (by omega))]
    simp only [bindO]
    by_cases hcr : crcOf u.1 = (crc : Int)
    · rw [if_neg (by simpa using hcr), if_neg (by simpa using hcr)]
    · rw [if_pos (by simpa using hcr), if_pos hcr]
  · rw [if_neg (by simpa using hw), if_neg hw, bindO_of (refCrc_eq N raw (by omega) (by omega) (by omega))]
    simp only [bindO]
    by_cases hcr : crcOf raw = (crc : Int)
    · rw [if_neg (by simpa using hcr), if_neg (by simpa using hcr)]
    · rw [if_pos (by simpa using hcr), if_pos hcr]

theorem mapGet_put {v : Ty} (z : List Int) : ∀ (m : List (List Int × v.den)) (x : List Int) (y : v.den), mapGet (k := .str) (v := v) (mapPut (k := .str) (v := v) m x y) z = if z = x then some y else mapGet (k := .str) (v := v) m z := by
  intro m x y
  induction m with
  | nil =>
    simp only [mapPut, mapGet, keyEq, decide_eq_true_eq]
  | cons e r ih =>
    simp only [mapPut, keyEq, decide_eq_true_eq]
    by_cases h : x = e.1
    · rw [if_pos h]
      simp only [mapGet, keyEq, decide_eq_true_eq]
      by_cases h2 : z = x
      · rw [if_pos h2, if_pos h2]
      · rw [if_neg h2, if_neg h2, if_neg (by rw [← h]; exact h2)]
    · rw [if_neg h]
      simp only [mapGet, keyEq, decide_eq_true_eq]
      by_cases h2 : z = e.1
      · rw [if_pos h2, if_pos h2, if_neg (fun e2 => h (by rw [← e2, h2]))]
      · rw [if_neg h2, if_neg h2, ih]

abbrev Itm := List Int × List Int

theorem itm_mem {l : List Itm} {i : Nat} (h : i < l.length) : l.getD i ([], []) ∈ l := by
  rw [List.getD_eq_getElem?_getD, List.getElem?_eq_getElem h]
  exact List.getElem_mem h

/-- is the path of the i-th there before it -/
def seenB (l : List Itm) (i : Nat) (p : List Int) : Bool := (l.take i).any fun x => decide (x.1 = p)

def itmAt (l : List Itm) (i : Nat) : Int :=
  if pathB (l.getD i ([], [])).1 = true then (if 2048 < (l.getD i ([], [])).2.length then 2 else if seenB l i (l.getD i ([], [])).1 = true then 7 else 0) else 6

def ResI (l : List Itm) (r : Int) : Prop :=
  (30 < l.length ∧ r = 9) ∨ (l.length ≤ 30 ∧ ((∃ i, i < l.length ∧ (∀ j, j < i → itmAt l j = 0) ∧ itmAt l i ≠ 0 ∧ r = itmAt l i) ∨ ((∀ j, j < l.length → itmAt l j = 0) ∧ r = 0)))

theorem resI_unique {l : List Itm} {r q : Int} (h1 : ResI l r) (h2 : ResI l q) : r = q := by
  rcases h1 with ⟨a1, a2⟩ | ⟨a1, a2⟩
  · rcases h2 with ⟨b1, b2⟩ | ⟨b1, b2⟩
    · rw [a2, b2]
    · omega
  · rcases h2 with ⟨b1, b2⟩ | ⟨b1, b2⟩
    · omega
    · rcases a2 with ⟨i, i1, i2, i3, i4⟩ | ⟨i1, i2⟩
      · rcases b2 with ⟨k, k1, k2, k3, k4⟩ | ⟨k1, k2⟩
        · have : i = k := by
            rcases Nat.lt_trichotomy i k with h | h | h
            · exact absurd (k2 i h) i3
            · exact h
            · exact absurd (i2 k h) k3
          subst this
          rw [i4, k4]
        · exact absurd (k1 i i1) i3
      · rcases b2 with ⟨k, k1, k2, k3, k4⟩ | ⟨k1, k2⟩
        · exact absurd (i1 k k1) k3
        · rw [i2, k2]

theorem twiceLoop {R : Type} (N : Nat) (s : R) (k0 : (List Int × List Int × Unit) → R) (kr : (List Int × List Int × Int × Unit) → R) (l : List Itm) (p q : List Int) (hl : l.length ≤ 1048576) (Q : R → Prop)
    (h0 : (l.any fun x => decide (x.1 = p)) = false → Q (k0 (p, q, ()))) (h1 : ∀ i : Nat, (l.any fun x => decide (x.1 = p)) = true → Q (kr (p, q, (i : Int), ()))) (n : Nat) (hn : l.length < n) :
    Q (iter (arch_Check_i0_slices_ContainsFunc_i0_slices_IndexFunc.s0 N s k0 kr (l, (l.length : Int), ())) s n (p, q, (0 : Int), ())) := by
  refine iter_rule (fun v => ∃ i : Nat, v = (p, q, (i : Int), ()) ∧ i ≤ l.length ∧ ∀ j, j < i → (l.getD j ([], [])).1 ≠ p) (fun v => l.length - v.2.2.1.toNat) Q ?_ n _ ⟨0, rfl, Nat.zero_le _, fun j hj => absurd hj (Nat.not_lt_zero _)⟩ (by simp only; omega)
  rintro v again ⟨i, rfl, hi, hall⟩ hag
  unfold arch_Check_i0_slices_ContainsFunc_i0_slices_IndexFunc.s0
  simp only [decide_eq_true_eq]
  by_cases hlt : i < l.length
  · rw [if_pos (by omega), gate_pos (inR_of (by omega) (by omega)), getI_nat]
    by_cases h : (l.getD i ([], [])).1 = p
    · rw [if_pos h]
      refine h1 i ?_
      rw [List.any_eq_true]
      exact ⟨_, itm_mem hlt, by simpa using h⟩
    · rw [if_neg h, w64 (by omega) (by omega)]
      refine hag _ ⟨i + 1, by simp, by omega, fun j hj => ?_⟩ (by simp only; omega)
      rcases Nat.lt_or_eq_of_le (Nat.le_of_lt_succ hj) with h2 | h2
      · exact hall j h2
      · subst h2; exact h
  · rw [if_neg (by omega)]
    refine h0 ?_
    rw [List.any_eq_false]
    intro e he
    obtain ⟨j, hj, rfl⟩ := List.getElem_of_mem he
    have := hall j (by omega)
    rw [List.getD_eq_getElem?_getD, List.getElem?_eq_getElem hj] at this
    simpa using this

theorem icut_take (l : List Itm) (i : Nat) : cut l (0 : Int) (i : Int) = l.take i := by
  have := cut_nat l 0 i (Nat.zero_le _)
  simpa using this

theorem icheck_res (N : Nat) (l : List Itm) (hp : ∀ e ∈ l, e.1.length ≤ 1048576) (hN : 1048577 < N) : ∃ r, arch_Check N l = some r ∧ ResI l r := by
  unfold arch_Check
  simp only [decide_eq_true_eq]
  by_cases h30 : 30 < l.length
  · rw [if_pos (by omega)]
    exact ⟨9, rfl, Or.inl ⟨h30, rfl⟩⟩
  · rw [if_neg (by omega)]
    refine iter_rule (fun v => ∃ i : Nat, v = ((i : Int), ()) ∧ i ≤ l.length ∧ ∀ j, j < i → itmAt l j = 0) (fun v => l.length - v.1.toNat)
      (fun o => ∃ r, o = some r ∧ ResI l r) ?_ N _ ⟨0, rfl, Nat.zero_le _, fun j hj => absurd hj (Nat.not_lt_zero _)⟩ (by simp only; omega)
    rintro v again ⟨i, rfl, hi, hall⟩ hag
    unfold arch_Check.s0
    simp only [decide_eq_true_eq]
    by_cases hlt : i < l.length
    · have stop : ∀ r : Int, itmAt l i = r → r ≠ 0 → ∃ q, (some r : Option Int) = some q ∧ ResI l q := fun r h1 h2 => ⟨r, rfl, Or.inr ⟨by omega, Or.inl ⟨i, hlt, hall, by rw [h1]; exact h2, h1.symm⟩⟩⟩
      have go : itmAt l i = 0 → ∃ q, again ((i : Int) + 1, ()) = some q ∧ ResI l q := fun h => hag _ ⟨i + 1, by simp, by omega, fun j hj => by
        rcases Nat.lt_or_eq_of_le (Nat.le_of_lt_succ hj) with h2 | h2
        · exact hall j h2
        · subst h2; exact h⟩ (by simp only; omega)
      rw [if_pos (by omega), gate_pos (inR_of (by omega) (by omega)), getI_nat, bindO_of (path_eq N _ (hp _ (itm_mem hlt)) hN)]
      by_cases hpb : pathB (l.getD i ([], [])).1 = true
      · rw [if_pos hpb, if_neg (by decide)]
        by_cases hb : 2048 < (l.getD i ([], [])).2.length
        · rw [if_pos (by omega)]
          exact stop 2 (by unfold itmAt; rw [if_pos hpb, if_pos hb]) (by decide)
        · rw [if_neg (by omega), gate_pos (bounds_of (by omega) (by omega) (by omega)), icut_take]
          refine twiceLoop N none _ _ (l.take i) _ _ (by rw [List.length_take]; omega) (fun o => ∃ q, o = some q ∧ ResI l q) (fun hno => ?_) (fun k hyes => ?_) N (by rw [List.length_take]; omega)
          · rw [if_neg (by decide), w64 (by omega) (by omega)]
            exact go (by unfold itmAt; rw [if_pos hpb, if_neg hb, if_neg (by unfold seenB; rw [hno]; decide)])
          · simp only
            rw [if_pos (by omega)]
            have hyes : seenB l i (l.getD i ([], [])).1 = true := hyes
            exact stop 7 (by unfold itmAt; rw [if_pos hpb, if_neg hb, if_pos hyes]) (by decide)
      · rw [if_neg hpb, if_pos (by decide)]
        exact stop 6 (by unfold itmAt; rw [if_neg hpb]) (by decide)
    · rw [if_neg (by omega)]
      exact ⟨0, rfl, Or.inr ⟨by omega, Or.inr ⟨fun j hj => hall j (by omega), rfl⟩⟩⟩

theorem ierr_res (N : Nat) (l : List Itm) (hp : ∀ e ∈ l, e.1.length ≤ 1048576) (hN : 1048577 < N) : ∃ r, wrackref2_ItemsErr N l = some r ∧ ResI l r := by
  unfold wrackref2_ItemsErr
  simp only [decide_eq_true_eq]
  by_cases h30 : 30 < l.length
  · rw [if_pos (by omega)]
    exact ⟨9, rfl, Or.inl ⟨h30, rfl⟩⟩
  · rw [if_neg (by omega)]
    refine iter_rule (fun v => ∃ (seen : List (List Int × Bool)) (i : Nat), v = (seen, (i : Int), ()) ∧ i ≤ l.length ∧ (∀ j, j < i → itmAt l j = 0) ∧ ∀ d, (mapGet (k := .str) (v := .bool) seen d).getD false = seenB l i d) (fun v => l.length - v.2.1.toNat)
      (fun o => ∃ r, o = some r ∧ ResI l r) ?_ N _ ⟨[], 0, rfl, Nat.zero_le _, fun j hj => absurd hj (Nat.not_lt_zero _), fun d => rfl⟩ (by simp only; omega)
    rintro v again ⟨seen, i, rfl, hi, hall, hmap⟩ hag
    unfold wrackref2_ItemsErr.s0
    simp only [decide_eq_true_eq]
    by_cases hlt : i < l.length
    · have stop : ∀ r : Int, itmAt l i = r → r ≠ 0 → ∃ q, (some r : Option Int) = some q ∧ ResI l q := fun r h1 h2 => ⟨r, rfl, Or.inr ⟨by omega, Or.inl ⟨i, hlt, hall, by rw [h1]; exact h2, h1.symm⟩⟩⟩
      have go : itmAt l i = 0 → ∃ q, again (mapPut (k := .str) (v := .bool) seen (l.getD i ([], [])).1 true, (i : Int) + 1, ()) = some q ∧ ResI l q := fun h => hag _ ⟨_, i + 1, rfl, by omega, fun j hj => by
          rcases Nat.lt_or_eq_of_le (Nat.le_of_lt_succ hj) with h2 | h2
          · exact hall j h2
          · subst h2; exact h, fun d => by
          rw [mapGet_put]
          have hs : seenB l (i + 1) d = (seenB l i d || decide ((l.getD i ([], [])).1 = d)) := by
            unfold seenB
            rw [List.take_add_one, List.any_append, List.getElem?_eq_getElem hlt, List.getD_eq_getElem?_getD, List.getElem?_eq_getElem hlt]
            simp
          rw [hs, ← hmap d]
          by_cases hd : d = (l.getD i ([], [])).1
          · rw [if_pos hd, decide_eq_true hd.symm]; simp
          · rw [if_neg hd, decide_eq_false (fun e => hd e.symm)]; simp⟩ (by simp only; omega)
      rw [if_pos (by omega), gate_pos (inR_of (by omega) (by omega)), getI_nat, bindO_of (way_eq N _ (hp _ (itm_mem hlt)) hN)]
      by_cases hpb : pathB (l.getD i ([], [])).1 = true
      · rw [if_neg (by rw [hpb]; decide)]
        by_cases hb : 2048 < (l.getD i ([], [])).2.length
        · rw [if_pos (by omega)]
          exact stop 2 (by unfold itmAt; rw [if_pos hpb, if_pos hb]) (by decide)
        · rw [if_neg (by omega)]
          have hm := hmap (l.getD i ([], [])).1
          cases hs : seenB l i (l.getD i ([], [])).1 with
          | true =>
            rw [hs] at hm
            rw [if_pos hm]
            exact stop 7 (by unfold itmAt; rw [if_pos hpb, if_neg hb, if_pos hs]) (by decide)
          | false =>
            rw [hs] at hm
            rw [if_neg (by intro e; rw [hm] at e; cases e), w64 (by omega) (by omega)]
            exact go (by unfold itmAt; rw [if_pos hpb, if_neg hb, if_neg (by rw [hs]; decide)])
      · rw [if_pos (by simpa using hpb)]
        exact stop 6 (by unfold itmAt; rw [if_neg hpb]) (by decide)
    · rw [if_neg (by omega)]
      exact ⟨0, rfl, Or.inr ⟨by omega, Or.inr ⟨fun j hj => hall j (by omega), rfl⟩⟩⟩

/-- both report the same; where nothing is reported there are at most 30, of at most 2048 bytes -/
theorem icheck_same (N : Nat) (l : List Itm) (hp : ∀ e ∈ l, e.1.length ≤ 1048576) (hN : 1048577 < N) : ∃ r, arch_Check N l = some r ∧ wrackref2_ItemsErr N l = some r ∧ (r = 0 → l.length ≤ 30 ∧ ∀ e ∈ l, e.2.length ≤ 2048) := by
  obtain ⟨r, h1, h2⟩ := icheck_res N l hp hN
  obtain ⟨q, h3, h4⟩ := ierr_res N l hp hN
  have := resI_unique h2 h4
  subst this
  refine ⟨r, h1, h3, fun hr => ?_⟩
  subst hr
  rcases h2 with ⟨_, h⟩ | ⟨h5, h⟩
  · exact absurd h (by decide)
  · rcases h with ⟨i, _, _, h6, h7⟩ | ⟨h6, _⟩
    · exact absurd h7.symm h6
    · refine ⟨h5, fun e he => ?_⟩
      obtain ⟨j, hj, rfl⟩ := List.getElem_of_mem he
      have := h6 j hj
      unfold itmAt at this
      rw [List.getD_eq_getElem?_getD, List.getElem?_eq_getElem hj] at this
      simp only [Option.getD_some] at this
      split at this
      · split at this
        · cases this
        · omega
      · cases this

theorem sameOne_eq (N : Nat) (a b : Itm) : wrackref2_SameItems_1 N a b = some (decide (a = b)) := by
  obtain ⟨a1, a2⟩ := a
  obtain ⟨b1, b2⟩ := b
  unfold wrackref2_SameItems_1
  by_cases h1 : a1 = b1
  · simp [bindO, h1]
  · simp [bindO, h1]

theorem sameItems_eq (N : Nat) (a b : List Itm) (ha : a.length ≤ 1048576) (hN : 1048577 < N) : wrackref2_SameItems N a b = some (decide (a = b)) := by
  unfold wrackref2_SameItems
  simp only [Bool.not_eq_true', decide_eq_false_iff_not]
  by_cases hl : a.length = b.length
  · rw [if_neg (by omega)]
    refine iter_rule (fun v => ∃ i : Nat, v = ((i : Int), ()) ∧ i ≤ a.length ∧ ∀ j, j < i → a.getD j ([], []) = b.getD j ([], [])) (fun v => a.length - v.1.toNat)
      (fun o => o = some (decide (a = b))) ?_ N _ ⟨0, rfl, Nat.zero_le _, fun j hj => absurd hj (Nat.not_lt_zero _)⟩ (by simp only; omega)
    rintro v again ⟨i, rfl, hi, hall⟩ hag
    unfold wrackref2_SameItems_i0_slices_EqualFunc.s0
    simp only [decide_eq_true_eq]
    by_cases hlt : i < a.length
    · rw [if_pos (by omega), gate_pos (inR_of (by omega) (by omega)), gate_pos (inR_of (by omega) (by omega)), getI_nat, getI_nat, bindO_of (sameOne_eq N _ _)]
      by_cases h : a.getD i ([], []) = b.getD i ([], [])
      · rw [decide_eq_true h, if_neg (by decide), w64 (by omega) (by omega)]
        refine hag _ ⟨i + 1, by simp, by omega, fun j hj => ?_⟩ (by simp only; omega)
        rcases Nat.lt_or_eq_of_le (Nat.le_of_lt_succ hj) with h1 | h1
        · exact hall j h1
        · subst h1; exact h
      · rw [decide_eq_false h, if_pos (by rfl)]
        simp only [Option.some.injEq, Bool.false_eq, decide_eq_false_iff_not]
        exact fun e => h (by rw [e])
    · rw [if_neg (by omega)]
      have : a = b := List.ext_getElem hl fun j h1 h2 => by
        have := hall j (by omega)
        rw [List.getD_eq_getElem?_getD, List.getElem?_eq_getElem h1, List.getD_eq_getElem?_getD, List.getElem?_eq_getElem h2] at this
        exact this
      simp [this]
  · rw [if_pos (by omega)]
    simp only [Option.some.injEq, Bool.false_eq, decide_eq_false_iff_not]
    exact fun e => hl (by rw [e])

theorem item_path (c : List Int) (a : Nat) : (itemI c a).1.1.length ≤ c.length := by
  unfold itemI itemX partB
  simp only
  repeat' split
  all_goals simp
  all_goals omega

def chkN (N : Nat) (l : List Itm) : Int := (arch_Check N l).getD 0

theorem chkN_eq (N : Nat) (l : List Itm) (hp : ∀ e ∈ l, e.1.length ≤ 1048576) (hN : 1048577 < N) : arch_Check N l = some (chkN N l) ∧ wrackref2_ItemsErr N l = some (chkN N l) := by
  obtain ⟨r, h1, h2, _⟩ := icheck_same N l hp hN
  have : chkN N l = r := by unfold chkN; rw [h1]; rfl
  rw [this]
  exact ⟨h1, h2⟩

theorem chkP_eq (N : Nat) (l : List Itm) (hp : ∀ e ∈ l, e.1.length ≤ 1048576) (hN : 1048577 < N) : arch_Check N l = some (chkN N l) := by
  obtain ⟨r, h1, _⟩ := icheck_res N l hp hN
  have : chkN N l = r := by unfold chkN; rw [h1]; rfl
  rw [this]
  exact h1

theorem b_some {α R : Type} {a : α} {k : α → R} {s : R} : bindO (some a) k s = k a := rfl

theorem item_to (b : List Int) (a : Nat) (h : (itemI b a).2.2 = 0) : ∃ t : Nat, (itemI b a).2.1 = (t : Int) ∧ a < t ∧ t ≤ b.length := by
  unfold itemI at h ⊢
  split at h
  · simp at h
  rename_i hlt
  rw [if_neg hlt]
  have hdl : (b.drop a).length = b.length - a := List.length_drop
  unfold itemX at h ⊢
  simp only at h ⊢
  split at h
  · simp at h
  rename_i h1
  rw [if_neg h1]
  split at h
  · simp at h
  rename_i h2
  rw [if_neg h2]
  split at h
  · simp at h
  rename_i h3
  rw [if_neg h3]
  split at h
  · rename_i h4
    rw [if_pos h4]
    generalize (if (partB (b.drop a) (11 + ((b.drop a).getD 2 0).toNat) (numB (partB (b.drop a) (5 + ((b.drop a).getD 2 0).toNat) 2))).length % 2 = 1 then (([], 3) : List Int × Int) else _) = u at h ⊢
    split at h
    · simp at h
    rename_i h5
    rw [if_neg h5]
    split at h
    · simp at h
    rename_i h6
    rw [if_neg h6]
    refine ⟨_, rfl, ?_, ?_⟩ <;> omega
  · rename_i h4
    rw [if_neg h4]
    split at h
    · simp at h
    rename_i h6
    rw [if_neg h6]
    refine ⟨_, rfl, ?_, ?_⟩ <;> omega

/-- entries from a place on, as far as they can be read -/
def scanR (N : Nat) (b : List Int) : Nat → List Itm → Nat → List Itm × Int × Int
  | 0, out, a => (out, (a : Int), 0)
  | n + 1, out, a => if (itemI b a).2.2 ≠ 0 then (out, (a : Int), (itemI b a).2.2) else if chkN N (out ++ [(itemI b a).1]) ≠ 0 then (out, (a : Int), 7) else scanR N b n (out ++ [(itemI b a).1]) (itemI b a).2.1.toNat

theorem scan_eq (N : Nat) (b : List Int) (hb : Bytes b) (hl : b.length ≤ 65536) (hN : 1048577 < N) : arch_Scan N b = some (scanR N b (b.length + 1) [] 0) := by
  unfold arch_Scan
  simp only [decide_eq_true_eq]
  rw [if_neg (by omega)]
  generalize hRe : scanR N b (b.length + 1) [] 0 = R
  refine iter_rule (fun v => ∃ (out : List Itm) (a f : Nat), v = (out, (a : Int), ()) ∧ a ≤ b.length ∧ out.length ≤ a ∧ (∀ e ∈ out, e.1.length ≤ 1048576) ∧ b.length - a < f ∧ scanR N b f out a = R) (fun v => b.length - v.2.1.toNat)
    (fun r => r = some R) ?_ N _ ⟨[], 0, b.length + 1, rfl, Nat.zero_le _, Nat.le_refl _, (fun e he => absurd he List.not_mem_nil), by omega, hRe⟩ (by simp only; omega)
  rintro v again ⟨out, a, f, rfl, ha, ho, hp, hf, hR⟩ hag
  unfold arch_Scan.s0
  simp only
  rw [bindO_of (one_eq N b a hb hl (by omega) hN)]
  obtain ⟨f, rfl⟩ : ∃ g, f = g + 1 := ⟨f - 1, by omega⟩
  simp only [scanR] at hR
  have hpath := item_path b a
  by_cases h : (itemI b a).2.2 = 0
  · obtain ⟨t, ht1, ht2, ht3⟩ := item_to b a h
    rw [if_neg (by simp [h])] at hR
    have hcut : cut out (0 : Int) (out.length : Int) = out := cut_all _
    have hp' : ∀ e ∈ out ++ [(itemI b a).1], e.1.length ≤ 1048576 := fun e he => by
      rcases List.mem_append.1 he with he | he
      · exact hp e he
      · simp only [List.mem_cons, List.not_mem_nil, or_false] at he
        subst he
        omega
    rw [if_neg (by simp [h])]
    simp only [hcut]
    rw [gate_pos (by rw [bounds_of (by omega) (by omega) (by omega)]; simp), gate_pos (by rw [room_of (by simp; omega) (by simp; omega)]; simp), bindO_of (chkP_eq N _ hp' hN)]
    by_cases hc : chkN N (out ++ [(itemI b a).1]) = 0
    · rw [if_neg (by simp [hc])] at hR
      rw [if_neg (by simp [hc]), gate_pos (room_of (by simp; omega) (by simp; omega)), ht1]
      rw [ht1, Int.toNat_natCast] at hR
      exact hag _ ⟨_, t, f, rfl, ht3, by simp; omega, hp', by omega, hR⟩ (by simp only; omega)
    · rw [if_pos (by simp [hc])] at hR
      rw [if_pos (by simp [hc]), ← hR]
  · rw [if_pos (by simp [h])] at hR
    rw [if_pos (by simp [h]), ← hR]

theorem archScans_true (N : Nat) (b : List Int) (hb : Bytes b) (hN : 1048577 < N) : wracklaw2_ArchScans N b = some true := by
  have harch := archives_eq N (by omega)
  unfold wracklaw2_ArchScans
  by_cases hl : b.length ≤ 65536
  · rw [bindO_of (scan_eq N b hb hl hN), if_neg (by simp; omega)]
    generalize hRe : scanR N b (b.length + 1) [] 0 = R
    obtain ⟨Rl, Ra, Re⟩ := R
    simp only
    refine iter_rule (fun v => ∃ (out : List Itm) (a f : Nat), v = (Rl, out, (a : Int), ()) ∧ a ≤ b.length ∧ out.length ≤ a ∧ (∀ e ∈ out, e.1.length ≤ 1048576) ∧ b.length - a < f ∧ scanR N b f out a = (Rl, Ra, Re)) (fun v => b.length - v.2.2.1.toNat)
      (fun r => r = some true) ?_ N _ ⟨[], 0, b.length + 1, rfl, Nat.zero_le _, Nat.le_refl _, (fun e he => absurd he List.not_mem_nil), by omega, hRe⟩ (by simp only; omega)
    rintro v again ⟨out, a, f, rfl, ha, ho, hp, hf, hR⟩ hag
    unfold wracklaw2_ArchScans.s0
    simp only
    rw [bindO_of (itemAt_eq N b a hb hl (by omega) hN)]
    obtain ⟨f, rfl⟩ : ∃ g, f = g + 1 := ⟨f - 1, by omega⟩
    simp only [scanR] at hR
    have hpath := item_path b a
    have hfin : ∀ e : Int, Rl = out → Ra = (a : Int) → Re = e → ∀ {X : Type} (K : Bool → X) (s : X), bindO (bindO (wracklaw2_archives N) (fun r54 => if r54 = true then (if (decide (Re = e)) = true then (if (decide (Ra = (a : Int))) = true then bindO (wrackref2_SameItems N Rl out) (fun r68 => some r68) none else some false) else some false) else some false) none : Option Bool) K s = K true := by
      intro e h1 h2 h3 X K s
      subst h1; subst h2; subst h3
      rw [bindO_of harch]
      simp only [decide_true, if_true]
      rw [bindO_of (sameItems_eq N Rl Rl (by omega) hN)]
      simp [bindO]
    by_cases h : (itemI b a).2.2 = 0
    · obtain ⟨t, ht1, ht2, ht3⟩ := item_to b a h
      rw [if_neg (by simp [h])] at hR
      have hp' : ∀ e ∈ out ++ [(itemI b a).1], e.1.length ≤ 1048576 := fun e he => by
        rcases List.mem_append.1 he with he | he
        · exact hp e he
        · simp only [List.mem_cons, List.not_mem_nil, or_false] at he
          subst he
          omega
      rw [if_pos (by simp [h]), bindO_of (show cloneF 40 out = some out from if_pos (room_of (by omega) (by omega))), gate_pos (room_of (by simp; omega) (by simp; omega)), bindO_of (chkN_eq N _ hp' hN).2]
      by_cases hc : chkN N (out ++ [(itemI b a).1]) = 0
      · rw [if_neg (by simp [hc])] at hR
        rw [if_neg (by simp [hc]), b_some]
        simp only
        have hx : ((itemI b a).1.1, (itemI b a).1.2) = (itemI b a).1 := rfl
        rw [hx, if_neg (by simp [h]), gate_pos (room_of (by simp; omega) (by simp; omega)), ht1]
        rw [ht1, Int.toNat_natCast] at hR
        exact hag _ ⟨_, t, f, rfl, ht3, by simp; omega, hp', by omega, hR⟩ (by simp only; omega)
      · rw [if_pos (by simp [hc])] at hR
        simp only [Prod.mk.injEq] at hR
        rw [if_pos (by simp [hc]), b_some]
        simp only
        rw [if_pos (show (!decide ((7 : Int) = 0)) = true by decide), hfin 7 hR.1.symm hR.2.1.symm hR.2.2.symm]
    · rw [if_pos (by simp [h])] at hR
      simp only [Prod.mk.injEq] at hR
      rw [if_neg (by simp [h]), if_pos (by simp [h]), hfin _ hR.1.symm hR.2.1.symm hR.2.2.symm]
  · have : arch_Scan N b = some ([], 0, 2) := by
      unfold arch_Scan
      rw [if_pos (by simp; omega)]
    rw [bindO_of this, if_pos (by simp; omega), bindO_of harch]
    simp [bindO]

end Go.Proofs.YteekijpcdcpjkaaDoor
