/-
  PLAIN: all plain texts that archEnds_true needs, in one.
-/
import Derived.Test.YteekijpcdcpjkaaDoorAbPlain
import Derived.Test.YteekijpcdcpjkaaDoorPu
set_option linter.unusedVariables false
set_option linter.unusedSimpArgs false
namespace Go.Proofs.YteekijpcdcpjkaaDoor
open Go Go.Ab

theorem below_eq (N : Nat) (x n : Int) (h1 : 1 ≤ n) (h2 : n ≤ 4294967296) : wrackmake_Below N x n = some (x % n) := by
  unfold wrackmake_Below
  rw [gate_pos (by simp; omega)]
  simp only [decide_eq_true_eq]
  have hb := Int.emod_nonneg x (show n ≠ 0 by omega)
  have hl := Int.emod_lt_of_pos x (show 0 < n by omega)
  have hm : Int.tmod x n = if 0 ≤ x ∨ n ∣ x then x % n else x % n - n := by
    rw [Int.tmod_eq_emod]
    by_cases hc : 0 ≤ x ∨ n ∣ x
    · rw [if_pos hc, if_pos hc]; omega
    · rw [if_neg hc, if_neg hc]; omega
  by_cases hc : 0 ≤ x ∨ n ∣ x
  · rw [if_pos hc] at hm
    rw [hm, if_neg (by omega)]
  · rw [if_neg hc] at hm
    rw [hm, if_pos (by omega), w64 (by omega) (by omega)]
    congr 1
    omega

theorem next_eq (N : Nat) (l : List Int) (n : Int) (h1 : 1 ≤ n) (h2 : n ≤ 4294967296) : ∃ r l', wrackmake_Stream_Next N (l, ()) n = some (r, (l', ())) ∧ 0 ≤ r ∧ r < n := by
  unfold wrackmake_Stream_Next
  simp only [decide_eq_true_eq]
  by_cases hl : l.length = 0
  · have hb : (if (l.length : Int) = 0 then some true else some (decide (n < 1))) = some true := by rw [if_pos (by omega)]
    rw [bindO_of hb, if_pos rfl]
    exact ⟨0, l, rfl, by omega, by omega⟩
  · have hb : (if (l.length : Int) = 0 then some true else some (decide (n < 1))) = some false := by
      rw [if_neg (by omega)]; simp; omega
    rw [bindO_of hb, if_neg (by simp), gate_pos (inR_of (by omega) (by omega)), gate_pos (bounds_of (by omega) (by omega) (by omega)), bindO_of (below_eq N _ n h1 h2)]
    exact ⟨_, _, rfl, Int.emod_nonneg _ (by omega), Int.emod_lt_of_pos _ (by omega)⟩

theorem g_dec {R : Type} {p : Prop} [Decidable p] {k s : R} (h : p) : gate (decide p) k s = k := gate_pos (decide_eq_true h)

theorem b_some {α R : Type} {a : α} {k : α → R} {s : R} : bindO (some a) k s = k a := rfl

theorem cut0 {α : Type} (xs : List α) (n : Nat) : cut xs 0 (n : Int) = xs.take n := by
  have := cut_nat xs 0 n (Nat.zero_le _)
  simpa using this

def numB (bs : List Int) : Nat := bs.foldr (fun c a => a * 256 + c.toNat) 0

theorem numB_lt : ∀ bs : List Int, (∀ x ∈ bs, 0 ≤ x ∧ x < 256) → numB bs < 256 ^ bs.length := by
  intro bs
  induction bs with
  | nil => intro _; decide
  | cons x r ih =>
    intro h
    have h1 := ih fun y hy => h y (by simp [hy])
    have h2 := h x (by simp)
    show numB r * 256 + x.toNat < 256 ^ (r.length + 1)
    rw [Nat.pow_succ]
    omega

theorem numB_snoc (c : Int) : ∀ a : List Int, numB (a ++ [c]) = numB a + c.toNat * 256 ^ a.length := by
  intro a
  induction a with
  | nil => simp [numB]
  | cons x r ih =>
    show numB (r ++ [c]) * 256 + x.toNat = numB r * 256 + x.toNat + c.toNat * 256 ^ (r.length + 1)
    rw [ih, Nat.pow_succ, Nat.add_mul, Nat.mul_assoc]
    omega

theorem or8 (n c : Nat) (hn : n < 281474976710656) (hc : c < 256) : bitOr .i64 (shlI .i64 (n : Int) 8) (c : Int) = ((n * 256 + c : Nat) : Int) := by
  have h1 : shlI .i64 (n : Int) 8 = ((n * 256 : Nat) : Int) := by
    unfold shlI
    have e : (2 : Int) ^ (min ((8 : Int)).toNat (IntKind.bits .i64)) = 256 := by decide
    rw [e, w64 (by omega) (by omega)]
    omega
  rw [h1]
  unfold bitOr
  have e : (BitVec.ofInt (IntKind.bits .i64) ((n * 256 : Nat) : Int) ||| BitVec.ofInt (IntKind.bits .i64) (c : Int)).toNat = n * 256 + c := by
    show (BitVec.ofInt 64 ((n * 256 : Nat) : Int) ||| BitVec.ofInt 64 (c : Int)).toNat = n * 256 + c
    rw [BitVec.toNat_or]
    have a : (BitVec.ofInt 64 ((n * 256 : Nat) : Int)).toNat = n * 256 := by
      rw [BitVec.toNat_ofInt]
      omega
    have b : (BitVec.ofInt 64 (c : Int)).toNat = c := by
      rw [BitVec.toNat_ofInt]
      omega
    rw [a, b]
    have := Nat.two_pow_add_eq_or_of_lt (i := 8) (a := n) (b := c) hc
    have e2 : 2 ^ 8 * n = n * 256 := by omega
    rw [e2] at this
    exact this.symm
  rw [e, w64 (by omega) (by omega)]

theorem r0_num {R : Type} (N : Nat) (s : R) (again : (Int × Unit) → R) (x : Int × Int) (acc c : Nat) (hc : x.2 = (c : Int)) (h : c < 256) (ha : acc < 281474976710656) :
    arch_number.r0 N s () x again ((acc : Int), ()) = again (((acc * 256 + c : Nat) : Int), ()) := by
  unfold arch_number.r0
  simp only
  rw [gate_pos (by decide), hc, w64 (by omega) (by omega), or8 acc c ha h]

theorem fold_num {R : Type} (N : Nat) (s : R) (done : (Int × Unit) → R) : ∀ (l : List (Int × Int)) (acc j : Nat), (∀ x ∈ l, 0 ≤ x.2 ∧ x.2 < 256) → acc < 256 ^ j → j + l.length ≤ 6 →
    foldR (arch_number.r0 N s ()) done l ((acc : Int), ()) = done (((l.foldl (fun a x => a * 256 + x.2.toNat) acc : Nat) : Int), ()) := by
  intro l
  induction l with
  | nil => intro acc j _ _ _; rfl
  | cons x r ih =>
    intro acc j hx ha hj
    obtain ⟨h1, h2⟩ := hx x (by simp)
    obtain ⟨c, hc⟩ := Int.eq_ofNat_of_zero_le h1
    have hp : 256 ^ j ≤ 256 ^ 5 := Nat.pow_le_pow_right (by decide) (by simp at hj; omega)
    have hp : 256 ^ j ≤ 1099511627776 := hp
    show arch_number.r0 N s () x (foldR (arch_number.r0 N s ()) done r) ((acc : Int), ()) = _
    rw [r0_num N s _ x acc c hc (by omega) (by omega), ih (acc * 256 + c) (j + 1) (fun y hy => hx y (by simp [hy])) (by rw [Nat.pow_succ]; omega) (by simp at hj; omega)]
    simp only [List.foldl_cons, hc, Int.toNat_natCast]

theorem backs_snd (bs : List Int) : (backs bs).map Prod.snd = bs.reverse := by
  unfold backs
  apply List.ext_getElem
  · simp
  · intro i h1 h2
    simp only [List.length_map, List.length_range] at h1
    simp only [List.getElem_map, List.getElem_range, List.getElem_reverse]
    rw [List.getD_eq_getElem?_getD, List.getElem?_eq_getElem (by omega)]
    rfl

theorem number_eq (N : Nat) (bs : List Int) (hb : ∀ x ∈ bs, 0 ≤ x ∧ x < 256) (hl : bs.length ≤ 6) : arch_number N bs = some ((numB bs : Nat) : Int) := by
  unfold arch_number
  have h1 : backGo bs = some (backs bs) := by unfold backGo; rw [if_pos (by omega)]
  rw [bindO_of h1]
  have h2 : ∀ x ∈ backs bs, 0 ≤ x.2 ∧ x.2 < 256 := by
    intro x hx
    have : x.2 ∈ (backs bs).map Prod.snd := List.mem_map.2 ⟨x, hx, rfl⟩
    rw [backs_snd] at this
    exact hb _ (by simpa using this)
  have := fold_num N (none : Option Int) (fun x => some x.1) (backs bs) 0 0 h2 (by decide) (by simp [backs]; exact hl)
  rw [show ((0 : Nat) : Int) = (0 : Int) from rfl] at this
  rw [this]
  congr 2
  have h3 : (backs bs).foldl (fun a x => a * 256 + x.2.toNat) 0 = ((backs bs).map Prod.snd).foldl (fun a c => a * 256 + c.toNat) 0 := by
    rw [List.foldl_map]
  rw [h3, backs_snd, List.foldl_reverse]
  rfl

theorem equal_loop {R : Type} (N : Nat) (s : R) (k0 : Unit → R) (kr : (Bool × Unit) → R) (xs ys : List Int) (hl : xs.length = ys.length) (hx : xs.length ≤ 140737488355328) (Q : R → Prop) (h0 : xs = ys → Q (k0 ())) (h1 : xs ≠ ys → Q (kr (false, ())))
    (n : Nat) (hn : xs.length < n) : Q (iter (slices_Equal_byte.s0 N s k0 kr (xs, ys, (xs.length : Int), ())) s n ((0 : Int), ())) := by
  refine iter_rule (fun v => ∃ i : Nat, v = ((i : Int), ()) ∧ i ≤ xs.length ∧ ∀ j, j < i → xs.getD j 0 = ys.getD j 0) (fun v => xs.length - v.1.toNat) Q ?_ n _ ⟨0, rfl, Nat.zero_le _, fun j hj => absurd hj (Nat.not_lt_zero _)⟩ (by simpa using hn)
  rintro v again ⟨i, rfl, hi, hall⟩ hag
  unfold slices_Equal_byte.s0
  simp only [decide_eq_true_eq]
  by_cases hlt : i < xs.length
  · rw [if_pos (by omega), gate_pos (inR_of (by omega) (by omega)), gate_pos (inR_of (by omega) (by omega))]
    rw [getI_nat, getI_nat]
    by_cases he : xs.getD i 0 = ys.getD i 0
    · rw [if_neg (by simpa using he), w64 (by omega) (by omega)]
      refine hag _ ⟨i + 1, by simp, by omega, fun j hj => ?_⟩ (by simp; omega)
      rcases Nat.lt_or_eq_of_le (Nat.le_of_lt_succ hj) with h | h
      · exact hall j h
      · subst h; exact he
    · rw [if_pos (by simpa using he)]
      exact h1 fun h => he (by rw [h])
  · rw [if_neg (by omega)]
    refine h0 (List.ext_getElem hl fun j h1 h2 => ?_)
    have := hall j (by omega)
    simpa [h1, h2] using this

theorem equal_eq (N : Nat) (xs ys : List Int) (hx : xs.length ≤ 140737488355328) (hN : xs.length < N) : slices_Equal_byte N xs ys = some (decide (xs = ys)) := by
  unfold slices_Equal_byte
  simp only [Bool.not_eq_true', decide_eq_false_iff_not]
  by_cases hl : xs.length = ys.length
  · rw [if_neg (by omega)]
    refine equal_loop N none _ _ xs ys hl hx (fun r => r = some (decide (xs = ys))) (fun h => by simp [h]) (fun h => by simp [h]) N hN
  · rw [if_pos (by omega)]
    simp only [Option.some.injEq, Bool.false_eq, decide_eq_false_iff_not]
    exact fun h => hl (by rw [h])

theorem mul64_small (N : Nat) (x y : Int) (hx : 0 ≤ x) (hx' : x < 4294967296) (hy : 0 ≤ y) (hy' : y < 2147483648) : bits_Mul N x y = some (0, x * y) := by
  have hxy : 0 ≤ x * y := Int.mul_nonneg hx hy
  have hxy' : x * y ≤ 4294967295 * 2147483647 := Int.mul_le_mul (by omega) (by omega) hy (by omega)
  unfold bits_Mul bits_Mul64
  simp only [gate_pos (show decide (0 ≤ (32 : Int)) = true from rfl)]
  have e1 : bitAnd .u64 x 4294967295 = x := by rw [bitAnd_mask32 hx (by omega)]; omega
  have e2 : bitAnd .u64 y 4294967295 = y := by rw [bitAnd_mask32 hy (by omega)]; omega
  have sh : ∀ z : Int, shrI .u64 z 32 = z / 4294967296 := fun z => by
    have := shrI_nat .u64 (x := z) 32 (by decide)
    simpa using this
  have e3 : x / 4294967296 = 0 := by omega
  have e4 : y / 4294967296 = 0 := by omega
  rw [e1, e2]
  simp only [sh, e3, e4, Int.zero_mul, Int.mul_zero, Int.zero_add, Int.add_zero]
  rw [wu64 hxy (by omega), wu64 (x := 0) (by omega) (by omega)]
  have d1 : 0 ≤ x * y / 4294967296 := Int.ediv_nonneg hxy (by omega)
  have d2 : x * y / 4294967296 < 2147483648 := by omega
  simp only [Int.zero_add]
  rw [wu64 d1 (by omega), bitAnd_mask32 d1 (by omega)]
  have d3 : x * y / 4294967296 % 4294967296 = x * y / 4294967296 := by omega
  have d4 : x * y / 4294967296 / 4294967296 = 0 := by omega
  have z : IntKind.wrap .u64 0 = 0 := wu64 (by omega) (by omega)
  simp only [d3, d4, z, Int.add_zero, Int.zero_add]
  rw [wu64 d1 (by omega), d4, z]
  rfl

/-- a list's head overwritten -/
theorem over_rep (n m L : Nat) (c d : Int) (hm : m ≤ n) (hL : n + m ≤ L) : over (List.replicate n c ++ List.replicate (L - n) d) (List.replicate n c) n m = List.replicate (n + m) c ++ List.replicate (L - (n + m)) d := by
  unfold over
  rw [List.take_left' (by simp), List.drop_append, List.take_replicate, Nat.min_eq_left hm]
  simp only [List.length_replicate, List.drop_replicate]
  rw [show n - (n + m) = 0 by omega, show n + m - n = m by omega, show L - n - m = L - (n + m) by omega, ← List.replicate_append_replicate]
  simp

theorem repeat_loop {R : Type} (N : Nat) (s : R) (k0 : (List Int × Unit) → R) (c : Int) (L : Nat) (hL : L ≤ 140737488355328) (Q : R → Prop) (h0 : Q (k0 (List.replicate L c, ())))
    (k n : Nat) (hk : 1 ≤ k ∨ L = 0) (hkL : k ≤ L) (hn : L < n) : Q (iter (slices_Repeat_byte.s0 N s k0 ()) s n (List.replicate k c ++ List.replicate (L - k) 0, (k : Int), ())) := by
  refine iter_rule (fun v => ∃ k : Nat, (1 ≤ k ∨ L = 0) ∧ k ≤ L ∧ v = (List.replicate k c ++ List.replicate (L - k) 0, (k : Int), ())) (fun v => L - v.2.1.toNat) Q ?_ n _ ⟨k, hk, hkL, rfl⟩ (by simp; omega)
  rintro v again ⟨k, hk, hkL, rfl⟩ hag
  unfold slices_Repeat_byte.s0
  simp only [decide_eq_true_eq, List.length_append, List.length_replicate]
  have e : k + (L - k) = L := by omega
  rw [e]
  by_cases hlt : k < L
  · rw [if_pos (by omega), gate_pos (bounds_of (by omega) (by omega) (by omega)), gate_pos (bounds_of (by omega) (by omega) (by omega))]
    have ec : cut (List.replicate k c ++ List.replicate (L - k) 0) 0 (k : Int) = List.replicate k c := by
      have := cut_nat (List.replicate k c ++ List.replicate (L - k) (0 : Int)) 0 k (Nat.zero_le _)
      simp only [Int.natCast_zero, List.drop_zero, Nat.sub_zero] at this
      rw [this, List.take_left' (by simp)]
    rw [ec]
    simp only [List.length_replicate, Int.toNat_natCast]
    have em : ((L : Int) - (k : Int)).toNat = L - k := by omega
    rw [em, over_rep k (min k (L - k)) L c 0 (Nat.min_le_left _ _) (by omega), w64 (by omega) (by omega)]
    have hmin : min k (L - k) = k ∨ min k (L - k) = L - k := by omega
    refine hag _ ⟨k + min k (L - k), by omega, by omega, ?_⟩ ?_
    · simp
    · simp only [Int.toNat_natCast]
      omega
  · rw [if_neg (by omega)]
    have hk2 : k = L := by omega
    subst hk2
    simpa using h0

theorem repeat_eq (N : Nat) (c : Int) (n : Nat) (hn : n < 2147483648) (hN : n < N) : slices_Repeat_byte N [c] (n : Int) = some (List.replicate n c) := by
  unfold slices_Repeat_byte
  simp only [decide_eq_true_eq, List.length_singleton]
  rw [if_neg (by omega)]
  have e1 : IntKind.wrap .u64 ((1 : Nat) : Int) = 1 := wu64 (by omega) (by omega)
  have e2 : IntKind.wrap .u64 (n : Int) = n := wu64 (by omega) (by omega)
  rw [e1, e2, bindO_of (mul64_small N 1 n (by omega) (by omega) (by omega) (by omega))]
  simp only [Int.one_mul, gt_iff_lt, Int.lt_irrefl, if_false]
  rw [bindO_of rfl]
  rw [if_neg (by simp; omega)]
  have e3 : IntKind.wrap .i64 (n : Int) = n := w64 (by omega) (by omega)
  rw [e3, gate_pos (by simp [room_of (n := n) (b := 1) (by omega) (by omega)])]
  simp only [Int.toNat_natCast, List.length_replicate]
  have e4 : over (List.replicate n (0 : Int)) [c] 0 (min 1 n) = List.replicate (min 1 n) c ++ List.replicate (n - min 1 n) 0 := by
    unfold over
    rcases Nat.eq_zero_or_pos n with h | h
    · subst h; simp
    · have : min 1 n = 1 := by omega
      rw [this]; simp
  rw [e4]
  exact repeat_loop N none _ c n (by omega) (fun r => r = some (List.replicate n c)) rfl (min 1 n) N (by omega) (by omega) hN

/-- a run of m bytes c so far, and what is left -/
def runGo : Nat → Int → List Int → List Int
  | m, c, [] => [(m : Int), c]
  | m, c, x :: r => if x = c ∧ m < 255 then runGo (m + 1) c r else (m : Int) :: c :: runGo 1 x r

def runs : List Int → List Int
  | [] => []
  | c :: r => runGo 1 c r

theorem runGo_end {m : Nat} {c : Int} {r : List Int} (h : m = 255 ∨ r = [] ∨ ∃ x t, r = x :: t ∧ x ≠ c) : runGo m c r = (m : Int) :: c :: runs r := by
  cases r with
  | nil => rfl
  | cons x t =>
    simp only [runGo]
    rw [if_neg]
    · rfl
    · rcases h with h | h | ⟨y, u, h, hx⟩
      · omega
      · cases h
      · cases h; exact fun h => hx h.1

theorem drop_get {xs : List Int} {i : Nat} (h : i < xs.length) : xs.drop i = xs[i] :: xs.drop (i + 1) := List.drop_eq_getElem_cons h

theorem pack_inner {R : Type} (N : Nat) (s : R) (k2 : (List Int × Int × Unit) → R) (b out : List Int) (i : Nat) (hb : b.length ≤ 1048576) (hi : i < b.length) (Q : R → Prop)
    (hk : ∀ m : Nat, 1 ≤ m → m ≤ 255 → i + m ≤ b.length → runGo 1 b[i] (b.drop (i + 1)) = (m : Int) :: b[i] :: runs (b.drop (i + m)) → Q (k2 (out, (m : Int), ()))) (n : Nat) (hn : 255 < n) :
    Q (iter (arch_Pack.s1 N s k2 (b, (i : Int), ())) s n (out, (1 : Int), ())) := by
  refine iter_rule (fun v => ∃ m : Nat, v = (out, (m : Int), ()) ∧ 1 ≤ m ∧ m ≤ 255 ∧ i + m ≤ b.length ∧ runGo 1 b[i] (b.drop (i + 1)) = runGo m b[i] (b.drop (i + m))) (fun v => 255 - v.2.1.toNat) Q ?_ n _ ⟨1, rfl, by omega, by omega, by omega, rfl⟩ (by simp; omega)
  rintro v again ⟨m, rfl, h1, h2, h3, h4⟩ hag
  unfold arch_Pack.s1
  simp only [decide_eq_true_eq]
  by_cases hm : m < 255
  · rw [if_pos (by omega), w64 (by omega) (by omega)]
    by_cases hlt : i + m < b.length
    · rw [if_pos (by omega), gate_pos (inR_of (by omega) (by omega)), gate_pos (inR_of (by omega) (by omega))]
      rw [bindO_of rfl]
      have ei : (i : Int) + (m : Int) = ((i + m : Nat) : Int) := by omega
      rw [ei, getI_get hlt, getI_get hi]
      by_cases hc : b[i + m] = b[i]
      · rw [if_pos (by simpa using hc), w64 (by omega) (by omega)]
        refine hag _ ⟨m + 1, by simp, by omega, by omega, by omega, ?_⟩ (by simp; omega)
        rw [h4, drop_get hlt]
        simp only [runGo]
        rw [if_pos ⟨hc, hm⟩]
        rfl
      · rw [if_neg (by simpa using hc)]
        refine hk m h1 h2 h3 ?_
        rw [h4]
        exact runGo_end (.inr (.inr ⟨_, _, drop_get hlt, hc⟩))
    · rw [if_neg (by omega)]
      rw [bindO_of rfl, if_neg (by simp)]
      refine hk m h1 h2 h3 ?_
      rw [h4]
      exact runGo_end (.inr (.inl (List.drop_eq_nil_of_le (by omega))))
  · rw [if_neg (by omega)]
    rw [bindO_of rfl, if_neg (by simp)]
    refine hk m h1 h2 h3 ?_
    rw [h4]
    exact runGo_end (.inl (by omega))

theorem pack_eq (N : Nat) (b : List Int) (hb : b.length ≤ 1048576) (hN : 1048576 < N) : arch_Pack N b = some (runs b) := by
  unfold arch_Pack
  refine iter_rule (fun v => ∃ (i : Nat) (out : List Int), v = (out, (i : Int), ()) ∧ i ≤ b.length ∧ out.length ≤ 2 * i ∧ runs b = out ++ runs (b.drop i)) (fun v => b.length - v.2.1.toNat) (fun r => r = some (runs b)) ?_ N _ ⟨0, [], rfl, Nat.zero_le _, by simp, by simp⟩ (by simp; omega)
  rintro v again ⟨i, out, rfl, hi, ho, hr⟩ hag
  unfold arch_Pack.s0
  simp only [decide_eq_true_eq]
  by_cases hlt : i < b.length
  · rw [if_pos (by omega)]
    refine pack_inner N none _ b out i hb hlt (fun r => r = some (runs b)) (fun m h1 h2 h3 h4 => ?_) N (by omega)
    simp only
    rw [gate_pos (inR_of (by omega) (by omega)), getI_get hlt, wu8 (by omega) (by omega), w64 (by omega) (by omega)]
    rw [gate_pos (room_of (by simp; omega) (by simp; omega))]
    refine hag _ ⟨i + m, out ++ [(m : Int), b[i]], by simp, h3, by simp; omega, ?_⟩ (by simp; omega)
    rw [hr, drop_get hlt]
    show out ++ runGo 1 b[i] (b.drop (i + 1)) = _
    rw [h4]
    simp
  · rw [if_neg (by omega)]
    rw [hr, List.drop_eq_nil_of_le (by omega)]
    simp [runs]

/-- pairs of how many and which byte, at most 'many' bytes -/
def unrun (many : Int) : List Int → List Int → List Int × Int
  | n :: c :: r, out => if n = 0 then ([], 3) else if n > many - out.length then ([], 2) else unrun many r (out ++ List.replicate n.toNat c)
  | _, out => (out, 0)

theorem unpack_eq (N : Nat) (b : List Int) (many : Int) (hb : b.length ≤ 1048576) (hN : 1048576 < N) (hby : ∀ x ∈ b, 0 ≤ x ∧ x < 256) (hm : -9223372036854775808 ≤ many ∧ many ≤ 9223372036854775807) :
    arch_Unpack N b many = some (if b.length % 2 = 1 then ([], 3) else unrun many b []) := by
  unfold arch_Unpack
  rw [gate_pos (by decide)]
  have e0 : Int.tmod (b.length : Int) 2 = ((b.length % 2 : Nat) : Int) := by
    rw [Int.tmod_eq_emod_of_nonneg (by omega)]; omega
  simp only [e0]
  by_cases hod : b.length % 2 = 1
  · rw [if_pos (by simp; omega), if_pos hod]
  · rw [if_neg (by simp; omega), if_neg hod]
    refine iter_rule (fun v => ∃ (i : Nat) (out : List Int), v = (out, (i : Int), ()) ∧ i ≤ b.length ∧ i % 2 = 0 ∧ out.length ≤ 255 * i ∧ ((out.length : Int) ≤ many ∨ out = []) ∧ unrun many b [] = unrun many (b.drop i) out)
      (fun v => b.length - v.2.1.toNat) (fun r => r = some (unrun many b [])) ?_ N _ ⟨0, [], rfl, by omega, by omega, by simp, .inr rfl, by simp⟩ (by simp; omega)
    rintro v again ⟨i, out, rfl, hi, hev, ho, hmo, hr⟩ hag
    unfold arch_Unpack.s0
    simp only [decide_eq_true_eq]
    by_cases hlt : i < b.length
    · have hlt1 : i + 1 < b.length := by omega
      rw [if_pos (by omega), gate_pos (inR_of (by omega) (by omega)), getI_get hlt]
      have hbi := hby b[i] (List.getElem_mem _)
      have hbi1 := hby b[i + 1] (List.getElem_mem _)
      rw [drop_get hlt, drop_get hlt1] at hr
      simp only [unrun] at hr
      by_cases hz : b[i] = 0
      · rw [if_pos hz]
        rw [if_pos hz] at hr
        rw [hr]
      · rw [if_neg hz, gate_pos (inR_of (by omega) (by omega)), w64 (by omega) (by omega)]
        rw [if_neg hz] at hr
        have hw : IntKind.wrap .i64 (many - (out.length : Int)) = many - out.length ∨ out = [] := by
          rcases hmo with h | h
          · left; exact w64 (by omega) (by omega)
          · right; exact h
        have hw : IntKind.wrap .i64 (many - (out.length : Int)) = many - out.length := by
          rcases hw with h | h
          · exact h
          · subst h; simp only [List.length_nil]; exact w64 (by omega) (by omega)
        rw [hw]
        by_cases hg : b[i] > many - out.length
        · rw [if_pos hg]
          rw [if_pos hg] at hr
          rw [hr]
        · rw [if_neg hg]
          rw [if_neg hg] at hr
          have e1 : (i : Int) + 1 = ((i + 1 : Nat) : Int) := by omega
          rw [w64 (x := (i : Int) + 1) (by omega) (by omega), gate_pos (inR_of (by omega) (by omega)), gate_pos (inR_of (by omega) (by omega)), e1, getI_get hlt1]
          have e2 : b[i] = ((b[i].toNat : Nat) : Int) := by omega
          have hrep := repeat_eq N b[i + 1] b[i].toNat (by omega) (by omega)
          rw [← e2] at hrep
          rw [bindO_of hrep, gate_pos (room_of (by simp; omega) (by simp; omega)), w64 (by omega) (by omega)]
          refine hag _ ⟨i + 2, out ++ List.replicate b[i].toNat b[i + 1], by simp, by omega, by omega, by simp; omega, .inl (by simp; omega), hr⟩ (by simp; omega)
    · rw [if_neg (by omega)]
      rw [hr, List.drop_eq_nil_of_le (by omega)]
      rfl

theorem unrun_len (many : Int) : ∀ (k : Nat) (b out : List Int), b.length ≤ k → (∀ x ∈ b, 0 ≤ x ∧ x < 256) → (unrun many b out).1.length ≤ out.length + 255 * b.length := by
  intro k
  induction k using Nat.strongRecOn with
  | _ k ih =>
    intro b out hk hby
    match b, hby with
    | [], _ => simp [unrun]
    | [x], _ => simp [unrun]
    | n :: c :: r, hby =>
      simp only [unrun]
      have hn := hby n (by simp)
      split
      · simp
      · split
        · simp
        · have := ih r.length (by simp at hk; omega) r (out ++ List.replicate n.toNat c) (Nat.le_refl _) fun x hx => hby x (by simp [hx])
          simp only [List.length_append, List.length_replicate, List.length_cons] at this ⊢
          omega

theorem xor32_bd (a b : Int) : 0 ≤ bitXor .u32 a b ∧ bitXor .u32 a b < 4294967296 := by
  unfold bitXor
  rw [wu32_mod]
  omega

theorem xor32_zero {a : Int} (h1 : 0 ≤ a) (h2 : a < 4294967296) : bitXor .u32 a 0 = a := by
  obtain ⟨n, rfl⟩ := Int.eq_ofNat_of_zero_le h1
  unfold bitXor
  have e : (BitVec.ofInt (IntKind.bits .u32) (n : Int) ^^^ BitVec.ofInt (IntKind.bits .u32) 0).toNat = n := by
    show (BitVec.ofInt 32 (n : Int) ^^^ BitVec.ofInt 32 0).toNat = n
    rw [BitVec.toNat_xor]
    have a : (BitVec.ofInt 32 (n : Int)).toNat = n := by simp; omega
    have b : (BitVec.ofInt 32 0).toNat = 0 := by decide
    rw [a, b, Nat.xor_zero]
  rw [e, wu32 (by omega) (by omega)]

theorem and32_one {a : Int} (h1 : 0 ≤ a) (h2 : a < 4294967296) : bitAnd .u32 a 1 = a % 2 := by
  obtain ⟨n, rfl⟩ := Int.eq_ofNat_of_zero_le h1
  unfold bitAnd
  have e : (BitVec.ofInt (IntKind.bits .u32) (n : Int) &&& BitVec.ofInt (IntKind.bits .u32) 1).toNat = n % 2 := by
    show (BitVec.ofInt 32 (n : Int) &&& BitVec.ofInt 32 1).toNat = n % 2
    rw [BitVec.toNat_and]
    have a : (BitVec.ofInt 32 (n : Int)).toNat = n := by simp; omega
    have b : (BitVec.ofInt 32 1).toNat = 1 := by decide
    rw [a, b, Nat.and_one_is_mod]
  rw [e, wu32 (by omega) (by omega)]
  omega

def crcBit (c : Int) : Int := if c % 2 = 1 then bitXor .u32 (c / 2) 3988292384 else c / 2

def crcN : Nat → Int → Int
  | 0, c => c
  | n + 1, c => crcN n (crcBit c)

def crcByte (c x : Int) : Int := crcN 8 (bitXor .u32 c (IntKind.wrap .u32 x))

def crcOf (bs : List Int) : Int := IntKind.wrap .i64 (bitXor .u32 4294967295 (bs.foldl crcByte 4294967295))

theorem crcBit_bd {c : Int} (h1 : 0 ≤ c) (h2 : c < 4294967296) : 0 ≤ crcBit c ∧ crcBit c < 4294967296 := by
  unfold crcBit
  split
  · exact xor32_bd _ _
  · omega

theorem crcOf_bd (bs : List Int) : 0 ≤ crcOf bs ∧ crcOf bs < 4294967296 := by
  unfold crcOf
  have := xor32_bd 4294967295 (bs.foldl crcByte 4294967295)
  rw [w64 (by omega) (by omega)]
  exact this

theorem sum_inner {R : Type} (N : Nat) (s : R) (k2 : (Int × Unit) → R) (ctx : List Int × Int × Int × Unit) (c : Int) (h1 : 0 ≤ c) (h2 : c < 4294967296) (Q : R → Prop) (hk : 0 ≤ crcN 8 c → crcN 8 c < 4294967296 → Q (k2 (crcN 8 c, ()))) (n : Nat) (hn : 8 < n) :
    Q (iter (sum_Crc.s1 N s k2 ctx) s n (c, (0 : Int), ())) := by
  refine iter_rule (fun v => ∃ (i : Nat) (d : Int), v = (d, (i : Int), ()) ∧ i ≤ 8 ∧ 0 ≤ d ∧ d < 4294967296 ∧ crcN 8 c = crcN (8 - i) d) (fun v => 8 - v.2.1.toNat) Q ?_ n _ ⟨0, c, rfl, by omega, h1, h2, rfl⟩ (by simp; omega)
  rintro v again ⟨i, d, rfl, hi, d1, d2, he⟩ hag
  unfold sum_Crc.s1
  simp only [decide_eq_true_eq]
  by_cases hlt : i < 8
  · rw [if_pos (by omega), gate_pos (by decide), w64 (by omega) (by omega), and32_one d1 d2]
    have sh : shrI .u32 d 1 = d / 2 := shrI_nat .u32 1 (by decide)
    have st : bitXor .u32 (shrI .u32 d 1) (IntKind.wrap .u32 (d % 2 * 3988292384)) = crcBit d := by
      rw [sh]
      unfold crcBit
      rcases (show d % 2 = 0 ∨ d % 2 = 1 by omega) with h | h
      · rw [h, if_neg (by omega), Int.zero_mul, wu32 (by omega) (by omega), xor32_zero (by omega) (by omega)]
      · rw [h, if_pos rfl, Int.one_mul, wu32 (by omega) (by omega)]
    rw [st]
    have hb := crcBit_bd d1 d2
    refine hag _ ⟨i + 1, crcBit d, by simp, by omega, hb.1, hb.2, ?_⟩ (by simp; omega)
    rw [he, show 8 - i = (8 - (i + 1)) + 1 by omega]
    rfl
  · rw [if_neg (by omega)]
    have : i = 8 := by omega
    subst this
    have he : crcN 8 c = d := he
    rw [he] at hk
    exact hk d1 d2

theorem sumCrc_eq (N : Nat) (bs : List Int) (hb : bs.length ≤ 140737488355328) (hN : bs.length < N) (hN8 : 8 < N) : sum_Crc N bs = some (crcOf bs) := by
  unfold sum_Crc
  refine iter_rule (fun v => ∃ (i : Nat) (d : Int), v = (d, (i : Int), ()) ∧ i ≤ bs.length ∧ 0 ≤ d ∧ d < 4294967296 ∧ bs.foldl crcByte 4294967295 = (bs.drop i).foldl crcByte d) (fun v => bs.length - v.2.1.toNat) (fun r => r = some (crcOf bs)) ?_ N _ ⟨0, 4294967295, rfl, Nat.zero_le _, by omega, by omega, rfl⟩ (by simpa using hN)
  rintro v again ⟨i, d, rfl, hi, d1, d2, he⟩ hag
  unfold sum_Crc.s0
  simp only [decide_eq_true_eq]
  by_cases hlt : i < bs.length
  · rw [if_pos (by omega), gate_pos (inR_of (by omega) (by omega)), getI_get hlt]
    have hx := xor32_bd d (IntKind.wrap .u32 bs[i])
    refine sum_inner N none _ _ _ hx.1 hx.2 (fun r => r = some (crcOf bs)) (fun n1 n2 => ?_) N hN8
    simp only
    rw [w64 (by omega) (by omega)]
    refine hag _ ⟨i + 1, _, rfl, by omega, n1, n2, ?_⟩ (by simp; omega)
    rw [he, List.drop_eq_getElem_cons hlt]
    rfl
  · rw [if_neg (by omega)]
    have : i = bs.length := by omega
    subst this
    simp only [List.drop_length, List.foldl_nil] at he
    rw [← he]
    rfl

def nameCh (x : Int) : Bool := decide (97 ≤ x ∧ x ≤ 122) || decide (48 ≤ x ∧ x ≤ 57) || decide (x = 45)

def nameB (s : List Int) : Bool := match s with
  | [] => false
  | x :: r => decide (s.length ≤ 12) && (decide (97 ≤ x ∧ x ≤ 122) && s.all nameCh)

theorem split_eq (N : Nat) (s : List Int) (hs : s.length ≤ 1048576) : strings_Split N s [47] = some (splitI 47 s) := by
  unfold strings_Split
  have : genSplitF s [47] 0 (-1) = some (splitI 47 s) := by
    simp only [genSplitF]
    rw [if_pos ⟨trivial, trivial, by omega⟩]
  rw [bindO_of this]

theorem named_eq (N : Nat) (s : List Int) (hs : s.length ≤ 1048576) (hN : 1048577 < N) : fs_Named N s = some (nameB s) := by
  unfold fs_Named
  cases s with
  | nil => rfl
  | cons x r =>
    have e0 : getI 0 (x :: r) (0 : Int) = x := rfl
    rw [if_neg (by simp)]
    by_cases hl : (x :: r).length ≤ 12
    · rw [if_neg (by simp only [decide_eq_true_eq]; omega), gate_pos (inR_of (by omega) (by simp)), gate_pos (inR_of (by omega) (by simp)), e0]
      simp only [decide_eq_true_eq]
      by_cases h1 : x < 97
      · rw [if_pos h1]
        have : nameB (x :: r) = false := by
          simp only [nameB]
          have : decide (97 ≤ x ∧ x ≤ 122) = false := by simp; omega
          rw [this]; simp
        rw [this]; rfl
      · rw [if_neg h1]
        by_cases h2 : x > 122
        · have : nameB (x :: r) = false := by
            simp only [nameB]
            have : decide (97 ≤ x ∧ x ≤ 122) = false := by simp; omega
            rw [this]; simp
          rw [this]
          simp [bindO, h2]
        · have hx : decide (97 ≤ x ∧ x ≤ 122) = true := by simp; omega
          have hnb : nameB (x :: r) = (x :: r).all nameCh := by
            simp only [nameB]
            rw [hx]
            simp only [Bool.true_and]
            rw [show decide ((x :: r).length ≤ 12) = true by simpa using hl]
            simp
          rw [hnb]
          simp only [bindO, h2, decide_false]
          rw [if_neg (by decide)]
          generalize hy : x :: r = y at *
          refine iter_rule (fun v => ∃ i : Nat, v = ((i : Int), ()) ∧ i ≤ y.length ∧ ∀ j : Nat, j < i → nameCh (y.getD j 0) = true) (fun v => y.length - v.1.toNat)
            (fun o => o = some (y.all nameCh)) ?_ N _ ⟨0, rfl, Nat.zero_le _, fun j hj => absurd hj (Nat.not_lt_zero _)⟩ (by simp only; omega)
          rintro v again ⟨i, rfl, hi, hall⟩ hag
          unfold fs_Named.s0
          simp only [decide_eq_true_eq]
          by_cases hlt : i < y.length
          · rw [if_pos (by omega), gate_pos (inR_of (by omega) (by omega)), getI_nat]
            generalize hz : y.getD i 0 = z
            have body : (if z < 97 then (if z < 48 then some (!decide (z = 45)) else if z > 57 then some (!decide (z = 45)) else some false) else if z > 122 then (if z < 48 then some (!decide (z = 45)) else if z > 57 then some (!decide (z = 45)) else some false) else some false : Option Bool) = some (!nameCh z) := by
              unfold nameCh
              repeat' split
              all_goals
                simp only [Option.some.injEq, Bool.not_or, Bool.false_eq, Bool.and_eq_false_imp]
                rw [Bool.eq_iff_iff]
                simp
                try omega
            rw [body]
            simp only [bindO]
            cases hc : nameCh z with
            | true =>
              simp only [Bool.not_true, Bool.false_eq_true, if_false]
              rw [w64 (by omega) (by omega)]
              refine hag _ ⟨i + 1, by simp, by omega, fun j hj => ?_⟩ (by simp only; omega)
              rcases Nat.lt_or_eq_of_le (Nat.le_of_lt_succ hj) with h | h
              · exact hall j h
              · subst h; rw [hz]; exact hc
            | false =>
              simp only [Bool.not_false, if_true, Option.some.injEq, Bool.false_eq]
              rw [List.all_eq_false]
              refine ⟨y[i], List.getElem_mem hlt, ?_⟩
              rw [List.getD_eq_getElem?_getD, List.getElem?_eq_getElem hlt] at hz
              simp only [Option.getD_some] at hz
              rw [hz, hc]
              simp
          · rw [if_neg (by omega)]
            simp only [Option.some.injEq, Bool.true_eq, List.all_eq_true]
            intro z hz
            obtain ⟨j, hj, rfl⟩ := List.getElem_of_mem hz
            have := hall j (by omega)
            rw [List.getD_eq_getElem?_getD, List.getElem?_eq_getElem hj] at this
            exact this
    · rw [if_pos (by simp only [decide_eq_true_eq]; omega)]
      have : nameB (x :: r) = false := by
        simp only [nameB]
        have : decide ((x :: r).length ≤ 12) = false := by simpa using hl
        rw [this]; simp
      rw [this]; rfl

def pathB (s : List Int) : Bool := decide ((splitI 47 s).length ≤ 4) && (splitI 47 s).all nameB

theorem splitI_len (c : Int) : ∀ l : List Int, (splitI c l).length ≤ l.length + 1 ∧ ∀ p ∈ splitI c l, p.length ≤ l.length := by
  intro l
  induction l with
  | nil => simp [splitI]
  | cons x r ih =>
    simp only [splitI]
    obtain ⟨h1, h2⟩ := ih
    split
    · refine ⟨by simp; omega, fun p hp => ?_⟩
      rcases List.mem_cons.1 hp with hp | hp
      · subst hp; simp
      · have := h2 p hp; simp; omega
    · split
      · rename_i a t hs
        rw [hs] at h1 h2
        refine ⟨by simp at h1 ⊢; omega, fun p hp => ?_⟩
        rcases List.mem_cons.1 hp with hp | hp
        · subst hp
          have := h2 a (by simp)
          simp; omega
        · have := h2 p (by simp [hp])
          simp; omega
      · exact ⟨by simp, fun p hp => by simp at hp; subst hp; simp⟩

theorem path_eq (N : Nat) (s : List Int) (hs : s.length ≤ 1048576) (hN : 1048577 < N) : fs_Path N s = some (if pathB s = true then 0 else 6) := by
  unfold fs_Path
  rw [bindO_of (split_eq N s hs)]
  obtain ⟨hlen, hparts⟩ := splitI_len 47 s
  unfold pathB
  generalize splitI 47 s = l at *
  simp only [decide_eq_true_eq]
  by_cases h4 : (l.length : Int) > 4
  · rw [if_pos h4, decide_eq_false (show ¬ l.length ≤ 4 by omega)]
    simp
  · rw [if_neg h4, decide_eq_true (show l.length ≤ 4 by omega), Bool.true_and]
    refine iter_rule (fun v => ∃ i : Nat, v = ((i : Int), ()) ∧ i ≤ l.length ∧ ∀ j : Nat, j < i → nameB (l.getD j []) = true) (fun v => l.length - v.1.toNat)
      (fun o => o = some (if l.all nameB = true then (0 : Int) else 6)) ?_ N _ ⟨0, rfl, Nat.zero_le _, fun j hj => absurd hj (Nat.not_lt_zero _)⟩ (by simp only; omega)
    rintro v again ⟨i, rfl, hi, hall⟩ hag
    unfold fs_Path_i0_slices_ContainsFunc_i0_slices_IndexFunc.s0
    simp only [decide_eq_true_eq]
    by_cases hlt : i < l.length
    · have hp : fs_Path_1 N (l.getD i []) = some (!nameB (l.getD i [])) := by
        unfold fs_Path_1
        rw [bindO_of (named_eq N _ (by
          rw [List.getD_eq_getElem?_getD, List.getElem?_eq_getElem hlt]
          have := hparts _ (List.getElem_mem hlt)
          simp only [Option.getD_some]; omega) hN)]
      rw [if_pos (by omega), gate_pos (inR_of (by omega) (by omega)), getI_nat, bindO_of hp]
      cases hc : nameB (l.getD i []) with
      | true =>
        simp only [Bool.not_true, Bool.false_eq_true, if_false]
        rw [w64 (by omega) (by omega)]
        refine hag _ ⟨i + 1, by simp, by omega, fun j hj => ?_⟩ (by simp only; omega)
        rcases Nat.lt_or_eq_of_le (Nat.le_of_lt_succ hj) with h | h
        · exact hall j h
        · subst h; exact hc
      | false =>
        simp only [Bool.not_false, if_true]
        rw [if_pos (by omega)]
        have : l.all nameB = false := by
          rw [List.all_eq_false]
          refine ⟨l[i], List.getElem_mem hlt, ?_⟩
          rw [List.getD_eq_getElem?_getD, List.getElem?_eq_getElem hlt] at hc
          simp only [Option.getD_some] at hc
          rw [hc]; simp
        rw [this]; rfl
    · rw [if_neg (by omega)]
      have : l.all nameB = true := by
        rw [List.all_eq_true]
        intro z hz
        obtain ⟨j, hj, rfl⟩ := List.getElem_of_mem hz
        have := hall j (by omega)
        rw [List.getD_eq_getElem?_getD, List.getElem?_eq_getElem hj] at this
        exact this
      rw [this]
      simp

/-- n bytes from lo on -/
def partB (x : List Int) (lo n : Nat) : List Int := (x.drop lo).take n

def Bytes (b : List Int) : Prop := ∀ x ∈ b, 0 ≤ x ∧ x < 256

theorem cut_part (x : List Int) (lo n : Nat) (l h : Int) (hl : l = lo) (hh : h = lo + n) : cut x l h = partB x lo n := by
  subst hl; subst hh
  have := cut_nat x lo (lo + n) (by omega)
  rw [show ((lo + n : Nat) : Int) = (lo : Int) + n by omega] at this
  rw [this, Nat.add_sub_cancel_left]
  rfl

theorem part_bytes {x : List Int} (h : Bytes x) (lo n : Nat) : Bytes (partB x lo n) := fun y hy => h y (List.mem_of_mem_drop (List.mem_of_mem_take hy))

theorem partB_len (x : List Int) (lo n : Nat) : (partB x lo n).length ≤ n := by
  unfold partB
  rw [List.length_take]
  omega

theorem partB_len' (x : List Int) (lo n : Nat) (h : lo + n ≤ x.length) : (partB x lo n).length = n := by
  unfold partB
  rw [List.length_take, List.length_drop]
  omega

theorem num2_lt {x : List Int} (h : Bytes x) (lo : Nat) : numB (partB x lo 2) < 65536 := by
  have h1 := numB_lt _ (part_bytes h lo 2)
  have h2 : 256 ^ (partB x lo 2).length ≤ 256 ^ 2 := Nat.pow_le_pow_right (by decide) (partB_len x lo 2)
  have h2 : 256 ^ (partB x lo 2).length ≤ 65536 := h2
  omega

/-- an entry at the beginning of x: it, and how long it is -/
def itemX (x : List Int) (at_ : Nat) : (List Int × List Int) × Int × Int :=
  if x.length < 3 ∨ (x.length : Int) < 11 + x.getD 2 0 then (([], []), 0, 15) else
  let n := (x.getD 2 0).toNat
  let path := partB x 3 n
  let size := numB (partB x (3 + n) 2)
  let st := numB (partB x (5 + n) 2)
  if x.getD 0 0 ≠ 105 ∨ x.getD 1 0 > 1 ∨ pathB path = false ∨ size > 2048 ∨ (x.getD 1 0 = 0 ∧ size ≠ st) then (([], []), 0, 3)
  else if x.length < 11 + n + st then (([], []), 0, 15)
  else
    let raw := partB x (11 + n) st
    let crc := ((numB (partB x (7 + n) 4) : Nat) : Int)
    if x.getD 1 0 = 1 then
      (let u := if raw.length % 2 = 1 then ([], 3) else unrun (size : Int) raw []
       if u.2 ≠ 0 ∨ u.1.length ≠ size then (([], []), 0, 3) else if crcOf u.1 ≠ crc then (([], []), 0, 13) else ((path, u.1), ((at_ + 11 + n + st : Nat) : Int), 0))
    else if crcOf raw ≠ crc then (([], []), 0, 13) else ((path, raw), ((at_ + 11 + n + st : Nat) : Int), 0)

def itemI (b : List Int) (at_ : Nat) : (List Int × List Int) × Int × Int := if b.length < at_ then (([], []), 0, 3) else itemX (b.drop at_) at_

theorem clone_eq' (N : Nat) (b : List Int) (hb : b.length ≤ 1048576) : slices_Clone_byte N b = some b := by
  unfold slices_Clone_byte
  rw [gate_pos (room_of (by simp; omega) (by simp; omega))]
  rfl

theorem getD_mem_b {x : List Int} {i : Nat} (h : i < x.length) : x.getD i 0 ∈ x := by
  rw [List.getD_eq_getElem?_getD, List.getElem?_eq_getElem h]
  exact List.getElem_mem h

theorem bad_if (x0 x1 : Int) (pb : Bool) (size st : Nat) :
    (if (!decide (x0 = 105)) = true then some true else if decide (x1 > 1) = true then some true else
      if (!decide ((if pb = true then (0 : Int) else 6) = (0 : Int))) = true then some true else if decide ((size : Int) > 2048) = true then some true else if decide (x1 = 0) = true then some (!decide ((size : Int) = (st : Int))) else some false : Option Bool) =
      some (decide (x0 ≠ 105 ∨ x1 > 1 ∨ pb = false ∨ size > 2048 ∨ (x1 = 0 ∧ size ≠ st))) := by
  by_cases c1 : x0 = 105
  · by_cases c2 : x1 > 1
    · simp [c1, c2]
    · cases pb with
      | true =>
        by_cases c4 : size > 2048
        · have c4' : (size : Int) > 2048 := by omega
          simp [c1, c2, c4, c4']
        · have c4' : ¬ ((size : Int) > 2048) := by omega
          by_cases c5 : x1 = 0
          · by_cases c6 : size = st
            · subst c6
              have d1 : ¬ (2048 < size) := by omega
              have d2 : ¬ ((2048 : Int) < (size : Int)) := by omega
              simp [c1, c5, d1, d2]
            · have c6' : ¬ ((size : Int) = (st : Int)) := by omega
              simp [c1, c4, c4', c5, c6, c6']
          · simp [c1, c2, c4, c4', c5]
      | false => simp [c1, c2]
  · simp [c1]

theorem bad_u (u2 : Int) (len size : Nat) : (if (!decide (u2 = 0)) = true then some true else some (!decide ((len : Int) = (size : Int))) : Option Bool) = some (decide (u2 ≠ 0 ∨ len ≠ size)) := by
  by_cases c1 : u2 = 0
  · by_cases c2 : len = size
    · subst c2; simp [c1]
    · have d : ¬ ((len : Int) = (size : Int)) := by omega
      simp [c1, c2, d]
  · simp [c1]

theorem one_eq (N : Nat) (b : List Int) (a : Nat) (hb : Bytes b) (hl : b.length ≤ 65536) (ha : a ≤ 281474976710656) (hN : 1048577 < N) : arch_one N b (a : Int) = some (itemI b a) := by
  unfold arch_one itemI
  have h0 : (if decide ((a : Int) < 0) = true then some true else some (decide ((a : Int) > (b.length : Int))) : Option Bool) = some (decide (b.length < a)) := by
    rw [if_neg (by simp), Option.some.injEq, decide_eq_decide]
    omega
  rw [bindO_of h0]
  by_cases hlt : b.length < a
  · rw [if_pos (by simpa using hlt), if_pos hlt]
  rw [if_neg (by simpa using hlt), if_neg hlt, gate_pos (bounds_of (by omega) (by omega) (by omega))]
  have hcut : cut b (a : Int) (b.length : Int) = b.drop a := by
    rw [cut_part b a (b.length - a) _ _ rfl (by omega)]
    unfold partB
    rw [List.take_of_length_le (by rw [List.length_drop]; exact Nat.le_refl _)]
  rw [hcut]
  have hx : Bytes (b.drop a) := fun y hy => hb y (List.mem_of_mem_drop hy)
  have hxl : (b.drop a).length ≤ 65536 := by rw [List.length_drop]; omega
  generalize b.drop a = x at *
  unfold itemX
  have g2 : getI (0 : Int) x 2 = x.getD 2 0 := getI_nat 0 x 2
  have g1 : getI (0 : Int) x 1 = x.getD 1 0 := getI_nat 0 x 1
  have g0 : getI (0 : Int) x 0 = x.getD 0 0 := getI_nat 0 x 0
  simp only [g0, g1, g2]
  by_cases h3 : x.length < 3
  · have e : (if decide (((x.length : Nat) : Int) < 3) = true then some true else gate (inR 2 (x.length : Int)) (some (decide ((x.length : Int) < IntKind.wrap .i64 (11 + IntKind.wrap .i64 (x.getD 2 0))))) none : Option Bool) = some true := by
      rw [if_pos (by simp; omega)]
    rw [bindO_of e, if_pos rfl, if_pos (Or.inl h3)]
  have hn := hx _ (getD_mem_b (show 2 < x.length by omega))
  have h1b := hx _ (getD_mem_b (show 1 < x.length by omega))
  have h0b := hx _ (getD_mem_b (show 0 < x.length by omega))
  obtain ⟨n, hnn⟩ := Int.eq_ofNat_of_zero_le hn.1
  have hn256 : n < 256 := by omega
  rw [hnn] at *
  have wn : IntKind.wrap .i64 (n : Int) = (n : Int) := w64 (by omega) (by omega)
  have w11 : IntKind.wrap .i64 ((11 : Int) + (n : Int)) = ((11 + n : Nat) : Int) := by rw [w64 (by omega) (by omega)]; omega
  have w3 : IntKind.wrap .i64 ((3 : Int) + (n : Int)) = ((3 + n : Nat) : Int) := by rw [w64 (by omega) (by omega)]; omega
  have w5 : IntKind.wrap .i64 ((5 : Int) + (n : Int)) = ((5 + n : Nat) : Int) := by rw [w64 (by omega) (by omega)]; omega
  have w7 : IntKind.wrap .i64 ((7 : Int) + (n : Int)) = ((7 + n : Nat) : Int) := by rw [w64 (by omega) (by omega)]; omega
  have e : (if decide (((x.length : Nat) : Int) < 3) = true then some true else gate (inR 2 (x.length : Int)) (some (decide ((x.length : Int) < IntKind.wrap .i64 (11 + IntKind.wrap .i64 (n : Int))))) none : Option Bool) = some (decide ((x.length : Int) < 11 + (n : Int))) := by
    rw [if_neg (by simp; omega), gate_pos (inR_of (by omega) (by omega)), wn, w11]
    congr 2
  rw [bindO_of e]
  by_cases h11 : (x.length : Int) < 11 + (n : Int)
  · rw [if_pos (by simpa using h11), if_pos (Or.inr h11)]
  rw [if_neg (by simpa using h11), if_neg (by rintro (h | h); exact h3 h; exact h11 h)]
  simp only [wn, w11, w3, w5, w7, Int.toNat_natCast]
  have p1 : cut x (3 : Int) ((3 + n : Nat) : Int) = partB x 3 n := cut_part x 3 n _ _ rfl (by omega)
  have p2 : cut x ((3 + n : Nat) : Int) ((5 + n : Nat) : Int) = partB x (3 + n) 2 := cut_part x (3 + n) 2 _ _ rfl (by omega)
  have p3 : cut x ((5 + n : Nat) : Int) ((7 + n : Nat) : Int) = partB x (5 + n) 2 := cut_part x (5 + n) 2 _ _ rfl (by omega)
  have p4 : cut x ((7 + n : Nat) : Int) ((11 + n : Nat) : Int) = partB x (7 + n) 4 := cut_part x (7 + n) 4 _ _ rfl (by omega)
  have q2 := number_eq N _ (part_bytes hx (3 + n) 2) (Nat.le_trans (partB_len _ _ _) (by decide))
  have q3 := number_eq N _ (part_bytes hx (5 + n) 2) (Nat.le_trans (partB_len _ _ _) (by decide))
  have q4 := number_eq N _ (part_bytes hx (7 + n) 4) (Nat.le_trans (partB_len _ _ _) (by decide))
  have hs2 := num2_lt hx (3 + n)
  have hs3 := num2_lt hx (5 + n)
  have hpl : (partB x 3 n).length ≤ 1048576 := Nat.le_trans (partB_len _ _ _) (by omega)
  rw [gate_pos (inR_of (by omega) (by omega)), gate_pos (bounds_of (by omega) (by omega) (by omega)), p1, gate_pos (bounds_of (by omega) (by omega) (by omega)), p2, bindO_of q2, gate_pos (bounds_of (by omega) (by omega) (by omega)), p3, bindO_of q3, gate_pos (bounds_of (by omega) (by omega) (by omega)), p4, bindO_of q4]
  generalize hsz : numB (partB x (3 + n) 2) = size at *
  generalize hst : numB (partB x (5 + n) 2) = st at *
  generalize numB (partB x (7 + n) 4) = crc
  have hin0 : inR (0 : Int) (x.length : Int) = true := inR_of (by omega) (by omega)
  have hin1 : inR (1 : Int) (x.length : Int) = true := inR_of (by omega) (by omega)
  have ec : (gate (inR (0 : Int) (x.length : Int)) (if (!decide (x.getD 0 0 = 105)) = true then some true else gate (inR (1 : Int) (x.length : Int)) (if decide (x.getD 1 0 > 1) = true then some true else
      bindO (fs_Path N (partB x 3 n)) (fun r => if (!decide (r = (0 : Int))) = true then some true else if decide ((size : Int) > 2048) = true then some true else gate (inR (1 : Int) (x.length : Int)) (if decide (x.getD 1 0 = 0) = true then some (!decide ((size : Int) = (st : Int))) else some false) none) none) none) none : Option Bool) =
      some (decide (x.getD 0 0 ≠ 105 ∨ x.getD 1 0 > 1 ∨ pathB (partB x 3 n) = false ∨ size > 2048 ∨ (x.getD 1 0 = 0 ∧ size ≠ st))) := by
    rw [gate_pos hin0, gate_pos hin1, bindO_of (path_eq N _ hpl hN), gate_pos hin1]
    exact bad_if _ _ _ _ _
  rw [bindO_of ec]
  by_cases hbad : x.getD 0 0 ≠ 105 ∨ x.getD 1 0 > 1 ∨ pathB (partB x 3 n) = false ∨ size > 2048 ∨ (x.getD 1 0 = 0 ∧ size ≠ st)
  · rw [if_pos (decide_eq_true hbad), if_pos hbad]
  rw [if_neg (by rw [decide_eq_false hbad]; decide), if_neg hbad]
  have w8 : IntKind.wrap .i64 (((11 + n : Nat) : Int) + (st : Int)) = ((11 + n + st : Nat) : Int) := by rw [w64 (by omega) (by omega)]; omega
  rw [w8]
  by_cases hsh : x.length < 11 + n + st
  · rw [if_pos (by simp; omega), if_pos hsh]
  rw [if_neg (by simp; omega), if_neg hsh, gate_pos (bounds_of (by omega) (by omega) (by omega))]
  have p5 : cut x ((11 + n : Nat) : Int) ((11 + n + st : Nat) : Int) = partB x (11 + n) st := cut_part x (11 + n) st _ _ rfl (by omega)
  have hraw := part_bytes hx (11 + n) st
  have hrl : (partB x (11 + n) st).length ≤ 65536 := Nat.le_trans (partB_len _ _ _) (by omega)
  rw [p5, bindO_of (clone_eq' N _ (by omega)), gate_pos hin1]
  generalize hrw : partB x (11 + n) st = raw at *
  have wa : IntKind.wrap .i64 (IntKind.wrap .i64 (IntKind.wrap .i64 ((a : Int) + 11) + (n : Int)) + (st : Int)) = ((a + 11 + n + st : Nat) : Int) := by
    rw [w64 (x := (a : Int) + 11) (by omega) (by omega), w64 (x := (a : Int) + 11 + (n : Int)) (by omega) (by omega), w64 (by omega) (by omega)]
    omega
  rw [wa]
  by_cases hw : x.getD 1 0 = 1
  · rw [if_pos (by simpa using hw), if_pos hw, bindO_of (unpack_eq N raw (size : Int) (by omega) (by omega) hraw ⟨by omega, by omega⟩)]
    have hul : (if raw.length % 2 = 1 then (([], 3) : List Int × Int) else unrun (size : Int) raw []).1.length ≤ 255 * 65536 := by
      split
      · simp
      · have := unrun_len (size : Int) raw.length raw [] (Nat.le_refl _) hraw
        simp only [List.length_nil, Nat.zero_add] at this
        exact Nat.le_trans this (Nat.mul_le_mul_left _ hrl)
    generalize (if raw.length % 2 = 1 then (([], 3) : List Int × Int) else unrun (size : Int) raw []) = u at *
    have eu : (if (!decide (u.2 = 0)) = true then some true else some (!decide ((u.1.length : Int) = (size : Int))) : Option Bool) = some (decide (u.2 ≠ 0 ∨ u.1.length ≠ size)) := by
      exact bad_u _ _ _
    rw [bindO_of eu]
    by_cases hu : u.2 ≠ 0 ∨ u.1.length ≠ size
    · rw [if_pos (decide_eq_true hu), if_pos hu]
    rw [if_neg (by rw [decide_eq_false hu]; decide), if_neg hu]
    have hlen : u.1.length = size := by
      by_cases c : u.1.length = size
      · exact c
      · exact absurd (Or.inr c) hu
    have hs48 : size ≤ 2048 := by
      by_cases c : size ≤ 2048
      · exact c
      · exact absurd (Or.inr (Or.inr (Or.inr (Or.inl (by omega))))) hbad
    rw [bindO_of (sumCrc_eq N u.1 (by omega) (by omega) (by omega))]
    by_cases hcr : crcOf u.1 = (crc : Int)
    · rw [if_neg (by simpa using hcr), if_neg (by simpa using hcr)]
    · rw [if_pos (by simpa using hcr), if_pos hcr]
  · rw [if_neg (by simpa using hw), if_neg hw, bindO_of (sumCrc_eq N raw (by omega) (by omega) (by omega))]
    by_cases hcr : crcOf raw = (crc : Int)
    · rw [if_neg (by simpa using hcr), if_neg (by simpa using hcr)]
    · rw [if_pos (by simpa using hcr), if_pos hcr]

theorem data_inner {R : Type} (N : Nat) (s : R) (k2 : (List Int × List Int × Unit) → R) (n6 c : Int) (k : Nat) (h out : List Int) (hk : k ≤ 1048576) (ho : out.length ≤ 1048576) (Q : R → Prop) (hq : Q (k2 (h, out ++ List.replicate k c, ()))) (m : Nat) (hm : k < m) :
    Q (iter (wrackmake_data.s1 N s k2 (n6, c, (k : Int), ())) s m (h, out, (0 : Int), ())) := by
  refine iter_rule (fun v => ∃ i : Nat, v = (h, out ++ List.replicate i c, (i : Int), ()) ∧ i ≤ k) (fun v => k - v.2.2.1.toNat) Q ?_ m _ ⟨0, by simp, Nat.zero_le _⟩ (by simp only; omega)
  rintro v again ⟨i, rfl, hi⟩ hag
  unfold wrackmake_data.s1
  simp only [decide_eq_true_eq]
  by_cases hlt : i < k
  · rw [if_pos (by omega), gate_pos (room_of (by simp; omega) (by simp; omega)), w64 (by omega) (by omega)]
    refine hag _ ⟨i + 1, ?_, by omega⟩ (by simp only; omega)
    rw [List.replicate_succ']
    simp
  · rw [if_neg (by omega)]
    have : i = k := by omega
    subst this
    exact hq

theorem abc_mem (i : Int) (h1 : 0 ≤ i) (h2 : i < 5) : 0 ≤ getI 0 ([97, 98, 99, 32, 0] : List Int) i ∧ getI 0 ([97, 98, 99, 32, 0] : List Int) i < 256 := by
  obtain ⟨n, rfl⟩ := Int.eq_ofNat_of_zero_le h1
  have : n < 5 := by omega
  match n, this with
  | 0, _ => decide
  | 1, _ => decide
  | 2, _ => decide
  | 3, _ => decide
  | 4, _ => decide

theorem data_eq (N : Nat) (l : List Int) (most : Int) (h1 : 0 ≤ most) (h2 : most ≤ 65536) (hN : 1048577 < N) :
    ∃ d l', wrackmake_data N (l, ()) most = some (d, (l', ())) ∧ (d.length : Int) ≤ most ∧ Bytes d := by
  unfold wrackmake_data
  have e1 : minI most 65536 = most := by unfold minI; split <;> omega
  have e2 : maxI 0 most = most := by unfold maxI; split <;> omega
  simp only [e1, e2]
  rw [w64 (x := most + 1) (by omega) (by omega)]
  obtain ⟨r1, l1, e3, a1, a2⟩ := next_eq N l (most + 1) (by omega) (by omega)
  rw [bindO_of e3]
  simp only
  obtain ⟨n, rfl⟩ := Int.eq_ofNat_of_zero_le a1
  refine iter_rule (fun v => ∃ (rest out : List Int), v = (rest, out, ()) ∧ out.length ≤ n + 9 ∧ Bytes out) (fun v => n - v.2.1.length)
    (fun r => ∃ d l', r = some (d, (l', ())) ∧ (d.length : Int) ≤ most ∧ Bytes d) ?_ N _ ⟨l1, [], rfl, by simp, fun x hx => absurd hx List.not_mem_nil⟩ (by simp; omega)
  rintro v again ⟨rest, out, rfl, ho, hb⟩ hag
  unfold wrackmake_data.s0
  simp only [decide_eq_true_eq]
  by_cases hlt : out.length < n
  · rw [if_pos (by omega)]
    obtain ⟨c, l2, e4, b1, b2⟩ := next_eq N rest 256 (by omega) (by omega)
    obtain ⟨r3, l3, e5, c1, c2⟩ := next_eq N l2 3 (by omega) (by omega)
    rw [bindO_of e4]
    simp only
    rw [bindO_of e5]
    simp only
    have fin : ∀ (l4 : List Int) (c : Int), 0 ≤ c ∧ c < 256 → (∃ d l', (bindO (wrackmake_Stream_Next N (l4, ()) 9) (fun r28 => iter (wrackmake_data.s1 N (none : Option (List Int × List Int × Unit)) (fun x87 => again (x87.1, x87.2.1, ())) ((n : Int), c, IntKind.wrap .i64 (1 + r28.1), ())) none N (r28.2.1, out, 0, ())) none) = some (d, (l', ())) ∧ (d.length : Int) ≤ most ∧ Bytes d) := by
      intro l4 c hc
      obtain ⟨r5, l5, e6, d1, d2⟩ := next_eq N l4 9 (by omega) (by omega)
      rw [bindO_of e6]
      simp only
      rw [w64 (x := 1 + r5) (by omega) (by omega)]
      obtain ⟨k, hk⟩ := Int.eq_ofNat_of_zero_le (show 0 ≤ 1 + r5 by omega)
      rw [hk]
      refine data_inner N none _ (n : Int) c k l5 out (by omega) (by omega) (fun r => ∃ d l', r = some (d, (l', ())) ∧ (d.length : Int) ≤ most ∧ Bytes d) ?_ N (by omega)
      simp only
      refine hag _ ⟨l5, out ++ List.replicate k c, rfl, by simp; omega, fun x hx => ?_⟩ (by simp; omega)
      rcases List.mem_append.1 hx with hx | hx
      · exact hb x hx
      · rw [(List.mem_replicate.1 hx).2]; exact hc
    by_cases h3 : r3 > 0
    · rw [if_pos h3]
      obtain ⟨r4, l4, e6, d1, d2⟩ := next_eq N l3 5 (by omega) (by omega)
      rw [bindO_of e6]
      simp only
      rw [gate_pos (inR_of d1 (by simpa using d2)), b_some]
      simp only
      exact fin l4 _ (abc_mem r4 d1 d2)
    · rw [if_neg h3, b_some]
      simp only
      rw [wu8 (by omega) (by omega)]
      exact fin l3 c ⟨b1, b2⟩
  · rw [if_neg (by omega), gate_pos (by rw [bounds_of (by omega) (by omega) (by omega)]; simp), cut0]
    exact ⟨out.take n, rest, rfl, by simp; omega, fun x hx => hb x (List.mem_of_mem_take hx)⟩

theorem mbytes_eq (N : Nat) (l : List Int) (most : Int) (h1 : 0 ≤ most) (h2 : most ≤ 65536) (hN : 1048577 < N) : ∃ d, wrackmake_Bytes N l most = some d ∧ (d.length : Int) ≤ most ∧ Bytes d := by
  obtain ⟨d, l', e, a, b⟩ := data_eq N l most h1 h2 hN
  unfold wrackmake_Bytes
  rw [bindO_of e]
  exact ⟨d, rfl, a, b⟩

/-- k bytes of n -/
def leB (k n : Nat) : List Int := (List.range k).map fun j => ((n / 256 ^ j % 256 : Nat) : Int)

theorem leB_len (k n : Nat) : (leB k n).length = k := by simp [leB]

theorem leB_zero (n : Nat) : leB 0 n = [] := rfl

theorem leB_succ (k n : Nat) : leB (k + 1) n = leB k n ++ [((n / 256 ^ k % 256 : Nat) : Int)] := by
  simp [leB, List.range_succ]

theorem shr_nat (n i : Nat) (hi : i ≤ 8) : IntKind.wrap .u8 (shrI .i64 (n : Int) ((8 * i : Nat) : Int)) = ((n / 256 ^ i % 256 : Nat) : Int) := by
  rw [shrI_nat .i64 (8 * i) (by show 8 * i ≤ 64; omega), wu8_mod]
  have e : (2 : Int) ^ (8 * i) = ((256 ^ i : Nat) : Int) := by
    rw [Int.pow_mul, Int.natCast_pow]
    rfl
  rw [e, ← Int.natCast_ediv]
  omega

theorem bytes_eq (N : Nat) (n k : Nat) (hk : k ≤ 8) (hn : n < 4611686018427387904) (hN : 1048577 < N) : arch_bytes N (n : Int) (k : Int) = some (leB k n) := by
  unfold arch_bytes
  have e1 : ((k : Int)).toNat = k := Int.toNat_natCast k
  rw [gate_pos (by rw [Bool.and_eq_true]; exact ⟨by simp, room_of (by rw [e1]; omega) (by rw [e1]; omega)⟩)]
  simp only [e1, List.length_replicate]
  refine iter_rule (fun v => ∃ i : Nat, v = (leB i n ++ List.replicate (k - i) 0, (i : Int), ()) ∧ i ≤ k) (fun v => k - v.2.1.toNat) (fun o => o = some (leB k n)) ?_ N _ ⟨0, by simp [leB_zero], Nat.zero_le _⟩ (by simp only; omega)
  rintro v again ⟨i, rfl, hi⟩ hag
  unfold arch_bytes.s0
  simp only [decide_eq_true_eq]
  by_cases hlt : i < k
  · have e2 : (8 : Int) * (i : Int) = ((8 * i : Nat) : Int) := by omega
    have hl : (leB i n ++ List.replicate (k - i) (0 : Int)).length = k := by rw [List.length_append, leB_len, List.length_replicate]; omega
    have e3 : ((leB i n ++ List.replicate (k - i) (0 : Int)).length : Int) = (k : Int) := by rw [hl]
    rw [if_pos (by omega), e2, w64 (x := ((8 * i : Nat) : Int)) (by omega) (by omega), gate_pos (by simp; omega), e3, gate_pos (inR_of (by omega) (by omega)), gate_pos (inR_of (by omega) (by omega)), shr_nat n i (by omega), w64 (by omega) (by omega)]
    have e4 : (leB i n ++ List.replicate (k - i) (0 : Int)).set ((i : Int)).toNat ((n / 256 ^ i % 256 : Nat) : Int) = leB (i + 1) n ++ List.replicate (k - (i + 1)) 0 := by
      rw [Int.toNat_natCast, List.set_append_right _ _ (by rw [leB_len]; exact Nat.le_refl _), leB_len, Nat.sub_self]
      obtain ⟨m, hm⟩ : ∃ m, k - i = m + 1 := ⟨k - i - 1, by omega⟩
      have hm2 : k - (i + 1) = m := by omega
      rw [hm, hm2, List.replicate_succ, List.set_cons_zero, leB_succ]
      simp
    rw [e4]
    exact hag _ ⟨i + 1, by simp, by omega⟩ (by simp only; omega)
  · rw [if_neg (by omega)]
    have : i = k := by omega
    subst this
    simp

def storedI (d : List Int) : List Int := if (runs d).length < d.length then runs d else d

def wayI (d : List Int) : Int := if (runs d).length < d.length then 1 else 0

def entryI (x : List Int × List Int) : List Int :=
  [105, wayI x.2, IntKind.wrap .u8 (x.1.length : Int)] ++ x.1 ++ leB 2 x.2.length ++ leB 2 (storedI x.2).length ++ leB 4 (crcOf x.2).toNat ++ storedI x.2

theorem stored_len (d : List Int) : (storedI d).length ≤ d.length := by
  unfold storedI
  split <;> omega

theorem crc_nat (d : List Int) : ∃ c : Nat, crcOf d = (c : Int) ∧ c < 4294967296 ∧ (crcOf d).toNat = c := by
  obtain ⟨h1, h2⟩ := crcOf_bd d
  exact ⟨(crcOf d).toNat, by omega, by omega, rfl⟩

theorem entry_eq (N : Nat) (x : List Int × List Int) (hp : x.1.length ≤ 1048576) (hd : x.2.length ≤ 1048576) (hN : 1048577 < N) : arch_entry N x = some (entryI x) := by
  obtain ⟨p, d⟩ := x
  have hs := stored_len d
  obtain ⟨c, hc1, hc2, hc3⟩ := crc_nat d
  unfold arch_entry
  simp only at hp hd ⊢
  rw [bindO_of (pack_eq N d hd (by omega))]
  have hj : (if decide ((((runs d).length : Nat) : Int) < ((d.length : Nat) : Int)) = true then some ((1 : Int), runs d, p, d, ()) else some ((0 : Int), d, p, d, ()) : Option (Int × List Int × List Int × List Int × Unit)) = some (wayI d, storedI d, p, d, ()) := by
    unfold wayI storedI
    by_cases h : (runs d).length < d.length
    · rw [if_pos (by simpa using h), if_pos h, if_pos h]
    · rw [if_neg (by simpa using h), if_neg h, if_neg h]
  rw [bindO_of hj]
  simp only
  have b2 := bytes_eq N d.length 2 (by omega) (by omega) hN
  have b3 := bytes_eq N (storedI d).length 2 (by omega) (by omega) hN
  have b4 := bytes_eq N c 4 (by omega) (by omega) hN
  have h2 : ((2 : Nat) : Int) = 2 := rfl
  have h4 : ((4 : Nat) : Int) = 4 := rfl
  rw [h2] at b2 b3
  rw [h4] at b4
  rw [gate_pos (room_of (by simp; omega) (by simp; omega)), bindO_of b2, gate_pos (room_of (by simp [leB_len]; omega) (by simp [leB_len]; omega)), bindO_of b3, gate_pos (room_of (by simp [leB_len]; omega) (by simp [leB_len]; omega)), bindO_of (sumCrc_eq N d (by omega) (by omega) (by omega)), hc1, bindO_of b4,
    gate_pos (room_of (by simp [leB_len]; omega) (by simp [leB_len]; omega)), gate_pos (room_of (by simp [leB_len]; omega) (by simp [leB_len]; omega))]
  unfold entryI
  rw [hc3]

abbrev Itm := List Int × List Int

theorem itm_mem {l : List Itm} {i : Nat} (h : i < l.length) : l.getD i ([], []) ∈ l := by
  rw [List.getD_eq_getElem?_getD, List.getElem?_eq_getElem h]
  exact List.getElem_mem h

/-- is the path of the i-th there before it -/
def seenB (l : List Itm) (i : Nat) (p : List Int) : Bool := (l.take i).any fun x => decide (x.1 = p)

def itmAt (l : List Itm) (i : Nat) : Int :=
  if pathB (l.getD i ([], [])).1 = true then (if 2048 < (l.getD i ([], [])).2.length then 2 else if seenB l i (l.getD i ([], [])).1 = true then 7 else 0) else 6

def ResI (l : List Itm) (r : Int) : Prop :=
  (30 < l.length ∧ r = 9) ∨ (l.length ≤ 30 ∧ ((∃ i, i < l.length ∧ (∀ j, j < i → itmAt l j = 0) ∧ itmAt l i ≠ 0 ∧ r = itmAt l i) ∨ ((∀ j, j < l.length → itmAt l j = 0) ∧ r = 0)))

theorem resI_unique {l : List Itm} {r q : Int} (h1 : ResI l r) (h2 : ResI l q) : r = q := by
  rcases h1 with ⟨a1, a2⟩ | ⟨a1, a2⟩
  · rcases h2 with ⟨b1, b2⟩ | ⟨b1, b2⟩
    · rw [a2, b2]
    · omega
  · rcases h2 with ⟨b1, b2⟩ | ⟨b1, b2⟩
    · omega
    · rcases a2 with ⟨i, i1, i2, i3, i4⟩ | ⟨i1, i2⟩
      · rcases b2 with ⟨k, k1, k2, k3, k4⟩ | ⟨k1, k2⟩
        · have : i = k := by
            rcases Nat.lt_trichotomy i k with h | h | h
            · exact absurd (k2 i h) i3
            · exact h
            · exact absurd (i2 k h) k3
          subst this
          rw [i4, k4]
        · exact absurd (k1 i i1) i3
      · rcases b2 with ⟨k, k1, k2, k3, k4⟩ | ⟨k1, k2⟩
        · exact absurd (i1 k k1) k3
        · rw [i2, k2]

theorem twiceLoop {R : Type} (N : Nat) (s : R) (k0 : (List Int × List Int × Unit) → R) (kr : (List Int × List Int × Int × Unit) → R) (l : List Itm) (p q : List Int) (hl : l.length ≤ 1048576) (Q : R → Prop)
    (h0 : (l.any fun x => decide (x.1 = p)) = false → Q (k0 (p, q, ()))) (h1 : ∀ i : Nat, (l.any fun x => decide (x.1 = p)) = true → Q (kr (p, q, (i : Int), ()))) (n : Nat) (hn : l.length < n) :
    Q (iter (arch_Check_i0_slices_ContainsFunc_i0_slices_IndexFunc.s0 N s k0 kr (l, (l.length : Int), ())) s n (p, q, (0 : Int), ())) := by
  refine iter_rule (fun v => ∃ i : Nat, v = (p, q, (i : Int), ()) ∧ i ≤ l.length ∧ ∀ j, j < i → (l.getD j ([], [])).1 ≠ p) (fun v => l.length - v.2.2.1.toNat) Q ?_ n _ ⟨0, rfl, Nat.zero_le _, fun j hj => absurd hj (Nat.not_lt_zero _)⟩ (by simp only; omega)
  rintro v again ⟨i, rfl, hi, hall⟩ hag
  unfold arch_Check_i0_slices_ContainsFunc_i0_slices_IndexFunc.s0
  simp only [decide_eq_true_eq]
  by_cases hlt : i < l.length
  · rw [if_pos (by omega), gate_pos (inR_of (by omega) (by omega)), getI_nat]
    by_cases h : (l.getD i ([], [])).1 = p
    · rw [if_pos h]
      refine h1 i ?_
      rw [List.any_eq_true]
      exact ⟨_, itm_mem hlt, by simpa using h⟩
    · rw [if_neg h, w64 (by omega) (by omega)]
      refine hag _ ⟨i + 1, by simp, by omega, fun j hj => ?_⟩ (by simp only; omega)
      rcases Nat.lt_or_eq_of_le (Nat.le_of_lt_succ hj) with h2 | h2
      · exact hall j h2
      · subst h2; exact h
  · rw [if_neg (by omega)]
    refine h0 ?_
    rw [List.any_eq_false]
    intro e he
    obtain ⟨j, hj, rfl⟩ := List.getElem_of_mem he
    have := hall j (by omega)
    rw [List.getD_eq_getElem?_getD, List.getElem?_eq_getElem hj] at this
    simpa using this

theorem icut_take (l : List Itm) (i : Nat) : cut l (0 : Int) (i : Int) = l.take i := by
  have := cut_nat l 0 i (Nat.zero_le _)
  simpa using this

theorem icheck_res (N : Nat) (l : List Itm) (hp : ∀ e ∈ l, e.1.length ≤ 1048576) (hN : 1048577 < N) : ∃ r, arch_Check N l = some r ∧ ResI l r := by
  unfold arch_Check
  simp only [decide_eq_true_eq]
  by_cases h30 : 30 < l.length
  · rw [if_pos (by omega)]
    exact ⟨9, rfl, Or.inl ⟨h30, rfl⟩⟩
  · rw [if_neg (by omega)]
    refine iter_rule (fun v => ∃ i : Nat, v = ((i : Int), ()) ∧ i ≤ l.length ∧ ∀ j, j < i → itmAt l j = 0) (fun v => l.length - v.1.toNat)
      (fun o => ∃ r, o = some r ∧ ResI l r) ?_ N _ ⟨0, rfl, Nat.zero_le _, fun j hj => absurd hj (Nat.not_lt_zero _)⟩ (by simp only; omega)
    rintro v again ⟨i, rfl, hi, hall⟩ hag
    unfold arch_Check.s0
    simp only [decide_eq_true_eq]
    by_cases hlt : i < l.length
    · have stop : ∀ r : Int, itmAt l i = r → r ≠ 0 → ∃ q, (some r : Option Int) = some q ∧ ResI l q := fun r h1 h2 => ⟨r, rfl, Or.inr ⟨by omega, Or.inl ⟨i, hlt, hall, by rw [h1]; exact h2, h1.symm⟩⟩⟩
      have go : itmAt l i = 0 → ∃ q, again ((i : Int) + 1, ()) = some q ∧ ResI l q := fun h => hag _ ⟨i + 1, by simp, by omega, fun j hj => by
        rcases Nat.lt_or_eq_of_le (Nat.le_of_lt_succ hj) with h2 | h2
        · exact hall j h2
        · subst h2; exact h⟩ (by simp only; omega)
      rw [if_pos (by omega), gate_pos (inR_of (by omega) (by omega)), getI_nat, bindO_of (path_eq N _ (hp _ (itm_mem hlt)) hN)]
      by_cases hpb : pathB (l.getD i ([], [])).1 = true
      · rw [if_pos hpb, if_neg (by decide)]
        by_cases hb : 2048 < (l.getD i ([], [])).2.length
        · rw [if_pos (by omega)]
          exact stop 2 (by unfold itmAt; rw [if_pos hpb, if_pos hb]) (by decide)
        · rw [if_neg (by omega), gate_pos (bounds_of (by omega) (by omega) (by omega)), icut_take]
          refine twiceLoop N none _ _ (l.take i) _ _ (by rw [List.length_take]; omega) (fun o => ∃ q, o = some q ∧ ResI l q) (fun hno => ?_) (fun k hyes => ?_) N (by rw [List.length_take]; omega)
          · rw [if_neg (by decide), w64 (by omega) (by omega)]
            exact go (by unfold itmAt; rw [if_pos hpb, if_neg hb, if_neg (by unfold seenB; rw [hno]; decide)])
          · simp only
            rw [if_pos (by omega)]
            have hyes : seenB l i (l.getD i ([], [])).1 = true := hyes
            exact stop 7 (by unfold itmAt; rw [if_pos hpb, if_neg hb, if_pos hyes]) (by decide)
      · rw [if_neg hpb, if_pos (by decide)]
        exact stop 6 (by unfold itmAt; rw [if_neg hpb]) (by decide)
    · rw [if_neg (by omega)]
      exact ⟨0, rfl, Or.inr ⟨by omega, Or.inr ⟨fun j hj => hall j (by omega), rfl⟩⟩⟩

/-- the entries, one behind the other -/
def bodyI (l : List Itm) (i : Nat) : List Int := ((l.take i).map entryI).flatten

/-- where they begin -/
def offsI (l : List Itm) (i : Nat) : List Int := ((List.range i).map fun j => leB 3 (bodyI l j).length).flatten

def dirI' (l : List Itm) (i : Nat) : List Int := [100, IntKind.wrap .u8 (l.length : Int)] ++ offsI l i

def archiveI (l : List Itm) : List Int := bodyI l l.length ++ dirI' l l.length ++ [101] ++ leB 3 (bodyI l l.length).length ++ leB 4 (crcOf (dirI' l l.length)).toNat

theorem body_succ (l : List Itm) (i : Nat) (h : i < l.length) : bodyI l (i + 1) = bodyI l i ++ entryI (l.getD i ([], [])) := by
  unfold bodyI
  rw [List.take_add_one, List.getElem?_eq_getElem h, List.getD_eq_getElem?_getD, List.getElem?_eq_getElem h, List.map_append, List.flatten_append]
  simp only [Option.toList_some, List.map_cons, List.map_nil, List.flatten_cons, List.flatten_nil, List.append_nil, Option.getD_some]

theorem offs_succ (l : List Itm) (i : Nat) : offsI l (i + 1) = offsI l i ++ leB 3 (bodyI l i).length := by
  unfold offsI
  rw [List.range_succ, List.map_append, List.flatten_append]
  simp

theorem offs_len (l : List Itm) : ∀ i, (offsI l i).length = 3 * i := by
  intro i
  induction i with
  | zero => rfl
  | succ i ih => rw [offs_succ, List.length_append, ih, leB_len]; omega

theorem entry_len (x : Itm) : (entryI x).length ≤ 11 + x.1.length + x.2.length := by
  have := stored_len x.2
  unfold entryI
  simp only [List.length_append, leB_len, List.length_cons, List.length_nil]
  omega

theorem body_len (l : List Itm) (hp : ∀ e ∈ l, e.1.length ≤ 1048576) (hd : ∀ e ∈ l, e.2.length ≤ 2048) : ∀ i, i ≤ l.length → (bodyI l i).length ≤ i * 1050635 := by
  intro i
  induction i with
  | zero => intro _; exact Nat.le_refl _
  | succ i ih =>
    intro h
    have h1 := ih (by omega)
    have h2 := entry_len (l.getD i ([], []))
    have h3 := hp _ (itm_mem (by omega : i < l.length))
    have h4 := hd _ (itm_mem (by omega : i < l.length))
    rw [body_succ l i (by omega), List.length_append, Nat.add_mul]
    omega

theorem make_eq (N : Nat) (l : List Itm) (r : Int) (hc : arch_Check N l = some r) (h0 : r = 0 → l.length ≤ 30 ∧ ∀ e ∈ l, e.2.length ≤ 2048) (hp : ∀ e ∈ l, e.1.length ≤ 1048576) (hN : 1048577 < N) :
    arch_Make N l = some (if r = 0 then (if 65536 < (archiveI l).length then ([], 2) else (archiveI l, 0)) else ([], r)) := by
  unfold arch_Make
  rw [bindO_of hc]
  by_cases hr : r = 0
  · subst hr
    obtain ⟨hl, hd⟩ := h0 rfl
    rw [if_neg (by decide), if_pos rfl]
    simp only
    refine iter_rule (fun v => ∃ i : Nat, v = (bodyI l i, dirI' l i, (i : Int), ()) ∧ i ≤ l.length) (fun v => l.length - v.2.2.1.toNat) (fun o => o = some (if 65536 < (archiveI l).length then (([] : List Int), (2 : Int)) else (archiveI l, 0))) ?_ N _ ⟨0, by simp [bodyI, dirI', offsI], Nat.zero_le _⟩ (by simp only; omega)
    rintro v again ⟨i, rfl, hi⟩ hag
    unfold arch_Make.s0
    simp only [decide_eq_true_eq]
    have hb := body_len l hp hd i hi
    have hbi : i * 1050635 ≤ 30 * 1050635 := Nat.mul_le_mul_right _ (by omega)
    have ho := offs_len l i
    have hdl : (dirI' l i).length = 2 + 3 * i := by unfold dirI'; rw [List.length_append, ho]; rfl
    have h3 : ((3 : Nat) : Int) = 3 := rfl
    have h4 : ((4 : Nat) : Int) = 4 := rfl
    have b3 := bytes_eq N (bodyI l i).length 3 (by omega) (by omega) hN
    rw [h3] at b3
    by_cases hlt : i < l.length
    · have he := entry_eq N (l.getD i ([], [])) (hp _ (itm_mem hlt)) (by have := hd _ (itm_mem hlt); omega) hN
      have hel := entry_len (l.getD i ([], []))
      have e3 := hp _ (itm_mem hlt)
      have e4 := hd _ (itm_mem hlt)
      rw [if_pos (by omega), gate_pos (inR_of (by omega) (by omega)), bindO_of b3, gate_pos (room_of (by rw [hdl, leB_len]; omega) (by rw [hdl, leB_len]; omega)), getI_nat, bindO_of he, gate_pos (room_of (by omega) (by omega)), ← body_succ l i hlt, w64 (by omega) (by omega)]
      refine hag _ ⟨i + 1, ?_, by omega⟩ (by simp only; omega)
      unfold dirI'
      rw [offs_succ]
      simp
    · have : i = l.length := by omega
      subst this
      obtain ⟨c, hc1, hc2, hc3⟩ := crc_nat (dirI' l l.length)
      have b4 := bytes_eq N c 4 (by omega) (by omega) hN
      rw [h4] at b4
      rw [if_neg (by omega), gate_pos (room_of (by omega) (by omega)), gate_pos (room_of (by simp only [List.length_append, List.length_cons, List.length_nil]; omega) (by simp only [List.length_append, List.length_cons, List.length_nil]; omega)), bindO_of b3,
        gate_pos (room_of (by simp only [List.length_append, List.length_cons, List.length_nil, leB_len]; omega) (by simp only [List.length_append, List.length_cons, List.length_nil, leB_len]; omega)), bindO_of (sumCrc_eq N _ (by omega) (by omega) (by omega)), hc1, bindO_of b4,
        gate_pos (room_of (by simp only [List.length_append, List.length_cons, List.length_nil, leB_len]; omega) (by simp only [List.length_append, List.length_cons, List.length_nil, leB_len]; omega))]
      have ha : bodyI l l.length ++ dirI' l l.length ++ [101] ++ leB 3 (bodyI l l.length).length ++ leB 4 c = archiveI l := by
        unfold archiveI; rw [hc3]
      rw [ha]
      by_cases hbig : 65536 < (archiveI l).length
      · rw [if_pos (by omega), if_pos hbig]
      · rw [if_neg (by omega), if_neg hbig]
  · rw [if_pos (by simpa using hr), if_neg hr]

theorem num_le (n : Nat) : ∀ k, numB (leB k n) = n % 256 ^ k := by
  intro k
  induction k with
  | zero => rw [leB_zero]; simp [numB, Nat.mod_one]
  | succ k ih =>
    rw [leB_succ, numB_snoc, ih, leB_len, Nat.pow_succ, Nat.mod_mul, Int.toNat_natCast, Nat.mul_comm]

theorem leB_bytes (k n : Nat) : Bytes (leB k n) := by
  intro x hx
  obtain ⟨j, _, rfl⟩ := List.mem_map.1 hx
  omega

theorem unrun_go (many : Int) : ∀ (r : List Int) (m : Nat) (c : Int) (out : List Int), 1 ≤ m → m ≤ 255 → ((out.length + m + r.length : Nat) : Int) ≤ many → unrun many (runGo m c r) out = (out ++ List.replicate m c ++ r, 0) := by
  intro r
  induction r with
  | nil =>
    intro m c out h1 h2 h3
    simp only [List.length_nil, Nat.add_zero] at h3
    simp only [runGo, unrun]
    rw [if_neg (by omega), if_neg (by omega)]
    simp
  | cons x r ih =>
    intro m c out h1 h2 h3
    simp only [List.length_cons] at h3
    simp only [runGo]
    by_cases h : x = c ∧ m < 255
    · rw [if_pos h, ih (m + 1) c out (by omega) (by omega) (by omega), h.1, List.replicate_succ']
      simp
    · rw [if_neg h]
      simp only [unrun]
      rw [if_neg (by omega), if_neg (by omega), Int.toNat_natCast, ih 1 x _ (by omega) (by omega) (by simp; omega)]
      simp

theorem unrun_runs (d : List Int) : unrun (d.length : Int) (runs d) [] = (d, 0) := by
  cases d with
  | nil => rfl
  | cons x r =>
    simp only [runs]
    rw [unrun_go _ r 1 x [] (by omega) (by omega) (by simp; omega)]
    simp

theorem runGo_even : ∀ (r : List Int) (m : Nat) (c : Int), (runGo m c r).length % 2 = 0 := by
  intro r
  induction r with
  | nil => intro m c; simp [runGo]
  | cons x r ih =>
    intro m c
    simp only [runGo]
    split
    · exact ih _ _
    · have := ih 1 x
      simp only [List.length_cons]
      omega

theorem runs_even (d : List Int) : (runs d).length % 2 = 0 := by
  cases d with
  | nil => rfl
  | cons x r => exact runGo_even r 1 x

theorem runGo_bytes : ∀ (r : List Int) (m : Nat) (c : Int), m ≤ 255 → 0 ≤ c ∧ c < 256 → Bytes r → Bytes (runGo m c r) := by
  intro r
  induction r with
  | nil =>
    intro m c hm hc _ y hy
    simp only [runGo, List.mem_cons, List.not_mem_nil, or_false] at hy
    rcases hy with rfl | rfl
    · omega
    · exact hc
  | cons x r ih =>
    intro m c hm hc hr
    have hx := hr x (by simp)
    have hr' : Bytes r := fun y hy => hr y (by simp [hy])
    simp only [runGo]
    split
    · rename_i h
      exact ih _ _ (by omega) hc hr'
    · intro y hy
      simp only [List.mem_cons] at hy
      rcases hy with rfl | rfl | hy
      · omega
      · exact hc
      · exact ih 1 x (by omega) hx hr' y hy

theorem runs_bytes {d : List Int} (h : Bytes d) : Bytes (runs d) := by
  cases d with
  | nil => exact h
  | cons x r => exact runGo_bytes r 1 x (by omega) (h x (by simp)) fun y hy => h y (by simp [hy])

theorem stored_bytes {d : List Int} (h : Bytes d) : Bytes (storedI d) := by
  unfold storedI
  split
  · exact runs_bytes h
  · exact h

/-- the middle part -/
theorem part_mid (A B C : List Int) (lo n : Nat) (hlo : lo = A.length) (hn : n = B.length) : partB (A ++ (B ++ C)) lo n = B := by
  subst hlo; subst hn
  unfold partB
  rw [List.drop_left' rfl, List.take_left' rfl]

/-- a right entry -/
structure Good (x : Itm) : Prop where
  path : pathB x.1 = true
  plen : x.1.length ≤ 255
  dlen : x.2.length ≤ 2048
  pby : Bytes x.1
  dby : Bytes x.2

theorem entry_bytes {x : Itm} (h : Good x) : Bytes (entryI x) := by
  have hp := h.plen
  intro y hy
  unfold entryI at hy
  simp only [List.mem_append, List.mem_cons, List.not_mem_nil, or_false] at hy
  rcases hy with ((((hy | hy) | hy) | hy) | hy) | hy
  · rcases hy with rfl | rfl | rfl
    · omega
    · unfold wayI; split <;> omega
    · rw [wu8_mod]; omega
  · exact h.pby y hy
  · exact leB_bytes _ _ y hy
  · exact leB_bytes _ _ y hy
  · exact leB_bytes _ _ y hy
  · exact stored_bytes h.dby y hy

theorem entry_len' (x : Itm) : (entryI x).length = 11 + x.1.length + (storedI x.2).length := by
  unfold entryI
  simp only [List.length_append, leB_len, List.length_cons, List.length_nil]
  omega

/-- An entry that begins the bytes is read. -/
theorem item_back {x : Itm} (h : Good x) (rest : List Int) (a : Nat) : itemX (entryI x ++ rest) a = (x, ((a + (entryI x).length : Nat) : Int), 0) := by
  obtain ⟨p, d⟩ := x
  have h1 := h.path
  have h2 := h.plen
  have h3 := h.dlen
  have hst := stored_len d
  simp only at h1 h2 h3 hst
  obtain ⟨c, hc1, hc2, hc3⟩ := crc_nat d
  have hel := entry_len' (p, d)
  simp only at hel
  have hform : entryI (p, d) ++ rest = [105, wayI d, (p.length : Int)] ++ (p ++ (leB 2 d.length ++ (leB 2 (storedI d).length ++ (leB 4 c ++ (storedI d ++ rest))))) := by
    unfold entryI
    simp only
    rw [wu8 (by omega) (by omega), hc3]
    simp only [List.append_assoc]
  have hlen : (entryI (p, d) ++ rest).length = 11 + p.length + (storedI d).length + rest.length := by rw [List.length_append, hel]
  have g0 : (entryI (p, d) ++ rest).getD 0 0 = 105 := by rw [hform]; rfl
  have g1 : (entryI (p, d) ++ rest).getD 1 0 = wayI d := by rw [hform]; rfl
  have g2 : (entryI (p, d) ++ rest).getD 2 0 = (p.length : Int) := by rw [hform]; rfl
  have p1 : partB (entryI (p, d) ++ rest) 3 p.length = p := by
    rw [hform]; exact part_mid _ _ _ _ _ rfl rfl
  have p2 : partB (entryI (p, d) ++ rest) (3 + p.length) 2 = leB 2 d.length := by
    rw [hform, ← List.append_assoc]; exact part_mid _ _ _ _ _ (by simp; omega) (leB_len _ _).symm
  have p3 : partB (entryI (p, d) ++ rest) (5 + p.length) 2 = leB 2 (storedI d).length := by
    rw [hform, ← List.append_assoc, ← List.append_assoc]; exact part_mid _ _ _ _ _ (by simp [leB_len]; omega) (leB_len _ _).symm
  have p4 : partB (entryI (p, d) ++ rest) (7 + p.length) 4 = leB 4 c := by
    rw [hform, ← List.append_assoc, ← List.append_assoc, ← List.append_assoc]; exact part_mid _ _ _ _ _ (by simp [leB_len]; omega) (leB_len _ _).symm
  have p5 : partB (entryI (p, d) ++ rest) (11 + p.length) (storedI d).length = storedI d := by
    rw [hform, ← List.append_assoc, ← List.append_assoc, ← List.append_assoc, ← List.append_assoc]; exact part_mid _ _ _ _ _ (by simp [leB_len]; omega) rfl
  unfold itemX
  simp only [g0, g1, g2, hlen, Int.toNat_natCast, p1, p2, p3, p4, num_le]
  have m1 : d.length % 256 ^ 2 = d.length := Nat.mod_eq_of_lt (by omega)
  have m2 : (storedI d).length % 256 ^ 2 = (storedI d).length := Nat.mod_eq_of_lt (by omega)
  have m3 : c % 256 ^ 4 = c := Nat.mod_eq_of_lt (by omega)
  simp only [m1, m2, m3, p5]
  have hw : wayI d = 0 ∨ wayI d = 1 := by unfold wayI; split <;> omega
  have hs0 : wayI d = 0 → storedI d = d := by unfold wayI storedI; split <;> intro h <;> first | rfl | omega
  have hs1 : wayI d = 1 → storedI d = runs d := by unfold wayI storedI; split <;> intro h <;> first | rfl | omega
  rw [if_neg (by omega), if_neg, if_neg (by omega)]
  · rcases hw with hw | hw
    · rw [if_neg (by omega), hs0 hw, if_neg (by rw [hc1]; simp)]
      simp only [Prod.mk.injEq, true_and, and_true]
      rw [hel, hs0 hw]
      omega
    · have hu : (if (runs d).length % 2 = 1 then (([], 3) : List Int × Int) else unrun (d.length : Int) (runs d) []) = (d, 0) := by
        rw [if_neg (by have := runs_even d; omega), unrun_runs]
      rw [if_pos hw, hs1 hw, hu, if_neg (by simp), if_neg (by rw [hc1]; simp)]
      simp only [Prod.mk.injEq, true_and, and_true]
      rw [hel, hs1 hw]
      omega
  · rintro (h | h | h | h | h)
    · exact h rfl
    · omega
    · rw [h1] at h; cases h
    · omega
    · rw [hs0 h.1] at h; exact h.2 rfl

theorem part_part' (b : List Int) (lo n l m : Nat) (h : l + m ≤ n) : partB (partB b lo n) l m = partB b (lo + l) m := by
  unfold partB
  rw [List.drop_take, List.take_take, List.drop_drop, Nat.min_eq_left (by omega)]

theorem part_get' (b : List Int) (lo n i : Nat) (h : i < n) : (partB b lo n).getD i 0 = b.getD (lo + i) 0 := by
  unfold partB
  rw [List.getD_eq_getElem?_getD, List.getD_eq_getElem?_getD, List.getElem?_take_of_lt h, List.getElem?_drop]

def offAt (b : List Int) (a : Nat) : Nat → Int := fun k => ((numB (partB b (a + 2 + 3 * k) 3) : Nat) : Int)

def placesI (b : List Int) : List Int × Int × Int :=
  if 65536 < b.length then ([], 0, 2) else if b.length < 10 then ([], 0, 15) else
  let a := numB (partB b (b.length - 7) 3)
  if b.getD (b.length - 8) 0 ≠ 101 ∨ b.length < a + 10 ∨ b.getD a 0 ≠ 100 ∨ ((a + 2 : Nat) : Int) + 3 * b.getD (a + 1) 0 ≠ (b.length : Int) - 8 then ([], 0, 3)
  else if crcOf (partB b a (b.length - 8 - a)) ≠ ((numB (partB b (b.length - 4) 4) : Nat) : Int) then ([], 0, 13)
  else ((List.range (b.getD (a + 1) 0).toNat).map (offAt b a), (a : Int), 0)

theorem num3_lt {x : List Int} (h : Bytes x) (lo : Nat) : numB (partB x lo 3) < 16777216 := by
  have h1 := numB_lt _ (part_bytes h lo 3)
  have h2 : 256 ^ (partB x lo 3).length ≤ 256 ^ 3 := Nat.pow_le_pow_right (by decide) (partB_len x lo 3)
  have h2 : 256 ^ (partB x lo 3).length ≤ 16777216 := h2
  omega

theorem places_eq (N : Nat) (b : List Int) (hb : Bytes b) (hN : 1048577 < N) : arch_Places N b = some (placesI b) := by
  unfold arch_Places placesI
  simp only [decide_eq_true_eq]
  by_cases hbig : 65536 < b.length
  · rw [if_pos (by omega), if_pos hbig]
  rw [if_neg (by omega), if_neg hbig]
  by_cases hs : b.length < 10
  · rw [if_pos (by omega), if_pos hs]
  rw [if_neg (by omega), if_neg hs]
  have w8 : IntKind.wrap .i64 ((b.length : Int) - 8) = ((b.length - 8 : Nat) : Int) := by rw [w64 (by omega) (by omega)]; omega
  have w10 : IntKind.wrap .i64 ((b.length : Int) - 10) = ((b.length - 10 : Nat) : Int) := by rw [w64 (by omega) (by omega)]; omega
  have ct : cut b ((b.length - 8 : Nat) : Int) (b.length : Int) = partB b (b.length - 8) 8 := cut_part b (b.length - 8) 8 _ _ rfl (by omega)
  have hl8 : (partB b (b.length - 8) 8).length = 8 := partB_len' b _ _ (by omega)
  simp only [w8, w10, ct, hl8]
  have c1 : cut (partB b (b.length - 8) 8) (1 : Int) (4 : Int) = partB b (b.length - 7) 3 := by
    have h := cut_part (partB b (b.length - 8) 8) 1 3 1 4 rfl rfl
    rw [h, part_part' b _ _ _ _ (by omega)]
    congr 1
    omega
  have c2 : cut (partB b (b.length - 8) 8) (4 : Int) ((8 : Nat) : Int) = partB b (b.length - 4) 4 := by
    have h := cut_part (partB b (b.length - 8) 8) 4 4 4 ((8 : Nat) : Int) rfl rfl
    rw [h, part_part' b _ _ _ _ (by omega)]
    congr 1
    omega
  have g8 : getI (0 : Int) (partB b (b.length - 8) 8) 0 = b.getD (b.length - 8) 0 := by
    have h := getI_nat (0 : Int) (partB b (b.length - 8) 8) 0
    have h : getI (0 : Int) (partB b (b.length - 8) 8) 0 = _ := h
    rw [h, part_get' b _ _ _ (by omega)]; rfl
  have q1 := number_eq N _ (part_bytes hb (b.length - 7) 3) (Nat.le_trans (partB_len _ _ _) (by decide))
  have q2 := number_eq N _ (part_bytes hb (b.length - 4) 4) (Nat.le_trans (partB_len _ _ _) (by decide))
  have ha3 := num3_lt hb (b.length - 7)
  rw [gate_pos (bounds_of (by omega) (by omega) (by omega)), gate_pos (by decide), c1, bindO_of q1]
  generalize hA : numB (partB b (b.length - 7) 3) = a at *
  have e1 : (gate (inR 0 ((8 : Nat) : Int)) (if (!decide (getI (0 : Int) (partB b (b.length - 8) 8) 0 = 101)) = true then some true else some (decide ((a : Int) > ((b.length - 10 : Nat) : Int)))) none : Option Bool) = some (decide (b.getD (b.length - 8) 0 ≠ 101 ∨ b.length < a + 10)) := by
    rw [gate_pos (by decide), g8]
    generalize b.getD (b.length - 8) 0 = t
    by_cases c : t = 101
    · rw [if_neg (by simpa using c), Option.some.injEq, decide_eq_decide]
      omega
    · rw [if_pos (by simpa using c), decide_eq_true (Or.inl c)]
  rw [bindO_of e1]
  by_cases hbad1 : b.getD (b.length - 8) 0 ≠ 101 ∨ b.length < a + 10
  · rw [if_pos (decide_eq_true hbad1), if_pos (by rcases hbad1 with h | h; exact Or.inl h; exact Or.inr (Or.inl h))]
  rw [if_neg (by rw [decide_eq_false hbad1]; decide)]
  have hfit : a + 10 ≤ b.length := by
    by_cases c : b.length < a + 10
    · exact absurd (Or.inr c) hbad1
    · omega
  have h101 : b.getD (b.length - 8) 0 = 101 := by
    by_cases c : b.getD (b.length - 8) 0 = 101
    · exact c
    · exact absurd (Or.inl c) hbad1
  have cd : cut b (a : Int) ((b.length - 8 : Nat) : Int) = partB b a (b.length - 8 - a) := cut_part b a _ _ _ rfl (by omega)
  have hdl : (partB b a (b.length - 8 - a)).length = b.length - 8 - a := partB_len' b _ _ (by omega)
  have gd0 : getI (0 : Int) (partB b a (b.length - 8 - a)) 0 = b.getD a 0 := by
    have h := getI_nat (0 : Int) (partB b a (b.length - 8 - a)) 0
    have h : getI (0 : Int) (partB b a (b.length - 8 - a)) 0 = _ := h
    rw [h, part_get' b _ _ _ (by omega)]; rfl
  have gd1 : getI (0 : Int) (partB b a (b.length - 8 - a)) 1 = b.getD (a + 1) 0 := by
    have h := getI_nat (0 : Int) (partB b a (b.length - 8 - a)) 1
    have h : getI (0 : Int) (partB b a (b.length - 8 - a)) 1 = _ := h
    rw [h, part_get' b _ _ _ (by omega)]
  have hcnt := hb _ (getD_mem_b (show a + 1 < b.length by omega))
  rw [gate_pos (bounds_of (by omega) (by omega) (by omega)), cd, hdl, gd0, gd1]
  obtain ⟨cnt, hc⟩ := Int.eq_ofNat_of_zero_le hcnt.1
  rw [hc] at hcnt ⊢
  have w1 : IntKind.wrap .i64 (cnt : Int) = (cnt : Int) := w64 (by omega) (by omega)
  have w2 : IntKind.wrap .i64 ((3 : Int) * (cnt : Int)) = ((3 * cnt : Nat) : Int) := by rw [w64 (by omega) (by omega)]; omega
  have w3 : IntKind.wrap .i64 ((2 : Int) + ((3 * cnt : Nat) : Int)) = ((2 + 3 * cnt : Nat) : Int) := by rw [w64 (by omega) (by omega)]; omega
  simp only [w1, w2, w3, Int.toNat_natCast]
  have e2 : (gate (inR 0 ((b.length - 8 - a : Nat) : Int)) (if (!decide (b.getD a 0 = 100)) = true then some true else gate (inR 1 ((b.length - 8 - a : Nat) : Int)) (some (!decide (((b.length - 8 - a : Nat) : Int) = ((2 + 3 * cnt : Nat) : Int)))) none) none : Option Bool) = some (decide (b.getD a 0 ≠ 100 ∨ ((a + 2 : Nat) : Int) + 3 * (cnt : Int) ≠ (b.length : Int) - 8)) := by
    rw [gate_pos (inR_of (by omega) (by omega)), gate_pos (inR_of (by omega) (by omega))]
    generalize b.getD a 0 = t
    by_cases c : t = 100
    · rw [if_neg (by simpa using c)]
      by_cases d : b.length - 8 - a = 2 + 3 * cnt
      · have d1 : ((b.length - 8 - a : Nat) : Int) = ((2 + 3 * cnt : Nat) : Int) := by omega
        rw [decide_eq_true d1, decide_eq_false (by rintro (h | h); exact h c; exact h (by omega))]
        rfl
      · have d1 : ¬ ((b.length - 8 - a : Nat) : Int) = ((2 + 3 * cnt : Nat) : Int) := by omega
        rw [decide_eq_false d1, decide_eq_true (Or.inr (by omega))]
        rfl
    · rw [if_pos (by simpa using c), decide_eq_true (Or.inl c)]
  rw [bindO_of e2]
  by_cases hbad2 : b.getD a 0 ≠ 100 ∨ ((a + 2 : Nat) : Int) + 3 * (cnt : Int) ≠ (b.length : Int) - 8
  · rw [if_pos (decide_eq_true hbad2), if_pos (Or.inr (Or.inr hbad2))]
  have hok : ((a + 2 : Nat) : Int) + 3 * (cnt : Int) = (b.length : Int) - 8 := by
    by_cases c : ((a + 2 : Nat) : Int) + 3 * (cnt : Int) = (b.length : Int) - 8
    · exact c
    · exact absurd (Or.inr c) hbad2
  rw [if_neg (by rw [decide_eq_false hbad2]; decide), if_neg (by rintro (h | h | h); exact h h101; omega; exact hbad2 h)]
  rw [bindO_of (sumCrc_eq N _ (by rw [hdl]; omega) (by rw [hdl]; omega) (by omega)), gate_pos (by decide), c2, bindO_of q2]
  by_cases hcr : crcOf (partB b a (b.length - 8 - a)) = ((numB (partB b (b.length - 4) 4) : Nat) : Int)
  · rw [if_neg (by simpa using hcr), if_neg (by simpa using hcr), gate_pos (inR_of (by omega) (by omega))]
    refine iter_rule (fun v => ∃ i : Nat, v = ((List.range i).map (offAt b a), (i : Int), ()) ∧ i ≤ cnt) (fun v => cnt - v.2.1.toNat) (fun o => o = some ((List.range cnt).map (offAt b a), ((a : Int), (0 : Int)))) ?_ N _ ⟨0, rfl, Nat.zero_le _⟩ (by simp only; omega)
    rintro v again ⟨i, rfl, hi⟩ hag
    unfold arch_Places.s0
    simp only [decide_eq_true_eq]
    by_cases hlt : i < cnt
    · have x1 : IntKind.wrap .i64 ((3 : Int) * (i : Int)) = ((3 * i : Nat) : Int) := by rw [w64 (by omega) (by omega)]; omega
      have x2 : IntKind.wrap .i64 ((2 : Int) + ((3 * i : Nat) : Int)) = ((2 + 3 * i : Nat) : Int) := by rw [w64 (by omega) (by omega)]; omega
      have x5 : IntKind.wrap .i64 ((5 : Int) + ((3 * i : Nat) : Int)) = ((5 + 3 * i : Nat) : Int) := by rw [w64 (by omega) (by omega)]; omega
      have cx : cut (partB b a (b.length - 8 - a)) ((2 + 3 * i : Nat) : Int) ((5 + 3 * i : Nat) : Int) = partB b (a + 2 + 3 * i) 3 := by
        rw [cut_part _ (2 + 3 * i) 3 _ _ rfl (by omega), part_part' b _ _ _ _ (by omega)]
        congr 1
        omega
      have qx := number_eq N _ (part_bytes hb (a + 2 + 3 * i) 3) (Nat.le_trans (partB_len _ _ _) (by decide))
      rw [if_pos (by omega), x1, x2, x5, hdl, gate_pos (bounds_of (by omega) (by omega) (by omega)), cx, bindO_of qx, gate_pos (room_of (by simp; omega) (by simp; omega)), w64 (by omega) (by omega)]
      refine hag _ ⟨i + 1, ?_, by omega⟩ (by simp only; omega)
      rw [List.range_succ, List.map_append]
      rfl
    · rw [if_neg (by omega)]
      have : i = cnt := by omega
      subst this
      rfl
  · rw [if_pos (by simpa using hcr), if_pos hcr]

def chkN (N : Nat) (l : List Itm) : Int := (arch_Check N l).getD 0

theorem body_split (l : List Itm) : ∀ n k, k < n → n ≤ l.length → ∃ t, bodyI l n = bodyI l k ++ (entryI (l.getD k ([], [])) ++ t) := by
  intro n
  induction n with
  | zero => intro k h; omega
  | succ n ih =>
    intro k h1 h2
    rw [body_succ l n (by omega)]
    by_cases hk : k = n
    · subst hk
      exact ⟨[], by simp⟩
    · obtain ⟨t, ht⟩ := ih k (by omega) (by omega)
      exact ⟨t ++ entryI (l.getD n ([], [])), by rw [ht]; simp⟩

theorem offs_split (l : List Itm) : ∀ n k, k < n → ∃ t, offsI l n = offsI l k ++ (leB 3 (bodyI l k).length ++ t) := by
  intro n
  induction n with
  | zero => intro k h; omega
  | succ n ih =>
    intro k h1
    rw [offs_succ]
    by_cases hk : k = n
    · subst hk
      exact ⟨[], by simp⟩
    · obtain ⟨t, ht⟩ := ih k (by omega)
      exact ⟨t ++ leB 3 (bodyI l n).length, by rw [ht]; simp⟩

theorem body_mono (l : List Itm) (k n : Nat) (h : k ≤ n) (hn : n ≤ l.length) : (bodyI l k).length ≤ (bodyI l n).length := by
  rcases Nat.lt_or_eq_of_le h with h | h
  · obtain ⟨t, ht⟩ := body_split l n k h hn
    rw [ht, List.length_append]
    omega
  · rw [h]; exact Nat.le_refl _

theorem itemI_at {c A B : List Int} {x : Itm} (hx : Good x) (hc : c = A ++ (entryI x ++ B)) : itemI c A.length = (x, (((A ++ entryI x).length : Nat) : Int), 0) := by
  unfold itemI
  rw [if_neg (by rw [hc, List.length_append]; omega), hc, List.drop_left' rfl, item_back hx, List.length_append]

theorem body_bytes {l : List Itm} (hg : ∀ e ∈ l, Good e) : ∀ k, k ≤ l.length → Bytes (bodyI l k) := by
  intro k
  induction k with
  | zero => intro _ x hx; simp [bodyI] at hx
  | succ k ih =>
    intro hk x hx
    rw [body_succ l k (by omega)] at hx
    rcases List.mem_append.1 hx with hx | hx
    · exact ih (by omega) x hx
    · exact entry_bytes (hg _ (itm_mem (by omega))) x hx

theorem offs_bytes (l : List Itm) : ∀ k, Bytes (offsI l k) := by
  intro k
  induction k with
  | zero => intro x hx; simp [offsI] at hx
  | succ k ih =>
    intro x hx
    rw [offs_succ] at hx
    rcases List.mem_append.1 hx with hx | hx
    · exact ih x hx
    · exact leB_bytes _ _ x hx

theorem dir_bytes (l : List Itm) (k : Nat) : Bytes (dirI' l k) := by
  intro x hx
  unfold dirI' at hx
  simp only [List.mem_append, List.mem_cons, List.not_mem_nil, or_false] at hx
  rcases hx with (rfl | rfl) | hx
  · omega
  · rw [wu8_mod]; omega
  · exact offs_bytes l k x hx

theorem archive_bytes {l : List Itm} (hg : ∀ e ∈ l, Good e) : Bytes (archiveI l) := by
  intro x hx
  unfold archiveI at hx
  simp only [List.mem_append, List.mem_cons, List.not_mem_nil, or_false] at hx
  rcases hx with (((hx | hx) | rfl) | hx) | hx
  · exact body_bytes hg _ (Nat.le_refl _) x hx
  · exact dir_bytes _ _ x hx
  · omega
  · exact leB_bytes _ _ x hx
  · exact leB_bytes _ _ x hx

theorem archive_len (l : List Itm) : (archiveI l).length = (bodyI l l.length).length + (2 + 3 * l.length) + 8 := by
  unfold archiveI dirI'
  simp only [List.length_append, leB_len, List.length_cons, List.length_nil, offs_len]

/-- where the entries are: the places of an archive that was written -/
theorem places_back {l : List Itm} (hg : ∀ e ∈ l, Good e) (hl : l.length ≤ 30) (hb : (archiveI l).length ≤ 65536) :
    placesI (archiveI l) = ((List.range l.length).map (fun k => ((bodyI l k).length : Int)), ((bodyI l l.length).length : Int), 0) := by
  have hlen := archive_len l
  obtain ⟨c, hc1, hc2, hc3⟩ := crc_nat (dirI' l l.length)
  have hdl : (dirI' l l.length).length = 2 + 3 * l.length := by
    unfold dirI'; simp only [List.length_append, List.length_cons, List.length_nil, offs_len]
  have hform : archiveI l = bodyI l l.length ++ (dirI' l l.length ++ ([101] ++ (leB 3 (bodyI l l.length).length ++ (leB 4 c ++ [])))) := by
    unfold archiveI
    rw [hc3]
    simp only [List.append_assoc, List.append_nil]
  have p1 : partB (archiveI l) ((archiveI l).length - 7) 3 = leB 3 (bodyI l l.length).length := by
    rw [hlen, hform, ← List.append_assoc, ← List.append_assoc]
    exact part_mid _ _ _ _ _ (by simp only [List.length_append, hdl, List.length_cons, List.length_nil]; omega) (leB_len _ _).symm
  have p2 : partB (archiveI l) ((archiveI l).length - 4) 4 = leB 4 c := by
    rw [hlen, hform, ← List.append_assoc, ← List.append_assoc, ← List.append_assoc]
    exact part_mid _ _ _ _ _ (by simp only [List.length_append, hdl, leB_len, List.length_cons, List.length_nil]; omega) (leB_len _ _).symm
  have p3 : partB (archiveI l) (bodyI l l.length).length ((archiveI l).length - 8 - (bodyI l l.length).length) = dirI' l l.length := by
    rw [hlen, hform]
    exact part_mid _ _ _ _ _ rfl (by rw [hdl]; omega)
  have g8 : (archiveI l).getD ((archiveI l).length - 8) 0 = 101 := by
    rw [hlen, hform, ← List.append_assoc, List.getD_eq_getElem?_getD, List.getElem?_append_right (by simp only [List.length_append, hdl]; omega)]
    have : (bodyI l l.length).length + (2 + 3 * l.length) + 8 - 8 - (bodyI l l.length ++ dirI' l l.length).length = 0 := by simp only [List.length_append, hdl]; omega
    rw [this]
    rfl
  have ga : (archiveI l).getD (bodyI l l.length).length 0 = 100 := by
    rw [hform, List.getD_eq_getElem?_getD, List.getElem?_append_right (Nat.le_refl _), Nat.sub_self]
    rfl
  have gb : (archiveI l).getD ((bodyI l l.length).length + 1) 0 = (l.length : Int) := by
    rw [hform, List.getD_eq_getElem?_getD, List.getElem?_append_right (by omega), Nat.add_sub_cancel_left]
    show IntKind.wrap .u8 (l.length : Int) = _
    rw [wu8 (by omega) (by omega)]
  unfold placesI
  rw [if_neg (by omega), if_neg (by omega)]
  simp only [p1, p2, num_le]
  have m1 : (bodyI l l.length).length % 256 ^ 3 = (bodyI l l.length).length := Nat.mod_eq_of_lt (by omega)
  have m2 : c % 256 ^ 4 = c := Nat.mod_eq_of_lt (by omega)
  simp only [m1, m2, p3, g8, ga, gb]
  rw [if_neg (by omega), if_neg (by rw [hc1]; simp)]
  simp only [Prod.mk.injEq, true_and, and_true, Int.toNat_natCast]
  refine List.map_congr_left fun k hk => ?_
  have hk := List.mem_range.1 hk
  obtain ⟨t, ht⟩ := offs_split l l.length k hk
  have hmono := body_mono l k l.length (by omega) (Nat.le_refl _)
  have hp : partB (archiveI l) ((bodyI l l.length).length + 2 + 3 * k) 3 = leB 3 (bodyI l k).length := by
    have hd : dirI' l l.length = [100, IntKind.wrap .u8 (l.length : Int)] ++ (offsI l k ++ (leB 3 (bodyI l k).length ++ t)) := by
      unfold dirI'; rw [ht]
    have : archiveI l = (bodyI l l.length ++ ([100, IntKind.wrap .u8 (l.length : Int)] ++ offsI l k)) ++ (leB 3 (bodyI l k).length ++ (t ++ ([101] ++ (leB 3 (bodyI l l.length).length ++ (leB 4 c ++ []))))) := by
      rw [hform, hd]
      simp only [List.append_assoc]
    rw [this]
    exact part_mid _ _ _ _ _ (by simp only [List.length_append, offs_len, List.length_cons, List.length_nil]; omega) (leB_len _ _).symm
  unfold offAt
  rw [hp, num_le, Nat.mod_eq_of_lt (by omega)]

theorem archive_take (l : List Itm) : (archiveI l).take (bodyI l l.length).length = bodyI l l.length := by
  unfold archiveI
  simp only [List.append_assoc]
  rw [List.take_left' rfl]

/-- the i-th path -/
def drawnP (i : Nat) : List Int := [100, 47, 102, ((97 + i : Nat) : Int)]

structure Drawn (l : List Itm) : Prop where
  few : l.length ≤ 5
  path : ∀ i, i < l.length → (l.getD i ([], [])).1 = drawnP i
  small : ∀ e ∈ l, e.2.length ≤ 89 ∧ Bytes e.2

theorem items_ok (N : Nat) (l : List Int) (hN : 1048577 < N) : ∃ its, wrackkeep2_items N l = some its ∧ Drawn its := by
  unfold wrackkeep2_items
  obtain ⟨r1, l1, e1, a1, a2⟩ := next_eq N l 6 (by omega) (by omega)
  rw [bindO_of e1]
  simp only
  obtain ⟨n, rfl⟩ := Int.eq_ofNat_of_zero_le a1
  refine iter_rule (fun v => ∃ (rest : List Int) (out : List Itm), v = (out, (out.length : Int), rest, ()) ∧ out.length ≤ n ∧ Drawn out) (fun v => n - v.1.length)
    (fun r => ∃ its, r = some its ∧ Drawn its) ?_ N _ ⟨l1, [], rfl, by simp, by simp, fun i hi => absurd hi (by simp), fun e he => absurd he List.not_mem_nil⟩ (by simp; omega)
  rintro v again ⟨rest, out, rfl, ho, hd⟩ hag
  unfold wrackkeep2_items.s0
  simp only [decide_eq_true_eq]
  by_cases hlt : out.length < n
  · rw [if_pos (by omega), w64 (x := (97 : Int) + (out.length : Int)) (by omega) (by omega)]
    have e2 : IntKind.wrap .i32 (97 + (out.length : Int)) = ((97 + out.length : Nat) : Int) := by
      simp [IntKind.wrap, IntKind.bits, IntKind.signed]
      omega
    rw [e2]
    obtain ⟨q1, l2, f1, _, _⟩ := next_eq N rest 1000 (by omega) (by omega)
    obtain ⟨q2, l3, f2, _, _⟩ := next_eq N l2 1000 (by omega) (by omega)
    obtain ⟨q3, l4, f3, _, _⟩ := next_eq N l3 1000 (by omega) (by omega)
    obtain ⟨q4, l5, f4, _, _⟩ := next_eq N l4 1000 (by omega) (by omega)
    obtain ⟨q5, l6, f5, b1, b2⟩ := next_eq N l5 90 (by omega) (by omega)
    obtain ⟨d, f6, b3, b4⟩ := mbytes_eq N [q1, q2, q3, q4] q5 (by omega) (by omega) hN
    rw [g_dec (by omega), g_dec (by simp), bindO_of f1]
    simp only
    rw [bindO_of f2]
    simp only
    rw [bindO_of f3]
    simp only
    rw [bindO_of f4]
    simp only
    rw [bindO_of f5]
    simp only
    rw [bindO_of f6, gate_pos (room_of (by simp; omega) (by simp; omega)), w64 (by omega) (by omega)]
    refine hag _ ⟨l6, out ++ [(drawnP out.length, d)], ?_, by simp; omega, by simp; omega, fun i hi => ?_, fun e he => ?_⟩ (by simp; omega)
    · simp [drawnP]
    · simp only [List.length_append, List.length_cons, List.length_nil] at hi
      by_cases h : i < out.length
      · rw [List.getD_eq_getElem?_getD, List.getElem?_append_left h, ← List.getD_eq_getElem?_getD]; exact hd.path i h
      · have : i = out.length := by omega
        subst this
        simp
    · rcases List.mem_append.1 he with he | he
      · exact hd.small e he
      · simp only [List.mem_cons, List.not_mem_nil, or_false] at he
        subst he
        exact ⟨by simp only; omega, b4⟩
  · rw [if_neg (by omega)]
    exact ⟨out, rfl, hd⟩

theorem drawnP_ok (i : Nat) (h : i < 5) : pathB (drawnP i) = true ∧ Bytes (drawnP i) := by
  refine ⟨?_, fun x hx => ?_⟩
  · match i, h with
    | 0, _ => decide
    | 1, _ => decide
    | 2, _ => decide
    | 3, _ => decide
    | 4, _ => decide
  · simp only [drawnP, List.mem_cons, List.not_mem_nil, or_false] at hx
    rcases hx with rfl | rfl | rfl | rfl <;> omega

theorem Drawn.at {l : List Itm} (h : Drawn l) {e : Itm} (he : e ∈ l) : ∃ i, i < l.length ∧ l.getD i ([], []) = e ∧ e.1 = drawnP i := by
  obtain ⟨i, hi, rfl⟩ := List.getElem_of_mem he
  refine ⟨i, hi, by simp [List.getD_eq_getElem?_getD, hi], ?_⟩
  have := h.path i hi
  simpa [List.getD_eq_getElem?_getD, hi] using this

theorem Drawn.good {l : List Itm} (h : Drawn l) : ∀ e ∈ l, Good e := by
  intro e he
  obtain ⟨i, hi, _, hp⟩ := h.at he
  have hs := h.small e he
  have hf := h.few
  obtain ⟨p1, p2⟩ := drawnP_ok i (by omega)
  refine ⟨by rw [hp]; exact p1, by rw [hp]; simp [drawnP], by omega, by rw [hp]; exact p2, hs.2⟩

theorem Drawn.check {N : Nat} {l : List Itm} (h : Drawn l) (hN : 1048577 < N) : arch_Check N l = some 0 ∧ chkN N l = 0 := by
  have hg := h.good
  have hpl : ∀ e ∈ l, e.1.length ≤ 1048576 := fun e he => by have := (hg e he).plen; omega
  obtain ⟨r, h1, h2⟩ := icheck_res N l hpl hN
  have h3 : ResI l 0 := by
    have := h.few
    refine Or.inr ⟨by omega, Or.inr ⟨fun j hj => ?_, rfl⟩⟩
    have hm := itm_mem hj
    have g := hg _ hm
    have gd := g.dlen
    unfold itmAt
    rw [if_pos g.path, if_neg (by omega), if_neg]
    unfold seenB
    rw [Bool.not_eq_true, List.any_eq_false]
    intro x hx
    simp only [decide_eq_true_eq]
    intro e
    obtain ⟨k, hk, rfl⟩ := List.getElem_of_mem hx
    rw [List.length_take] at hk
    have e1 := h.path k (by omega)
    have e2 := h.path j hj
    rw [List.getElem_take] at e
    have e3 : (l.getD k ([], [])).1 = (l.getD j ([], [])).1 := by
      rw [← e]
      simp [List.getD_eq_getElem?_getD, show k < l.length by omega]
    rw [e1, e2] at e3
    simp only [drawnP, List.cons.injEq, true_and, and_true] at e3
    omega
  have h4 := resI_unique h2 h3
  subst h4
  refine ⟨h1, ?_⟩
  unfold chkN
  rw [h1]
  rfl

theorem body_le (l : List Itm) (B : Nat) (hB : ∀ e ∈ l, 11 + e.1.length + e.2.length ≤ B) : ∀ i, i ≤ l.length → (bodyI l i).length ≤ i * B := by
  intro i
  induction i with
  | zero => intro _; simp [bodyI]
  | succ i ih =>
    intro h
    have h1 := ih (by omega)
    have h2 := entry_len (l.getD i ([], []))
    have h3 := hB _ (itm_mem (by omega : i < l.length))
    rw [body_succ l i (by omega), List.length_append, Nat.add_mul]
    omega

theorem Drawn.len {l : List Itm} (h : Drawn l) : (bodyI l l.length).length ≤ 520 ∧ (archiveI l).length ≤ 545 := by
  have hb := body_le l 104 (fun e he => by
    obtain ⟨i, hi, _, hp⟩ := h.at he
    have := h.small e he
    rw [hp]
    simp only [drawnP, List.length_cons, List.length_nil]
    omega) l.length (Nat.le_refl _)
  have hf := h.few
  have := archive_len l
  omega

theorem Drawn.make {N : Nat} {l : List Itm} (h : Drawn l) (hN : 1048577 < N) : arch_Make N l = some (archiveI l, 0) := by
  have hg := h.good
  have hpl : ∀ e ∈ l, e.1.length ≤ 1048576 := fun e he => by have := (hg e he).plen; omega
  have hf := h.few
  have hl := h.len
  rw [make_eq N l 0 (h.check hN).1 (fun _ => ⟨by omega, fun e he => (hg e he).dlen⟩) hpl hN, if_pos rfl, if_neg (by omega)]

theorem Drawn.places {l : List Itm} (h : Drawn l) : placesI (archiveI l) = ((List.range l.length).map (fun k => ((bodyI l k).length : Int)), ((bodyI l l.length).length : Int), 0) := by
  have hf := h.few
  have hl := h.len
  exact places_back h.good (by omega) (by omega)

theorem packs_eq (N : Nat) (hN : 1048577 < N) : wrackkeep2_packs N = some true := by
  unfold wrackkeep2_packs
  rw [bindO_of (pack_eq N [(7 : Int), (7 : Int), (7 : Int)] (by decide) (by omega))]
  have e : runs [(7 : Int), 7, 7] = [3, 7] := by decide
  rw [e, bindO_of (equal_eq N _ _ (by decide) (by simp only [List.length_cons, List.length_nil]; omega))]
  rfl

theorem ksameOne_eq (N : Nat) (a b : Itm) (ha : a.2.length ≤ 1048576) (hN : 1048577 < N) : wrackkeep2_sameItems_1 N a b = some (decide (a = b)) := by
  obtain ⟨a1, a2⟩ := a
  obtain ⟨b1, b2⟩ := b
  unfold wrackkeep2_sameItems_1
  simp only [decide_eq_true_eq]
  simp only at ha
  by_cases h1 : a1 = b1
  · rw [if_pos h1, bindO_of (equal_eq N a2 b2 (by omega) (by omega))]
    simp [bindO, h1]
  · rw [if_neg h1]
    simp [bindO, h1]

theorem ksame_eq (N : Nat) (a b : List Itm) (ha : a.length ≤ 1048576) (hd : ∀ e ∈ a, e.2.length ≤ 1048576) (hN : 1048577 < N) : wrackkeep2_sameItems N a b = some (decide (a = b)) := by
  unfold wrackkeep2_sameItems
  simp only [Bool.not_eq_true', decide_eq_false_iff_not]
  by_cases hl : a.length = b.length
  · rw [if_neg (by omega)]
    refine iter_rule (fun v => ∃ i : Nat, v = ((i : Int), ()) ∧ i ≤ a.length ∧ ∀ j, j < i → a.getD j ([], []) = b.getD j ([], [])) (fun v => a.length - v.1.toNat)
      (fun o => o = some (decide (a = b))) ?_ N _ ⟨0, rfl, Nat.zero_le _, fun j hj => absurd hj (Nat.not_lt_zero _)⟩ (by simp only; omega)
    rintro v again ⟨i, rfl, hi, hall⟩ hag
    unfold wrackkeep2_sameItems_i0_slices_EqualFunc.s0
    simp only [decide_eq_true_eq]
    by_cases hlt : i < a.length
    · rw [if_pos (by omega), gate_pos (inR_of (by omega) (by omega)), gate_pos (inR_of (by omega) (by omega)), getI_nat, getI_nat, bindO_of (ksameOne_eq N _ _ (hd _ (itm_mem hlt)) hN)]
      by_cases h : a.getD i ([], []) = b.getD i ([], [])
      · rw [decide_eq_true h, if_neg (by decide), w64 (by omega) (by omega)]
        refine hag _ ⟨i + 1, by simp, by omega, fun j hj => ?_⟩ (by simp only; omega)
        rcases Nat.lt_or_eq_of_le (Nat.le_of_lt_succ hj) with h1 | h1
        · exact hall j h1
        · subst h1; exact h
      · rw [decide_eq_false h, if_pos (by rfl)]
        simp only [Option.some.injEq, Bool.false_eq, decide_eq_false_iff_not]
        exact fun e => h (by rw [e])
    · rw [if_neg (by omega)]
      have : a = b := List.ext_getElem hl fun j h1 h2 => by
        have := hall j (by omega)
        rw [List.getD_eq_getElem?_getD, List.getElem?_eq_getElem h1, List.getD_eq_getElem?_getD, List.getElem?_eq_getElem h2] at this
        exact this
      simp [this]
  · rw [if_pos (by omega)]
    simp only [Option.some.injEq, Bool.false_eq, decide_eq_false_iff_not]
    exact fun e => hl (by rw [e])

theorem part_take (e : List Int) (m lo n : Nat) (h : lo + n ≤ m) : partB (e.take m) lo n = partB e lo n := by
  unfold partB
  rw [List.drop_take, List.take_take]
  congr 1
  omega

theorem getD_take (e : List Int) (m i : Nat) (h : i < m) : (e.take m).getD i 0 = e.getD i 0 := by
  rw [List.getD_eq_getElem?_getD, List.getElem?_take_of_lt h, ← List.getD_eq_getElem?_getD]

/-- the beginning of an entry is too short -/
theorem item_short {x : Itm} (h : Good x) (m a : Nat) (hm : m < (entryI x).length) : itemX ((entryI x).take m) a = (([], []), 0, 15) := by
  obtain ⟨p, d⟩ := x
  have h1 := h.path
  have h2 := h.plen
  have h3 := h.dlen
  have hst := stored_len d
  simp only at h1 h2 h3 hst
  obtain ⟨c, hc1, hc2, hc3⟩ := crc_nat d
  have hel := entry_len' (p, d)
  simp only at hel
  have hform : entryI (p, d) = [105, wayI d, (p.length : Int)] ++ (p ++ (leB 2 d.length ++ (leB 2 (storedI d).length ++ (leB 4 c ++ (storedI d ++ []))))) := by
    unfold entryI
    simp only
    rw [wu8 (by omega) (by omega), hc3]
    simp only [List.append_assoc, List.append_nil]
  have hlen : ((entryI (p, d)).take m).length = m := by rw [List.length_take]; omega
  have g0 : (entryI (p, d)).getD 0 0 = 105 := by rw [hform]; rfl
  have g1 : (entryI (p, d)).getD 1 0 = wayI d := by rw [hform]; rfl
  have g2 : (entryI (p, d)).getD 2 0 = (p.length : Int) := by rw [hform]; rfl
  unfold itemX
  rw [hlen]
  by_cases hm3 : m < 3
  · rw [if_pos (Or.inl hm3)]
  rw [getD_take _ _ 2 (by omega), getD_take _ _ 0 (by omega), getD_take _ _ 1 (by omega), g0, g1, g2]
  by_cases hm11 : (m : Int) < 11 + (p.length : Int)
  · rw [if_pos (Or.inr hm11)]
  rw [if_neg (by omega)]
  simp only [Int.toNat_natCast]
  have p1 : partB (entryI (p, d)) 3 p.length = p := by
    rw [hform]; exact part_mid _ _ _ _ _ rfl rfl
  have p2 : partB (entryI (p, d)) (3 + p.length) 2 = leB 2 d.length := by
    rw [hform, ← List.append_assoc]; exact part_mid _ _ _ _ _ (by simp; omega) (leB_len _ _).symm
  have p3 : partB (entryI (p, d)) (5 + p.length) 2 = leB 2 (storedI d).length := by
    rw [hform, ← List.append_assoc, ← List.append_assoc]; exact part_mid _ _ _ _ _ (by simp [leB_len]; omega) (leB_len _ _).symm
  rw [part_take _ _ _ _ (by omega), part_take _ _ _ _ (by omega), part_take _ _ _ _ (by omega), p1, p2, p3, num_le, num_le]
  have m1 : d.length % 256 ^ 2 = d.length := Nat.mod_eq_of_lt (by omega)
  have m2 : (storedI d).length % 256 ^ 2 = (storedI d).length := Nat.mod_eq_of_lt (by omega)
  rw [m1, m2]
  have hw : wayI d = 0 ∨ wayI d = 1 := by unfold wayI; split <;> omega
  have hs0 : wayI d = 0 → storedI d = d := by unfold wayI storedI; split <;> intro h <;> first | rfl | omega
  rw [if_neg, if_pos (by omega)]
  rintro (h | h | h | h | h)
  · exact h rfl
  · omega
  · rw [h1] at h; cases h
  · omega
  · rw [hs0 h.1] at h; exact h.2 rfl

theorem Drawn.take {l : List Itm} (h : Drawn l) (k : Nat) : Drawn (l.take k) := by
  refine ⟨by have := h.few; rw [List.length_take]; omega, fun i hi => ?_, fun e he => h.small e (List.mem_of_mem_take he)⟩
  rw [List.length_take] at hi
  rw [List.getD_eq_getElem?_getD, List.getElem?_take_of_lt (by omega), ← List.getD_eq_getElem?_getD]
  exact h.path i (by omega)

theorem scan_cut {N : Nat} {l : List Itm} (h : Drawn l) (c w : Nat) (hc : c ≤ (bodyI l l.length).length) (hw : w ≤ l.length) (h1 : (bodyI l w).length ≤ c) (h2 : w < l.length → c < (bodyI l (w + 1)).length) (hN : 1048577 < N) :
    arch_Scan N ((bodyI l l.length).take c) = some (l.take w, (((bodyI l w).length : Nat) : Int), 15) := by
  have hf := h.few
  have hl := h.len
  have hg := h.good
  have hxl : ((bodyI l l.length).take c).length = c := by rw [List.length_take]; omega
  have hby : Bytes ((bodyI l l.length).take c) := fun x hx => body_bytes hg _ (Nat.le_refl _) x (List.mem_of_mem_take hx)
  unfold arch_Scan
  simp only [decide_eq_true_eq]
  rw [if_neg (by rw [hxl]; omega)]
  refine iter_rule (fun v => ∃ k : Nat, v = (l.take k, ((bodyI l k).length : Int), ()) ∧ k ≤ w) (fun v => w - v.1.length)
    (fun r => r = some (l.take w, (((bodyI l w).length : Nat) : Int), 15)) ?_ N _ ⟨0, by simp [bodyI], Nat.zero_le _⟩ (by simp only [List.length_nil]; omega)
  rintro v again ⟨k, rfl, hk⟩ hag
  unfold arch_Scan.s0
  simp only
  have hm1 := body_mono l k w hk hw
  rw [bindO_of (one_eq N _ (bodyI l k).length hby (by rw [hxl]; omega) (by omega) hN)]
  by_cases hlt : k < w
  · have hb : ∃ t, (bodyI l l.length).take c = bodyI l k ++ (entryI (l.getD k ([], [])) ++ t) := by
      have hm2 := body_mono l (k + 1) w hlt hw
      have hs := body_succ l k (by omega)
      obtain ⟨t, ht⟩ := body_split l l.length k (by omega) (Nat.le_refl _)
      refine ⟨t.take (c - (bodyI l (k + 1)).length), ?_⟩
      rw [ht, ← List.append_assoc, ← hs, List.take_append, List.take_of_length_le (by omega), hs, List.append_assoc]
    obtain ⟨t, ht⟩ := hb
    rw [itemI_at (hg _ (itm_mem (by omega))) ht, ← body_succ l k (by omega)]
    have hcut : cut (l.take k) (0 : Int) ((l.take k).length : Int) = l.take k := cut_all _
    have htk : l.take k ++ [l.getD k ([], [])] = l.take (k + 1) := by
      rw [List.take_add_one, List.getElem?_eq_getElem (by omega), List.getD_eq_getElem?_getD, List.getElem?_eq_getElem (by omega)]
      rfl
    have hlk : (l.take k).length = k := by rw [List.length_take]; omega
    simp only [hcut, htk, decide_true, Bool.not_true, Bool.false_eq_true, if_false]
    rw [gate_pos (by rw [bounds_of (by omega) (by omega) (by omega)]; rfl), gate_pos (by rw [room_of (by rw [hlk]; simp; omega) (by rw [hlk]; simp; omega)]; simp), bindO_of ((h.take (k + 1)).check hN).1]
    simp only [decide_true, Bool.not_true, Bool.false_eq_true, if_false]
    rw [gate_pos (room_of (by rw [hlk]; simp; omega) (by rw [hlk]; simp; omega))]
    exact hag _ ⟨k + 1, rfl, hlt⟩ (by simp only [List.length_take]; omega)
  · have : k = w := by omega
    subst this
    have hi : itemI ((bodyI l l.length).take c) (bodyI l k).length = (([], []), 0, 15) := by
      unfold itemI
      rw [if_neg (by rw [hxl]; omega)]
      by_cases hn : k < l.length
      · have h2 := h2 hn
        obtain ⟨t, ht⟩ := body_split l l.length k hn (Nat.le_refl _)
        have hs := body_succ l k hn
        rw [hs, List.length_append] at h2
        have : ((bodyI l l.length).take c).drop (bodyI l k).length = (entryI (l.getD k ([], []))).take (c - (bodyI l k).length) := by
          rw [ht, List.drop_take, List.drop_left' rfl, List.take_append_of_le_length (by omega)]
        rw [this]
        exact item_short (hg _ (itm_mem hn)) _ _ (by omega)
      · have : k = l.length := by omega
        subst this
        rw [List.drop_of_length_le (by omega)]
        rfl
    rw [hi]
    simp

theorem archEnds_true (N : Nat) (l : List Int) (k : Int) (hN : 1048577 < N) : wrackkeep2_ArchEnds N l k = some true := by
  obtain ⟨its, h1, hd⟩ := items_ok N l hN
  have hf := hd.few
  have hlen := hd.len
  have hg := hd.good
  have hal := archive_len its
  have hs : ∀ e ∈ its, e.2.length ≤ 1048576 := fun e he => by have := hd.small e he; omega
  have hp := places_eq N (archiveI its) (archive_bytes hg) hN
  rw [hd.places] at hp
  unfold wrackkeep2_ArchEnds
  rw [bindO_of h1, bindO_of (hd.make hN)]
  simp only
  rw [bindO_of hp, packs_eq N hN]
  simp only [b_some, decide_true, Bool.not_true, Bool.false_eq_true, if_false, List.length_map, List.length_range]
  rw [w64 (by omega) (by omega), bindO_of (below_eq N k _ (by omega) (by omega))]
  obtain ⟨c, hc⟩ := Int.eq_ofNat_of_zero_le (Int.emod_nonneg k (show (((bodyI its its.length).length : Nat) : Int) + 1 ≠ 0 by omega))
  have hc2 := Int.emod_lt_of_pos k (show (0 : Int) < ((bodyI its its.length).length : Nat) + 1 by omega)
  rw [hc] at hc2 ⊢
  have hcl : c ≤ (bodyI its its.length).length := by omega
  have hat : ∀ j, j < its.length → ((List.range its.length).map (fun k => ((bodyI its k).length : Int))).getD j 0 = ((bodyI its j).length : Int) := fun j hj => by
    rw [List.getD_eq_getElem?_getD]
    simp [hj]
  refine iter_rule (fun v => ∃ i w : Nat, v = (its, archiveI its, (List.range its.length).map (fun k => ((bodyI its k).length : Int)), (w : Int), (i : Int), ()) ∧ i ≤ its.length ∧ w ≤ i ∧ (bodyI its w).length ≤ c ∧ ∀ j, j < i → (bodyI its (j + 1)).length ≤ c → j + 1 ≤ w)
    (fun v => its.length - v.2.2.2.2.1.toNat) (fun r => r = some true) ?_ N _ ⟨0, 0, rfl, Nat.zero_le _, Nat.le_refl _, by simp [bodyI], fun j hj => absurd hj (Nat.not_lt_zero _)⟩ (by simp only; omega)
  rintro v again ⟨i, w, rfl, hi, hwi, hwc, hall⟩ hag
  unfold wrackkeep2_ArchEnds.s0
  simp only [decide_eq_true_eq, List.length_map, List.length_range]
  by_cases hlt : i < its.length
  · rw [if_pos (by omega), w64 (x := (i : Int) + 1) (by omega) (by omega)]
    have hnext : ∀ {X : Type} (f : Int → Option X), (bindO (if ((i : Int) + 1 < (its.length : Int)) then gate (inR ((i : Int) + 1) (its.length : Int)) (gate (inR ((i : Int) + 1) (its.length : Int)) (some (its, archiveI its, (List.range its.length).map (fun k => ((bodyI its k).length : Int)), getI 0 ((List.range its.length).map (fun k => ((bodyI its k).length : Int))) ((i : Int) + 1), ())) none) none else some (its, archiveI its, (List.range its.length).map (fun k => ((bodyI its k).length : Int)), ((bodyI its its.length).length : Int), ()) : Option (List Itm × List Int × List Int × Int × Unit)) (fun j => f j.2.2.2.1) none) = f ((bodyI its (i + 1)).length : Int) := by
      intro X f
      by_cases hl : i + 1 < its.length
      · rw [if_pos (by omega), gate_pos (inR_of (by omega) (by omega)), gate_pos (inR_of (by omega) (by omega)), b_some]
        have e : (i : Int) + 1 = ((i + 1 : Nat) : Int) := by omega
        rw [e, getI_nat, hat _ hl]
      · rw [if_neg (by omega), b_some]
        have : its.length = i + 1 := by omega
        rw [this]
    have hj : ∀ {X : Type} (o : Option (List Itm × List Int × List Int × Int × Unit)) (F : List Itm × List Int × List Int × Int × Unit → Option X), (∀ j, o = some j → j.1 = its ∧ j.2.1 = archiveI its ∧ j.2.2.1 = (List.range its.length).map (fun k => ((bodyI its k).length : Int))) → bindO o F none = bindO o (fun j => F (its, archiveI its, (List.range its.length).map (fun k => ((bodyI its k).length : Int)), j.2.2.2.1, ())) none := by
      intro X o F h
      cases o with
      | none => rfl
      | some j =>
        obtain ⟨a1, a2, a3⟩ := h j rfl
        obtain ⟨j1, j2, j3, j4, j5⟩ := j
        simp only at a1 a2 a3
        subst a1; subst a2; subst a3
        rfl
    rw [hj]
    · rw [hnext (fun nx => if nx ≤ (c : Int) then again (its, archiveI its, (List.range its.length).map (fun k => ((bodyI its k).length : Int)), (i : Int) + 1, (i : Int) + 1, ()) else again (its, archiveI its, (List.range its.length).map (fun k => ((bodyI its k).length : Int)), (w : Int), (i : Int) + 1, ()))]
      by_cases hle : (bodyI its (i + 1)).length ≤ c
      · rw [if_pos (by omega)]
        refine hag _ ⟨i + 1, i + 1, rfl, by omega, Nat.le_refl _, hle, fun j hj _ => by omega⟩ (by simp only; omega)
      · rw [if_neg (by omega)]
        refine hag _ ⟨i + 1, w, rfl, by omega, by omega, hwc, fun j hj hjc => ?_⟩ (by simp only; omega)
        rcases Nat.lt_or_eq_of_le (Nat.le_of_lt_succ hj) with h | h
        · exact hall j h hjc
        · subst h; exact absurd hjc hle
    · intro j hj
      split at hj
      · rw [gate_pos (inR_of (by omega) (by omega)), gate_pos (inR_of (by omega) (by omega))] at hj
        cases hj
        exact ⟨rfl, rfl, rfl⟩
      · cases hj
        exact ⟨rfl, rfl, rfl⟩
  · rw [if_neg (by omega)]
    have : i = its.length := by omega
    subst this
    have hcut : cut (archiveI its) (0 : Int) (c : Int) = (bodyI its its.length).take c := by
      rw [cut0]
      conv => lhs; rw [show archiveI its = bodyI its its.length ++ (archiveI its).drop (bodyI its its.length).length by conv => lhs; rw [← List.take_append_drop (bodyI its its.length).length (archiveI its), archive_take]]
      rw [List.take_append_of_le_length hcl]
    rw [gate_pos (bounds_of (by omega) (by omega) (by omega)), hcut, bindO_of (scan_cut hd c w hcl hwi hwc (fun hw => by
      by_cases h : c < (bodyI its (w + 1)).length
      · exact h
      · exact absurd (hall w hw (by omega)) (by omega)) hN)]
    simp only [decide_true, if_true]
    rw [gate_pos (bounds_of (by omega) (by omega) (by omega)), cut0, bindO_of (ksame_eq N _ _ (by rw [List.length_take]; omega) (fun e he => hs e (List.mem_of_mem_take he)) hN)]
    simp [b_some]

end Go.Proofs.YteekijpcdcpjkaaDoor
