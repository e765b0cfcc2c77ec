/-
  PLAIN LAW: pictures read: the program's Read and the reference's PictureOf come to the same.
-/
import Derived.Test.YteekijpcdcpjkaaPuPix
import Derived.Test.YteekijpcdcpjkaaPuRepeat
set_option linter.unusedVariables false
set_option linter.unusedSimpArgs false
namespace Go.Proofs.Yteekijpcdcpjkaa
open Go Go.Ab

/-! ### slices.Equal over whole numbers -/
theorem equalInt_loop {R : Type} (N : Nat) (s : R) (k0 : Unit → R) (kr : (Bool × Unit) → R) (xs ys : List Int) (hl : xs.length = ys.length) (hx : xs.length ≤ 140737488355328) (Q : R → Prop) (h0 : xs = ys → Q (k0 ())) (h1 : xs ≠ ys → Q (kr (false, ())))
    (n : Nat) (hn : xs.length < n) : Q (iter (slices_Equal_int.s0 N s k0 kr (xs, ys, (xs.length : Int), ())) s n ((0 : Int), ())) := by
  refine iter_rule (fun v => ∃ i : Nat, v = ((i : Int), ()) ∧ i ≤ xs.length ∧ ∀ j, j < i → xs.getD j 0 = ys.getD j 0) (fun v => xs.length - v.1.toNat) Q ?_ n _ ⟨0, rfl, Nat.zero_le _, fun j hj => absurd hj (Nat.not_lt_zero _)⟩ (by simpa using hn)
  rintro v again ⟨i, rfl, hi, hall⟩ hag
  unfold slices_Equal_int.s0
  simp only [decide_eq_true_eq]
  by_cases hlt : i < xs.length
  · rw [if_pos (by omega), gate_pos (inR_of (by omega) (by omega)), gate_pos (inR_of (by omega) (by omega))]
    rw [getI_nat, getI_nat]
    by_cases he : xs.getD i 0 = ys.getD i 0
    · rw [if_neg (by simpa using he), w64 (by omega) (by omega)]
      refine hag _ ⟨i + 1, by simp, by omega, fun j hj => ?_⟩ (by simp; omega)
      rcases Nat.lt_or_eq_of_le (Nat.le_of_lt_succ hj) with h | h
      · exact hall j h
      · subst h; exact he
    · rw [if_pos (by simpa using he)]
      exact h1 fun h => he (by rw [h])
  · rw [if_neg (by omega)]
    refine h0 (List.ext_getElem hl fun j h1 h2 => ?_)
    have := hall j (by omega)
    simpa [h1, h2] using this

theorem equalInt_eq (N : Nat) (xs ys : List Int) (hx : xs.length ≤ 140737488355328) (hN : xs.length < N) : slices_Equal_int N xs ys = some (decide (xs = ys)) := by
  unfold slices_Equal_int
  simp only [Bool.not_eq_true', decide_eq_false_iff_not]
  by_cases hl : xs.length = ys.length
  · rw [if_neg (by omega)]
    exact equalInt_loop N none _ _ xs ys hl hx (fun r => r = some (decide (xs = ys))) (fun h => by simp [h]) (fun h => by simp [h]) N hN
  · rw [if_pos (by omega)]
    simp only [Option.some.injEq, Bool.false_eq, decide_eq_false_iff_not]
    exact fun h => hl (by rw [h])

/-! ### the dots of a row -/
def rowDots (b : List Int) : List Int := b.flatMap fun c => List.replicate (c / 16 + 1).toNat (c % 16)

theorem low4 {c : Int} (h1 : 0 ≤ c) (h2 : c < 256) : bitAnd .u8 c 15 = c % 16 := by
  obtain ⟨n, rfl⟩ := Int.eq_ofNat_of_zero_le h1
  unfold bitAnd
  have e : (BitVec.ofInt (IntKind.bits .u8) (n : Int) &&& BitVec.ofInt (IntKind.bits .u8) 15).toNat = n % 16 := by
    show (BitVec.ofInt 8 (n : Int) &&& BitVec.ofInt 8 15).toNat = n % 16
    rw [BitVec.toNat_and]
    have a : (BitVec.ofInt 8 (n : Int)).toNat = n := by simp; omega
    have b : (BitVec.ofInt 8 15).toNat = 2 ^ 4 - 1 := by decide
    rw [a, b, Nat.and_two_pow_sub_one_eq_mod]
  rw [e, wu8 (by omega) (by omega)]
  omega

theorem rowDots_len : ∀ (b : List Int), (∀ x ∈ b, 0 ≤ x ∧ x < 256) → (rowDots b).length ≤ 16 * b.length := by
  intro b
  induction b with
  | nil => intro _; simp [rowDots]
  | cons c r ih =>
    intro h
    have h1 := ih fun x hx => h x (List.mem_cons_of_mem _ hx)
    have h2 := h c List.mem_cons_self
    simp only [rowDots, List.flatMap_cons, List.length_append, List.length_replicate, List.length_cons] at h1 ⊢
    omega
theorem rowDots_take (b : List Int) (i : Nat) (h : i < b.length) : rowDots (b.take (i + 1)) = rowDots (b.take i) ++ List.replicate (b[i] / 16 + 1).toNat (b[i] % 16) := by
  unfold rowDots
  rw [List.take_succ_eq_append_getElem h, List.flatMap_append]
  congr 1
  simp

theorem dots_eq (N : Nat) (b : List Int) (wide : Int) (hb : b.length ≤ 1000) (hN : 1048577 < N) (hby : ∀ x ∈ b, 0 ≤ x ∧ x < 256) : pix_dots N b wide = some (rowDots b, decide (((rowDots b).length : Int) = wide)) := by
  unfold pix_dots
  refine iter_rule (fun v => ∃ i : Nat, v = (rowDots (b.take i), (i : Int), ()) ∧ i ≤ b.length) (fun v => b.length - v.2.1.toNat) (fun r => r = some (rowDots b, decide (((rowDots b).length : Int) = wide))) ?_ N _ ⟨0, rfl, Nat.zero_le _⟩ (by simp; omega)
  rintro v again ⟨i, rfl, hi⟩ hag
  unfold pix_dots.s0
  simp only [decide_eq_true_eq]
  by_cases hlt : i < b.length
  · rw [if_pos (by omega), gate_pos (inR_of (by omega) (by omega)), gate_pos (by decide), getI_get hlt]
    have hbi := hby b[i] (List.getElem_mem _)
    have sh : shrI .u8 b[i] 4 = b[i] / 16 := shrI_nat .u8 4 (by decide)
    rw [low4 hbi.1 hbi.2, sh, w64 (x := b[i] / 16) (by omega) (by omega), w64 (x := b[i] / 16 + 1) (by omega) (by omega)]
    have hrep := repeat_eq N (b[i] % 16) (b[i] / 16 + 1).toNat (by omega) (by omega)
    have e2 : (((b[i] / 16 + 1).toNat : Nat) : Int) = b[i] / 16 + 1 := by omega
    rw [e2] at hrep
    have hl := rowDots_len (b.take i) fun x hx => hby x (List.mem_of_mem_take hx)
    have hl2 : (b.take i).length ≤ 1000 := by simp; omega
    rw [bindO_of hrep, gate_pos (room_of (by simp; omega) (by simp; omega)), w64 (x := (i : Int) + 1) (by omega) (by omega)]
    exact hag _ ⟨i + 1, by rw [rowDots_take b i hlt]; rfl, by omega⟩ (by simp; omega)
  · rw [if_neg (by omega)]
    rw [List.take_of_length_le (by omega)]

theorem ref_dot {R : Type} (N : Nat) (s : R) (k4 : (List Int × List Int × Int × Int × Int × Int × List Int × Unit) → R) (rest v75 bad dots m1l : List Int) (y nn c v50 v51 v76 v77 a1 a2 a3 a4 : Int) (c1 : 0 ≤ c) (c2 : c < 256) (hd : dots.length ≤ 1000000) (Q : R → Prop)
    (hk : Q (k4 (bad, dots ++ List.replicate (c / 16 + 1).toNat (c % 16), a1, a2, a3, a4, m1l, ()))) (n : Nat) (hn : 16 < n) :
    Q (iter (wrackref2_PictureOf.s2 N s k4 (rest, y, nn, c, v50, v51, v75, v76, v77, c / 16 + 1, ())) s n (bad, dots, (0 : Int), a1, a2, a3, a4, m1l, ())) := by
  refine iter_rule (fun v => ∃ j : Nat, v = (bad, dots ++ List.replicate j (c % 16), (j : Int), a1, a2, a3, a4, m1l, ()) ∧ (j : Int) ≤ c / 16 + 1) (fun v => (c / 16 + 1).toNat - v.2.2.1.toNat) Q ?_ n _ ⟨0, by simp, by omega⟩ (by simp; omega)
  rintro v again ⟨j, rfl, hj⟩ hag
  unfold wrackref2_PictureOf.s2
  simp only [decide_eq_true_eq]
  by_cases hlt : (j : Int) < c / 16 + 1
  · rw [if_pos hlt, gate_pos (by decide), gate_pos (room_of (by simp; omega) (by simp; omega)), Int.tmod_eq_emod_of_nonneg c1, wu8 (by omega) (by omega)]
    refine hag _ ⟨j + 1, ?_, by omega⟩ (by simp; omega)
    simp [List.replicate_succ']
  · rw [if_neg hlt]
    have : j = (c / 16 + 1).toNat := by omega
    subst this
    exact hk

theorem ref_row {R : Type} (N : Nat) (s : R) (k2 : (List Int × List Int × Int × Int × Int × Int × List Int × Unit) → R) (rest seg bad m1l : List Int) (y nn v50 v51 a1 a2 a3 a4 : Int) (hs : seg.length ≤ 1000) (hN : 1048577 < N) (hby : ∀ x ∈ seg, 0 ≤ x ∧ x < 256) (Q : R → Prop)
    (hk : Q (k2 (bad, rowDots seg, a1, a2, a3, a4, m1l, ()))) (n : Nat) (hn : 1000 < n) :
    Q (iter (wrackref2_PictureOf.s1 N s k2 (rest, y, nn, v50, v51, seg, (seg.length : Int), ())) s n (bad, [], (0 : Int), a1, a2, a3, a4, m1l, ())) := by
  refine iter_rule (fun v => ∃ i : Nat, v = (bad, rowDots (seg.take i), (i : Int), a1, a2, a3, a4, m1l, ()) ∧ i ≤ seg.length) (fun v => seg.length - v.2.2.1.toNat) Q ?_ n _ ⟨0, rfl, by omega⟩ (by simp; omega)
  rintro v again ⟨i, rfl, hi⟩ hag
  unfold wrackref2_PictureOf.s1
  simp only [decide_eq_true_eq]
  by_cases hlt : i < seg.length
  · have hbi := hby seg[i] (List.getElem_mem _)
    have hl := rowDots_len (seg.take i) fun x hx => hby x (List.mem_of_mem_take hx)
    have hl2 : (seg.take i).length ≤ 1000 := by simp; omega
    rw [if_pos (by omega), gate_pos (inR_of (by omega) (by omega)), gate_pos (by decide), getI_get hlt, Int.tdiv_eq_ediv_of_nonneg hbi.1, wu8 (x := seg[i] / 16) (by omega) (by omega), wu8 (x := seg[i] / 16 + 1) (by omega) (by omega)]
    refine ref_dot N s _ rest seg bad (rowDots (seg.take i)) m1l y nn seg[i] v50 v51 (seg.length : Int) (i : Int) a1 a2 a3 a4 hbi.1 hbi.2 (by omega) Q ?_ N (by omega)
    simp only
    rw [w64 (by omega) (by omega)]
    exact hag _ ⟨i + 1, by rw [rowDots_take seg i hlt]; rfl, by omega⟩ (by simp; omega)
  · rw [if_neg (by omega)]
    rw [List.take_of_length_le (by omega)]
    exact hk

/-! ### row by row -/
def readGo (w : Int) : Nat → Int → List Int → List Int → List Int → Option (List Int × List Int × List Int)
  | 0, _, rest, bad, dots => some (rest, bad, dots)
  | k + 1, y, rest, bad, dots =>
    if rest.length = 0 ∨ (rest.length : Int) < 2 + rest.getD 0 0 then none
    else if ((rowDots ((rest.drop 1).take (rest.getD 0 0).toNat)).length : Int) ≠ w ∨ crcOf (rest.take (1 + rest.getD 0 0).toNat) % 256 ≠ rest.getD (1 + rest.getD 0 0).toNat 0 then
      readGo w k (y + 1) (rest.drop (2 + rest.getD 0 0).toNat) (bad ++ [y]) (dots ++ List.replicate w.toNat 0)
    else readGo w k (y + 1) (rest.drop (2 + rest.getD 0 0).toNat) bad (dots ++ rowDots ((rest.drop 1).take (rest.getD 0 0).toNat))

def readFin (w h : Int) : Option (List Int × List Int × List Int) → (Int × Int × List Int) × List Int × Int
  | none => ((0, (0, [])), ([], 15))
  | some (rest, bad, dots) => if 0 < rest.length then ((0, (0, [])), ([], 3)) else ((w, (h, dots)), (bad, 0))

def readPic (b : List Int) : (Int × Int × List Int) × List Int × Int :=
  if b.length < 5 then ((0, (0, [])), ([], 15))
  else if b.take 3 ≠ [112, 105, 120] ∨ b.getD 3 0 < 1 ∨ b.getD 3 0 > 64 ∨ b.getD 4 0 < 1 ∨ b.getD 4 0 > 64 then ((0, (0, [])), ([], 3))
  else readFin (b.getD 3 0) (b.getD 4 0) (readGo (b.getD 3 0) (b.getD 4 0).toNat 0 (b.drop 5) [] [])

theorem readGo_bad (w : Int) : ∀ (k : Nat) (y : Int) (rest bad dots : List Int) (r : List Int × List Int × List Int), readGo w k y rest bad dots = some r → r.2.1.length ≤ bad.length + k := by
  intro k
  induction k with
  | zero => intro y rest bad dots r h; simp only [readGo, Option.some.injEq] at h; subst h; simp
  | succ k ih =>
    intro y rest bad dots r h
    simp only [readGo] at h
    split at h
    · cases h
    · split at h
      · have := ih _ _ _ _ _ h; simp at this; omega
      · have := ih _ _ _ _ _ h; omega

theorem getD_mem {xs : List Int} {i : Nat} (h : i < xs.length) : xs.getD i 0 ∈ xs := by
  rw [List.getD_eq_getElem?_getD, List.getElem?_eq_getElem h]; exact List.getElem_mem _

theorem read_loop (N : Nat) (b : List Int) (w h : Nat) (w1 : 1 ≤ w) (w2 : w ≤ 64) (h2 : h ≤ 64) (hN : 1048577 < N) (hby : ∀ x ∈ b, 0 ≤ x ∧ x < 256) (k0 : (Int × List Int × Int × Int × Int × Int × List Int × Unit) → Option ((Int × Int × List Int) × List Int × Int)) (kr : (Int × Int × Int × Unit) → Option ((Int × Int × List Int) × List Int × Int))
    (hb5 : 5 ≤ b.length) (e0 : ∀ (at_ : Nat) bad dots, at_ ≤ b.length → k0 ((at_ : Int), bad, 0, 0, (w : Int), (h : Int), dots, ()) = some (readFin w h (some (b.drop at_, bad, dots)))) (er : kr (15, 0, 0, ()) = some (readFin w h none)) :
    iter (pix_Read.s0 N none k0 kr (b, (h : Int), ())) none N ((5 : Int), [], (0 : Int), (0 : Int), (0 : Int), (w : Int), (h : Int), [], ()) = some (readFin w h (readGo w h 0 (b.drop 5) [] [])) := by
  refine iter_rule (fun v => ∃ (at_ y : Nat) (bad dots : List Int), v = ((at_ : Int), bad, (y : Int), 0, 0, (w : Int), (h : Int), dots, ()) ∧ y ≤ h ∧ at_ ≤ b.length ∧ at_ ≤ 5 + 257 * y ∧ bad.length ≤ y ∧ dots.length ≤ 64 * y ∧ readGo w h 0 (b.drop 5) [] [] = readGo w (h - y) y (b.drop at_) bad dots)
    (fun v => h - v.2.2.1.toNat) (fun r => r = some (readFin w h (readGo w h 0 (b.drop 5) [] []))) ?_ N _ ⟨5, 0, [], [], rfl, by omega, hb5, by omega, by simp, by simp, rfl⟩ (by simp; omega)
  rintro v again ⟨at_, y, bad, dots, rfl, hy, hat, hat2, hbad, hdots, hr⟩ hag
  unfold pix_Read.s0
  simp only [decide_eq_true_eq]
  by_cases hlt : y < h
  · rw [if_pos (by omega)]
    rw [show h - y = (h - (y + 1)) + 1 by omega] at hr
    simp only [readGo] at hr
    have hdl : (b.drop at_).length = b.length - at_ := by simp
    have hg : ∀ i : Nat, (b.drop at_).getD i 0 = b.getD (at_ + i) 0 := fun i => by simp [List.getD_eq_getElem?_getD]
    by_cases he : at_ < b.length
    · have ha := hby _ (getD_mem he)
      have hg0 : (b.drop at_).getD 0 0 = b.getD at_ 0 := hg 0
      obtain ⟨n, hn⟩ : ∃ n : Nat, b.getD at_ 0 = (n : Int) := ⟨(b.getD at_ 0).toNat, by omega⟩
      have gI : getI (0 : Int) b (at_ : Int) = (n : Int) := by rw [getI_nat]; exact hn
      rw [hg0, hn] at hr
      rw [hn] at ha
      rw [gI, gate_pos (inR_of (by omega) (by omega))]
      rw [w64 (x := (n : Int)) (by omega) (by omega), w64 (x := (at_ : Int) + 2) (by omega) (by omega), w64 (x := (at_ : Int) + 2 + (n : Int)) (by omega) (by omega)]
      by_cases hs : (at_ : Int) + 2 + (n : Int) > (b.length : Int)
      · have hb2 : (if (at_ : Int) ≥ (b.length : Int) then some true else some (decide ((at_ : Int) + 2 + (n : Int) > (b.length : Int)))) = some true := by
          rw [if_neg (by omega)]; simpa using hs
        rw [bindO_of hb2, if_pos rfl, er]
        rw [if_pos (by right; rw [hdl]; omega)] at hr
        rw [hr]
      · have hb2 : (if (at_ : Int) ≥ (b.length : Int) then some true else some (decide ((at_ : Int) + 2 + (n : Int) > (b.length : Int)))) = some false := by
          rw [if_neg (by omega)]; simpa using hs
        rw [bindO_of hb2, if_neg (by simp)]
        rw [if_neg (by rw [hdl]; omega)] at hr
        rw [w64 (x := (at_ : Int) + 1) (by omega) (by omega), w64 (x := (at_ : Int) + 1 + (n : Int)) (by omega) (by omega)]
        rw [gate_pos (inR_of (by omega) (by omega)), gate_pos (bounds_of (by omega) (by omega) (by omega))]
        have ec : cut b ((at_ : Int) + 1) ((at_ : Int) + 1 + (n : Int)) = ((b.drop at_).drop 1).take n := by
          have := cut_nat b (at_ + 1) (at_ + 1 + n) (by omega)
          have e1 : ((at_ + 1 : Nat) : Int) = (at_ : Int) + 1 := by omega
          have e2 : ((at_ + 1 + n : Nat) : Int) = (at_ : Int) + 1 + (n : Int) := by omega
          rw [e1, e2] at this
          rw [this, List.drop_drop]
          congr 1
          omega
        have ec2 : cut b (at_ : Int) ((at_ : Int) + 1 + (n : Int)) = (b.drop at_).take (1 + n) := by
          have := cut_nat b at_ (at_ + 1 + n) (by omega)
          have e2 : ((at_ + 1 + n : Nat) : Int) = (at_ : Int) + 1 + (n : Int) := by omega
          rw [e2] at this
          rw [this]
          congr 1
          omega
        have hseg : ∀ x ∈ ((b.drop at_).drop 1).take n, 0 ≤ x ∧ x < 256 := fun x hx => hby x (List.mem_of_mem_drop (List.mem_of_mem_drop (List.mem_of_mem_take hx)))
        have hsl : (((b.drop at_).drop 1).take n).length ≤ 255 := by simp; omega
        have hdl2 := rowDots_len _ hseg
        have hend : getI (0 : Int) b ((at_ : Int) + 1 + (n : Int)) = b.getD (at_ + (1 + n)) 0 := by
          have e2 : (at_ : Int) + 1 + (n : Int) = ((at_ + (1 + n) : Nat) : Int) := by omega
          rw [e2, getI_nat]
        have en : ((n : Int)).toNat = n := by omega
        have en1 : (1 + (n : Int)).toNat = 1 + n := by omega
        have en2 : (2 + (n : Int)).toNat = 2 + n := by omega
        rw [en, en1, en2, hg, List.drop_drop] at hr
        rw [ec, bindO_of (dots_eq N _ (w : Int) (by omega) hN hseg), ec2, hend]
        simp only
        have hcl : ((b.drop at_).take (1 + n)).length ≤ 256 := by simp; omega
        have hcrc := crcOf_bd ((b.drop at_).take (1 + n))
        have hu8 : IntKind.wrap .u8 (crcOf ((b.drop at_).take (1 + n))) = crcOf ((b.drop at_).take (1 + n)) % 256 := wu8_mod _
        generalize hc : crcOf ((b.drop at_).take (1 + n)) % 256 = cc at hr hu8
        generalize hl : rowDots (((b.drop at_).drop 1).take n) = l at hr hdl2
        generalize hz : b.getD (at_ + (1 + n)) 0 = z at hr
        rw [List.drop_drop] at hl
        rw [hl] at *
        have htest : (if (!decide ((l.length : Int) = (w : Int))) = true then some true else gate (bounds (b.length : Int) (at_ : Int) ((at_ : Int) + 1 + (n : Int))) (bindO (sum_Crc N ((b.drop at_).take (1 + n))) (fun r99 => gate (inR ((at_ : Int) + 1 + (n : Int)) (b.length : Int)) (some (!decide (IntKind.wrap .u8 r99 = z))) none) none) none) = some (decide ((l.length : Int) ≠ (w : Int) ∨ cc ≠ z)) := by
          by_cases h1 : (l.length : Int) = (w : Int)
          · rw [if_neg (by simpa using h1), gate_pos (bounds_of (by omega) (by omega) (by omega)), bindO_of (sumCrc_eq N _ (by omega) (by omega) (by omega)), gate_pos (inR_of (by omega) (by omega)), hu8]
            simp [h1]
          · rw [if_pos (by simpa using h1)]; simp [h1]
        rw [bindO_of htest]
        rw [w64 (x := (at_ : Int) + 1 + (n : Int) + 1) (by omega) (by omega), w64 (x := (y : Int) + 1) (by omega) (by omega)]
        have e3 : (at_ : Int) + 1 + (n : Int) + 1 = ((at_ + (2 + n) : Nat) : Int) := by omega
        have e4 : ((y : Int) + 1) = ((y + 1 : Nat) : Int) := by omega
        by_cases hw : (l.length : Int) ≠ (w : Int) ∨ cc ≠ z
        · rw [if_pos hw] at hr
          rw [if_pos (by simpa using hw), gate_pos (by simp [room_of (n := w) (b := 1) (by omega) (by omega)]), gate_pos (room_of (by simp; omega) (by simp; omega)), bindO_of rfl]
          simp only
          rw [gate_pos (room_of (by simp; omega) (by simp; omega)), e3, e4]
          rw [e4] at hr
          refine hag _ ⟨at_ + (2 + n), y + 1, bad ++ [(y : Int)], dots ++ List.replicate w 0, by simp, by omega, by omega, by omega, by simp; omega, by simp; omega, ?_⟩ (by simp; omega)
          rw [hr]; simp
        · rw [if_neg hw] at hr
          have hwl : l.length = w := by
            have : (l.length : Int) = (w : Int) := Decidable.not_not.1 fun h => hw (Or.inl h)
            omega
          rw [if_neg (by simpa using hw), bindO_of rfl]
          simp only
          rw [gate_pos (room_of (by omega) (by omega)), e3, e4]
          rw [e4, List.drop_drop] at hr
          exact hag _ ⟨at_ + (2 + n), y + 1, bad, dots ++ l, rfl, by omega, by omega, by omega, by omega, by simp; omega, hr⟩ (by simp; omega)
    · have hb2 : (if (at_ : Int) ≥ (b.length : Int) then some true else gate (inR (at_ : Int) (b.length : Int)) (some (decide (IntKind.wrap .i64 (IntKind.wrap .i64 ((at_ : Int) + 2) + IntKind.wrap .i64 (getI (0 : Int) b (at_ : Int))) > (b.length : Int)))) none) = some true := by
        rw [if_pos (by omega)]
      rw [bindO_of hb2, if_pos rfl, er]
      rw [if_pos (by left; rw [hdl]; omega)] at hr
      rw [hr]
  · rw [if_neg (by omega)]
    have hyh : y = h := by omega
    subst hyh
    rw [Nat.sub_self] at hr
    simp only [readGo] at hr
    rw [e0 at_ bad dots hat, hr]

theorem take3 (b : List Int) : cut b 0 3 = b.take 3 := by
  have := cut_nat b 0 3 (by omega)
  simpa using this

theorem read_eq (N : Nat) (b : List Int) (hN : 1048577 < N) (hby : ∀ x ∈ b, 0 ≤ x ∧ x < 256) : pix_Read N b = some (readPic b) := by
  unfold pix_Read readPic
  simp only [decide_eq_true_eq]
  by_cases h5 : b.length < 5
  · rw [if_pos (by omega), if_pos h5]
  · rw [if_neg (by omega), if_neg h5]
    have g3 : getI (0 : Int) b 3 = b.getD 3 0 := getI_nat 0 b 3
    have g4 : getI (0 : Int) b 4 = b.getD 4 0 := getI_nat 0 b 4
    have h3 := hby _ (getD_mem (xs := b) (i := 3) (by omega))
    have h4 := hby _ (getD_mem (xs := b) (i := 4) (by omega))
    rw [gate_pos (inR_of (by omega) (by omega)), gate_pos (inR_of (by omega) (by omega)), gate_pos (bounds_of (by omega) (by omega) (by omega)), g3, g4, take3]
    generalize b.getD 3 0 = w at *
    generalize b.getD 4 0 = h at *
    rw [w64 (x := w) (by omega) (by omega), w64 (x := h) (by omega) (by omega)]
    by_cases hc : b.take 3 ≠ [112, 105, 120] ∨ w < 1 ∨ w > 64 ∨ h < 1 ∨ h > 64
    · have ht : (if (!decide (b.take 3 = [112, 105, 120])) = true then some true else if w < 1 then some true else if w > 64 then some true else if h < 1 then some true else some (decide (h > 64))) = some true := by
        by_cases c1 : b.take 3 = [112, 105, 120]
        · rw [if_neg (by simp [c1])]
          split
          · rfl
          · split
            · rfl
            · split
              · rfl
              · rcases hc with hc | hc
                · exact absurd c1 hc
                · simp; omega
        · rw [if_pos (by simp [c1])]
      rw [bindO_of ht, if_pos rfl, if_pos hc]
    · have ht : (if (!decide (b.take 3 = [112, 105, 120])) = true then some true else if w < 1 then some true else if w > 64 then some true else if h < 1 then some true else some (decide (h > 64))) = some false := by
        have c1 : b.take 3 = [112, 105, 120] := Decidable.not_not.1 fun h => hc (Or.inl h)
        have c2 : ¬ (w < 1 ∨ w > 64 ∨ h < 1 ∨ h > 64) := fun h => hc (Or.inr h)
        rw [if_neg (by simp [c1]), if_neg (by omega), if_neg (by omega), if_neg (by omega)]
        simp; omega
      rw [bindO_of ht, if_neg (by simp), if_neg hc]
      have c2 : ¬ (w < 1 ∨ w > 64 ∨ h < 1 ∨ h > 64) := fun h => hc (Or.inr h)
      obtain ⟨w, rfl⟩ := Int.eq_ofNat_of_zero_le h3.1
      obtain ⟨h, rfl⟩ := Int.eq_ofNat_of_zero_le h4.1
      rw [Int.toNat_natCast]
      refine read_loop N b w h (by omega) (by omega) (by omega) hN hby _ _ (by omega) (fun at_ bad dots hat => ?_) rfl
      simp only [readFin]
      by_cases hl : at_ < b.length
      · rw [if_pos (by omega), if_pos (by simp; omega)]
      · rw [if_neg (by omega), if_neg (by simp; omega)]

/-! ### the reference -/
theorem ref_loop (N : Nat) (b : List Int) (w h : Nat) (w1 : 1 ≤ w) (w2 : w ≤ 64) (h2 : h ≤ 64) (hN : 1048577 < N) (hby : ∀ x ∈ b, 0 ≤ x ∧ x < 256) (k0 : (List Int × List Int × Int × Int × Int × Int × List Int × Unit) → Option ((Int × Int × List Int) × List Int × Int)) (kr : (Int × Int × Int × Unit) → Option ((Int × Int × List Int) × List Int × Int))
    (e0 : ∀ (rest bad dots : List Int), k0 (rest, bad, 0, 0, (w : Int), (h : Int), dots, ()) = some (readFin w h (some (rest, bad, dots)))) (er : kr (15, 0, 0, ()) = some (readFin w h none)) :
    iter (wrackref2_PictureOf.s0 N none k0 kr ((h : Int), ())) none N (b, [], (0 : Int), (0 : Int), (0 : Int), (w : Int), (h : Int), [], ()) = some (readFin w h (readGo w h 0 b [] [])) := by
  refine iter_rule (fun v => ∃ (y : Nat) (rest bad dots : List Int), v = (rest, bad, (y : Int), 0, 0, (w : Int), (h : Int), dots, ()) ∧ y ≤ h ∧ (∀ x ∈ rest, 0 ≤ x ∧ x < 256) ∧ bad.length ≤ y ∧ dots.length ≤ 64 * y ∧ readGo w h 0 b [] [] = readGo w (h - y) y rest bad dots)
    (fun v => h - v.2.2.1.toNat) (fun r => r = some (readFin w h (readGo w h 0 b [] []))) ?_ N _ ⟨0, b, [], [], rfl, by omega, hby, by simp, by simp, rfl⟩ (by simp; omega)
  rintro v again ⟨y, rest, bad, dots, rfl, hy, hrest, hbad, hdots, hr⟩ hag
  unfold wrackref2_PictureOf.s0
  simp only [decide_eq_true_eq]
  by_cases hlt : y < h
  · rw [if_pos (by omega)]
    rw [show h - y = (h - (y + 1)) + 1 by omega] at hr
    simp only [readGo] at hr
    by_cases he : rest.length = 0
    · have hb2 : (if (rest.length : Int) = 0 then some true else gate (inR 0 (rest.length : Int)) (some (decide ((rest.length : Int) < IntKind.wrap .i64 (2 + IntKind.wrap .i64 (getI (0 : Int) rest 0))))) none) = some true := by rw [if_pos (by omega)]
      rw [bindO_of hb2, if_pos rfl, er]
      rw [if_pos (Or.inl he)] at hr
      rw [hr]
    · have ha := hrest _ (getD_mem (xs := rest) (i := 0) (by omega))
      have g0 : getI (0 : Int) rest 0 = rest.getD 0 0 := getI_nat 0 rest 0
      obtain ⟨n, hn⟩ : ∃ n : Nat, rest.getD 0 0 = (n : Int) := ⟨(rest.getD 0 0).toNat, by omega⟩
      rw [hn] at ha g0 hr
      rw [g0, gate_pos (inR_of (by omega) (by omega)), gate_pos (inR_of (by omega) (by omega))]
      rw [w64 (x := (n : Int)) (by omega) (by omega), w64 (x := 2 + (n : Int)) (by omega) (by omega), w64 (x := 1 + (n : Int)) (by omega) (by omega)]
      by_cases hs : (rest.length : Int) < 2 + (n : Int)
      · have hb2 : (if (rest.length : Int) = 0 then some true else some (decide ((rest.length : Int) < 2 + (n : Int)))) = some true := by rw [if_neg (by omega)]; simpa using hs
        rw [bindO_of hb2, if_pos rfl, er]
        rw [if_pos (Or.inr hs)] at hr
        rw [hr]
      · have hb2 : (if (rest.length : Int) = 0 then some true else some (decide ((rest.length : Int) < 2 + (n : Int)))) = some false := by rw [if_neg (by omega)]; simpa using hs
        rw [bindO_of hb2, if_neg (by simp), gate_pos (bounds_of (by omega) (by omega) (by omega))]
        rw [if_neg (by omega)] at hr
        have en : ((n : Int)).toNat = n := by omega
        have en1 : (1 + (n : Int)).toNat = 1 + n := by omega
        have en2 : (2 + (n : Int)).toNat = 2 + n := by omega
        rw [en, en1, en2] at hr
        have ec : cut rest 1 (1 + (n : Int)) = (rest.drop 1).take n := by
          have := cut_nat rest 1 (1 + n) (by omega)
          have e1 : ((1 : Nat) : Int) = 1 := rfl
          have e2 : ((1 + n : Nat) : Int) = 1 + (n : Int) := by omega
          rw [e1, e2] at this
          rw [this]
          congr 1
          omega
        have ec2 : cut rest 0 (1 + (n : Int)) = rest.take (1 + n) := by
          have := cut_nat rest 0 (1 + n) (by omega)
          have e1 : ((0 : Nat) : Int) = 0 := rfl
          have e2 : ((1 + n : Nat) : Int) = 1 + (n : Int) := by omega
          rw [e1, e2] at this
          rw [this]
          simp
        have hseg : ∀ x ∈ (rest.drop 1).take n, 0 ≤ x ∧ x < 256 := fun x hx => hrest x (List.mem_of_mem_drop (List.mem_of_mem_take hx))
        have hsl : ((rest.drop 1).take n).length ≤ 255 := by simp; omega
        have hdl2 := rowDots_len _ hseg
        rw [ec]
        refine ref_row N none _ rest ((rest.drop 1).take n) bad dots (y : Int) (1 + (n : Int)) (h : Int) (y : Int) 0 0 (w : Int) (h : Int) (by omega) hN hseg (fun r => r = some (readFin w h (readGo w h 0 b [] []))) ?_ N (by omega)
        simp only
        have hend : getI (0 : Int) rest (1 + (n : Int)) = rest.getD (1 + n) 0 := by
          have e2 : 1 + (n : Int) = ((1 + n : Nat) : Int) := by omega
          rw [e2, getI_nat]
        have hcl : (rest.take (1 + n)).length ≤ 256 := by simp; omega
        have hcrc := crcOf_bd (rest.take (1 + n))
        have hu8 : IntKind.wrap .u8 (Int.tmod (crcOf (rest.take (1 + n))) 256) = crcOf (rest.take (1 + n)) % 256 := by
          rw [Int.tmod_eq_emod_of_nonneg hcrc.1, wu8_mod]; omega
        rw [ec2, hend]
        generalize hc : crcOf (rest.take (1 + n)) % 256 = cc at hr hu8
        generalize hl : rowDots ((rest.drop 1).take n) = l at hr hdl2 ⊢
        generalize hz : rest.getD (1 + n) 0 = z at hr ⊢
        have htest : (if (!decide ((l.length : Int) = (w : Int))) = true then some true else gate (bounds (rest.length : Int) 0 (1 + (n : Int))) (bindO (wrackref2_Crc N (rest.take (1 + n))) (fun r99 => gate (decide ((256 : Int) ≠ 0)) (gate (inR (1 + (n : Int)) (rest.length : Int)) (some (!decide (IntKind.wrap .u8 (Int.tmod r99 256) = z))) none) none) none) none) = some (decide ((l.length : Int) ≠ (w : Int) ∨ cc ≠ z)) := by
          by_cases h1 : (l.length : Int) = (w : Int)
          · rw [if_neg (by simpa using h1), gate_pos (bounds_of (by omega) (by omega) (by omega)), bindO_of (refCrc_eq N _ (by omega) (by omega) (by omega)), gate_pos (by decide), gate_pos (inR_of (by omega) (by omega)), hu8]
            simp [h1]
          · rw [if_pos (by simpa using h1)]; simp [h1]
        rw [bindO_of htest]
        rw [w64 (x := 1 + (n : Int) + 1) (by omega) (by omega), w64 (x := (y : Int) + 1) (by omega) (by omega)]
        have e4 : ((y : Int) + 1) = ((y + 1 : Nat) : Int) := by omega
        have ec3 : cut rest (1 + (n : Int) + 1) (rest.length : Int) = rest.drop (2 + n) := by
          have := cut_nat rest (2 + n) rest.length (by omega)
          have e1 : ((2 + n : Nat) : Int) = 1 + (n : Int) + 1 := by omega
          rw [e1] at this
          rw [this]
          exact List.take_of_length_le (by simp)
        have hrest' : ∀ x ∈ rest.drop (2 + n), 0 ≤ x ∧ x < 256 := fun x hx => hrest x (List.mem_of_mem_drop hx)
        by_cases hw : (l.length : Int) ≠ (w : Int) ∨ cc ≠ z
        · rw [if_pos hw] at hr
          rw [if_pos (by simpa using hw), gate_pos (room_of (by simp; omega) (by simp; omega)), gate_pos (by simp [room_of (n := w) (b := 1) (by omega) (by omega)]), bindO_of rfl]
          simp only
          rw [gate_pos (room_of (by simp; omega) (by simp; omega)), gate_pos (bounds_of (by omega) (by omega) (by omega)), ec3, e4]
          rw [e4] at hr
          refine hag _ ⟨y + 1, rest.drop (2 + n), bad ++ [(y : Int)], dots ++ List.replicate w 0, by simp, by omega, hrest', by simp; omega, by simp; omega, ?_⟩ (by simp; omega)
          rw [hr]; simp
        · rw [if_neg hw] at hr
          have hwl : l.length = w := by
            have : (l.length : Int) = (w : Int) := Decidable.not_not.1 fun h => hw (Or.inl h)
            omega
          rw [if_neg (by simpa using hw), bindO_of rfl]
          simp only
          rw [gate_pos (room_of (by omega) (by omega)), gate_pos (bounds_of (by omega) (by omega) (by omega)), ec3, e4]
          rw [e4] at hr
          exact hag _ ⟨y + 1, rest.drop (2 + n), bad, dots ++ l, rfl, by omega, hrest', by omega, by simp; omega, hr⟩ (by simp; omega)
  · rw [if_neg (by omega)]
    have hyh : y = h := by omega
    subst hyh
    rw [Nat.sub_self] at hr
    simp only [readGo] at hr
    rw [e0 rest bad dots, hr]

theorem refRead_eq (N : Nat) (b : List Int) (hN : 1048577 < N) (hby : ∀ x ∈ b, 0 ≤ x ∧ x < 256) : wrackref2_PictureOf N b = some (readPic b) := by
  unfold wrackref2_PictureOf readPic
  simp only [decide_eq_true_eq]
  by_cases h5 : b.length < 5
  · rw [if_pos (by omega), if_pos h5]
  · rw [if_neg (by omega), if_neg h5]
    have g3 : getI (0 : Int) b 3 = b.getD 3 0 := getI_nat 0 b 3
    have g4 : getI (0 : Int) b 4 = b.getD 4 0 := getI_nat 0 b 4
    have h3 := hby _ (getD_mem (xs := b) (i := 3) (by omega))
    have h4 := hby _ (getD_mem (xs := b) (i := 4) (by omega))
    rw [gate_pos (inR_of (by omega) (by omega)), gate_pos (inR_of (by omega) (by omega)), gate_pos (bounds_of (by omega) (by omega) (by omega)), g3, g4, take3]
    have ec : cut b 5 (b.length : Int) = b.drop 5 := by
      have := cut_nat b 5 b.length (by omega)
      have e1 : ((5 : Nat) : Int) = 5 := rfl
      rw [e1] at this
      rw [this]
      exact List.take_of_length_le (by simp)
    generalize b.getD 3 0 = w at *
    generalize b.getD 4 0 = h at *
    rw [w64 (x := w) (by omega) (by omega), w64 (x := h) (by omega) (by omega)]
    by_cases hc : b.take 3 ≠ [112, 105, 120] ∨ w < 1 ∨ w > 64 ∨ h < 1 ∨ h > 64
    · have ht : (if (!decide (b.take 3 = [112, 105, 120])) = true then some true else if minI w h < 1 then some true else some (decide (maxI w h > 64))) = some true := by
        by_cases c1 : b.take 3 = [112, 105, 120]
        · rw [if_neg (by simp [c1])]
          rcases hc with hc | hc
          · exact absurd c1 hc
          · by_cases hm : minI w h < 1
            · rw [if_pos hm]
            · rw [if_neg hm]
              simp only [Option.some.injEq, decide_eq_true_eq]
              unfold minI at hm
              unfold maxI
              split at hm <;> split <;> omega
        · rw [if_pos (by simp [c1])]
      rw [bindO_of ht, if_pos rfl, if_pos hc]
    · have c2 : ¬ (w < 1 ∨ w > 64 ∨ h < 1 ∨ h > 64) := fun h => hc (Or.inr h)
      have ht : (if (!decide (b.take 3 = [112, 105, 120])) = true then some true else if minI w h < 1 then some true else some (decide (maxI w h > 64))) = some false := by
        have c1 : b.take 3 = [112, 105, 120] := Decidable.not_not.1 fun h => hc (Or.inl h)
        have hm : ¬ minI w h < 1 := by unfold minI; split <;> omega
        rw [if_neg (by simp [c1]), if_neg hm]
        simp only [Option.some.injEq, decide_eq_false_iff_not]
        unfold maxI
        split <;> omega
      rw [bindO_of ht, if_neg (by simp), if_neg hc, gate_pos (bounds_of (by omega) (by omega) (by omega)), ec]
      obtain ⟨w, rfl⟩ := Int.eq_ofNat_of_zero_le h3.1
      obtain ⟨h, rfl⟩ := Int.eq_ofNat_of_zero_le h4.1
      rw [Int.toNat_natCast]
      refine ref_loop N (b.drop 5) w h (by omega) (by omega) (by omega) hN (fun x hx => hby x (List.mem_of_mem_drop hx)) _ _ (fun rest bad dots => ?_) rfl
      simp only [readFin]
      by_cases hl : 0 < rest.length
      · rw [if_pos (by omega), if_pos hl]
      · rw [if_neg (by omega), if_neg hl]

theorem readPic_bad (b : List Int) (h : ∀ x ∈ b, 0 ≤ x ∧ x < 256) : (readPic b).2.1.length ≤ 64 := by
  unfold readPic
  split
  · simp
  · split
    · simp
    · rename_i hc
      have hh : ¬ (b.getD 4 0 > 64) := fun h => hc (Or.inr (Or.inr (Or.inr (Or.inr h))))
      generalize b.getD 3 0 = w at *
      generalize b.getD 4 0 = h at *
      cases hr : readGo w h.toNat 0 (b.drop 5) [] [] with
      | none => simp [readFin]
      | some r =>
        have := readGo_bad w h.toNat 0 (b.drop 5) [] [] r hr
        obtain ⟨r1, r2, r3⟩ := r
        simp only [readFin]
        simp only [List.length_nil] at this
        split
        · simp
        · simp only; omega

/-- PixReads: true. -/
theorem pixReads_true (N : Nat) (b : List Int) (hN : 1048577 < N) (hby : ∀ x ∈ b, 0 ≤ x ∧ x < 256) : wracklaw2_PixReads N b = some true := by
  unfold wracklaw2_PixReads
  have hb := readPic_bad b hby
  rw [bindO_of (read_eq N b hN hby), bindO_of (refRead_eq N b hN hby)]
  have hs : wrackref2_SamePicture N (readPic b).1 (readPic b).1 = some true := by
    unfold wrackref2_SamePicture
    simp [bindO]
  have hc : (bindO (wracklaw2_pictures N) (fun r21 => if r21 = true then if (decide ((readPic b).2.2 = (readPic b).2.2)) = true then bindO (slices_Equal_int N (readPic b).2.1 (readPic b).2.1) (fun r30 => if r30 = true then bindO (wrackref2_SamePicture N (readPic b).1 (readPic b).1) (fun r35 => some r35) none else some false) none else some false else some false) none : Option Bool) = some true := by
    rw [bindO_of (pictures_true N hN), if_pos rfl, if_pos (by simp), bindO_of (equalInt_eq N _ _ (by omega) (by omega)), if_pos (by simp), bindO_of hs]
  rw [bindO_of hc]
end Go.Proofs.Yteekijpcdcpjkaa
