/-
  PLAIN LAW: the program's checksum and the reference's are the same number.
-/
import Derived.Test.YteekijpcdcpjkaaDoorAbPlain
import Derived.Test.YteekijpcdcpjkaaDoorPu
set_option linter.unusedVariables false
set_option linter.unusedSimpArgs false
namespace Go.Proofs.YteekijpcdcpjkaaDoor
open Go Go.Ab

theorem xor32_bd (a b : Int) : 0 ≤ bitXor .u32 a b ∧ bitXor .u32 a b < 4294967296 := by
  unfold bitXor
  rw [wu32_mod]
  omega
theorem xor32_zero {a : Int} (h1 : 0 ≤ a) (h2 : a < 4294967296) : bitXor .u32 a 0 = a := by
  obtain ⟨n, rfl⟩ := Int.eq_ofNat_of_zero_le h1
  unfold bitXor
  have e : (BitVec.ofInt (IntKind.bits .u32) (n : Int) ^^^ BitVec.ofInt (IntKind.bits .u32) 0).toNat = n := by
    show (BitVec.ofInt 32 (n : Int) ^^^ BitVec.ofInt 32 0).toNat = n
    rw [BitVec.toNat_xor]
    have a : (BitVec.ofInt 32 (n : Int)).toNat = n := by simp; omega
    have b : (BitVec.ofInt 32 0).toNat = 0 := by decide
    rw [a, b, Nat.xor_zero]
  rw [e, wu32 (by omega) (by omega)]
theorem and32_one {a : Int} (h1 : 0 ≤ a) (h2 : a < 4294967296) : bitAnd .u32 a 1 = a % 2 := by
  obtain ⟨n, rfl⟩ := Int.eq_ofNat_of_zero_le h1
  unfold bitAnd
  have e : (BitVec.ofInt (IntKind.bits .u32) (n : Int) &&& BitVec.ofInt (IntKind.bits .u32) 1).toNat = n % 2 := by
    show (BitVec.ofInt 32 (n : Int) &&& BitVec.ofInt 32 1).toNat = n % 2
    rw [BitVec.toNat_and]
    have a : (BitVec.ofInt 32 (n : Int)).toNat = n := by simp; omega
    have b : (BitVec.ofInt 32 1).toNat = 1 := by decide
    rw [a, b, Nat.and_one_is_mod]
  rw [e, wu32 (by omega) (by omega)]
  omega

def crcBit (c : Int) : Int := if c % 2 = 1 then bitXor .u32 (c / 2) 3988292384 else c / 2
def crcN : Nat → Int → Int
  | 0, c => c
  | n + 1, c => crcN n (crcBit c)
def crcByte (c x : Int) : Int := crcN 8 (bitXor .u32 c (IntKind.wrap .u32 x))
def crcOf (bs : List Int) : Int := IntKind.wrap .i64 (bitXor .u32 4294967295 (bs.foldl crcByte 4294967295))

theorem crcBit_bd {c : Int} (h1 : 0 ≤ c) (h2 : c < 4294967296) : 0 ≤ crcBit c ∧ crcBit c < 4294967296 := by
  unfold crcBit
  split
  · exact xor32_bd _ _
  · omega
theorem crcOf_bd (bs : List Int) : 0 ≤ crcOf bs ∧ crcOf bs < 4294967296 := by
  unfold crcOf
  have := xor32_bd 4294967295 (bs.foldl crcByte 4294967295)
  rw [w64 (by omega) (by omega)]
  exact this

theorem sum_inner {R : Type} (N : Nat) (s : R) (k2 : (Int × Unit) → R) (ctx : List Int × Int × Int × Unit) (c : Int) (h1 : 0 ≤ c) (h2 : c < 4294967296) (Q : R → Prop) (hk : 0 ≤ crcN 8 c → crcN 8 c < 4294967296 → Q (k2 (crcN 8 c, ()))) (n : Nat) (hn : 8 < n) :
    Q (iter (sum_Crc.s1 N s k2 ctx) s n (c, (0 : Int), ())) := by
  refine iter_rule (fun v => ∃ (i : Nat) (d : Int), v = (d, (i : Int), ()) ∧ i ≤ 8 ∧ 0 ≤ d ∧ d < 4294967296 ∧ crcN 8 c = crcN (8 - i) d) (fun v => 8 - v.2.1.toNat) Q ?_ n _ ⟨0, c, rfl, by omega, h1, h2, rfl⟩ (by simp; omega)
  rintro v again ⟨i, d, rfl, hi, d1, d2, he⟩ hag
  unfold sum_Crc.s1
  simp only [decide_eq_true_eq]
  by_cases hlt : i < 8
  · rw [if_pos (by omega), gate_pos (by decide), w64 (by omega) (by omega), and32_one d1 d2]
    have sh : shrI .u32 d 1 = d / 2 := shrI_nat .u32 1 (by decide)
    have st : bitXor .u32 (shrI .u32 d 1) (IntKind.wrap .u32 (d % 2 * 3988292384)) = crcBit d := by
      rw [sh]
      unfold crcBit
      rcases (show d % 2 = 0 ∨ d % 2 = 1 by omega) with h | h
      · rw [h, if_neg (by omega), Int.zero_mul, wu32 (by omega) (by omega), xor32_zero (by omega) (by omega)]
      · rw [h, if_pos rfl, Int.one_mul, wu32 (by omega) (by omega)]
    rw [st]
    have hb := crcBit_bd d1 d2
    refine hag _ ⟨i + 1, crcBit d, by simp, by omega, hb.1, hb.2, ?_⟩ (by simp; omega)
    rw [he, show 8 - i = (8 - (i + 1)) + 1 by omega]
    rfl
  · rw [if_neg (by omega)]
    have : i = 8 := by omega
    subst this
    have he : crcN 8 c = d := he
    rw [he] at hk
    exact hk d1 d2

theorem sumCrc_eq (N : Nat) (bs : List Int) (hb : bs.length ≤ 140737488355328) (hN : bs.length < N) (hN8 : 8 < N) : sum_Crc N bs = some (crcOf bs) := by
  unfold sum_Crc
  refine iter_rule (fun v => ∃ (i : Nat) (d : Int), v = (d, (i : Int), ()) ∧ i ≤ bs.length ∧ 0 ≤ d ∧ d < 4294967296 ∧ bs.foldl crcByte 4294967295 = (bs.drop i).foldl crcByte d) (fun v => bs.length - v.2.1.toNat) (fun r => r = some (crcOf bs)) ?_ N _ ⟨0, 4294967295, rfl, Nat.zero_le _, by omega, by omega, rfl⟩ (by simpa using hN)
  rintro v again ⟨i, d, rfl, hi, d1, d2, he⟩ hag
  unfold sum_Crc.s0
  simp only [decide_eq_true_eq]
  by_cases hlt : i < bs.length
  · rw [if_pos (by omega), gate_pos (inR_of (by omega) (by omega)), getI_get hlt]
    have hx := xor32_bd d (IntKind.wrap .u32 bs[i])
    refine sum_inner N none _ _ _ hx.1 hx.2 (fun r => r = some (crcOf bs)) (fun n1 n2 => ?_) N hN8
    simp only
    rw [w64 (by omega) (by omega)]
    refine hag _ ⟨i + 1, _, rfl, by omega, n1, n2, ?_⟩ (by simp; omega)
    rw [he, List.drop_eq_getElem_cons hlt]
    rfl
  · rw [if_neg (by omega)]
    have : i = bs.length := by omega
    subst this
    simp only [List.drop_length, List.foldl_nil] at he
    rw [← he]
    rfl

theorem ref_inner {R : Type} (N : Nat) (s : R) (k2 : (Int × Unit) → R) (ctx : List Int × Int × Int × Unit) (c : Int) (h1 : 0 ≤ c) (h2 : c < 4294967296) (Q : R → Prop) (hk : 0 ≤ crcN 8 c → crcN 8 c < 4294967296 → Q (k2 (crcN 8 c, ()))) (n : Nat) (hn : 8 < n) :
    Q (iter (wrackref2_Crc.s1 N s k2 ctx) s n (c, (0 : Int), ())) := by
  refine iter_rule (fun v => ∃ (i : Nat) (d : Int), v = (d, (i : Int), ()) ∧ i ≤ 8 ∧ 0 ≤ d ∧ d < 4294967296 ∧ crcN 8 c = crcN (8 - i) d) (fun v => 8 - v.2.1.toNat) Q ?_ n _ ⟨0, c, rfl, by omega, h1, h2, rfl⟩ (by simp; omega)
  rintro v again ⟨i, d, rfl, hi, d1, d2, he⟩ hag
  unfold wrackref2_Crc.s1
  simp only [decide_eq_true_eq]
  by_cases hlt : i < 8
  · rw [if_pos (by omega), gate_pos (by decide), w64 (x := (i : Int) + 1) (by omega) (by omega)]
    rw [Int.tmod_eq_emod_of_nonneg d1, Int.tdiv_eq_ediv_of_nonneg d1]
    have hb := crcBit_bd d1 d2
    have hd : crcN 8 c = crcN (8 - (i + 1)) (crcBit d) := by
      rw [he, show 8 - i = (8 - (i + 1)) + 1 by omega]
      rfl
    by_cases h : d % 2 = 1
    · rw [if_pos h, gate_pos (by decide), wu32 (by omega) (by omega)]
      refine hag _ ⟨i + 1, crcBit d, ?_, by omega, hb.1, hb.2, hd⟩ (by simp; omega)
      unfold crcBit
      rw [if_pos h]
      simp
    · rw [if_neg h, gate_pos (by decide), wu32 (by omega) (by omega)]
      refine hag _ ⟨i + 1, crcBit d, ?_, by omega, hb.1, hb.2, hd⟩ (by simp; omega)
      unfold crcBit
      rw [if_neg h]
      simp
  · rw [if_neg (by omega)]
    have : i = 8 := by omega
    subst this
    have he : crcN 8 c = d := he
    rw [he] at hk
    exact hk d1 d2

theorem refCrc_eq (N : Nat) (bs : List Int) (hb : bs.length ≤ 140737488355328) (hN : bs.length < N) (hN8 : 8 < N) : wrackref2_Crc N bs = some (crcOf bs) := by
  unfold wrackref2_Crc
  refine iter_rule (fun v => ∃ (i : Nat) (d : Int), v = (d, (i : Int), ()) ∧ i ≤ bs.length ∧ 0 ≤ d ∧ d < 4294967296 ∧ bs.foldl crcByte 4294967295 = (bs.drop i).foldl crcByte d) (fun v => bs.length - v.2.1.toNat) (fun r => r = some (crcOf bs)) ?_ N _ ⟨0, 4294967295, rfl, Nat.zero_le _, by omega, by omega, rfl⟩ (by simpa using hN)
  rintro v again ⟨i, d, rfl, hi, d1, d2, he⟩ hag
  unfold wrackref2_Crc.s0
  simp only [decide_eq_true_eq]
  by_cases hlt : i < bs.length
  · rw [if_pos (by omega), gate_pos (inR_of (by omega) (by omega)), getI_get hlt]
    have hx := xor32_bd d (IntKind.wrap .u32 bs[i])
    refine ref_inner N none _ _ _ hx.1 hx.2 (fun r => r = some (crcOf bs)) (fun n1 n2 => ?_) N hN8
    simp only
    rw [w64 (by omega) (by omega)]
    refine hag _ ⟨i + 1, _, rfl, by omega, n1, n2, ?_⟩ (by simp; omega)
    rw [he, List.drop_eq_getElem_cons hlt]
    rfl
  · rw [if_neg (by omega)]
    have : i = bs.length := by omega
    subst this
    simp only [List.drop_length, List.foldl_nil] at he
    rw [← he]
    rfl
end Go.Proofs.YteekijpcdcpjkaaDoor
