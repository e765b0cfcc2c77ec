/-
  PLAIN: an entry of an archive, as the program and as the reference write it.
-/
import Derived.Test.YteekijpcdcpjkaaDoorPuRunsPack
import Derived.Test.YteekijpcdcpjkaaDoorPuCrc
import Derived.Test.YteekijpcdcpjkaaDoorPuBytesLe
set_option linter.unusedVariables false
set_option linter.unusedSimpArgs false
namespace Go.Proofs.YteekijpcdcpjkaaDoor
open Go Go.Ab

/-! ### numbers -/
theorem bytes_eq (N : Nat) (n k : Nat) (hk : k ≤ 8) (hn : n < 4611686018427387904) (hN : 1048577 < N) : arch_bytes N (n : Int) (k : Int) = some (leB k n) := by
  unfold arch_bytes
  have e1 : ((k : Int)).toNat = k := Int.toNat_natCast k
  rw [gate_pos (by rw [Bool.and_eq_true]; exact ⟨by simp, room_of (by rw [e1]; omega) (by rw [e1]; omega)⟩)]
  simp only [e1, List.length_replicate]
  refine iter_rule (fun v => ∃ i : Nat, v = (leB i n ++ List.replicate (k - i) 0, (i : Int), ()) ∧ i ≤ k) (fun v => k - v.2.1.toNat) (fun o => o = some (leB k n)) ?_ N _ ⟨0, by simp [leB_zero], Nat.zero_le _⟩ (by simp only; omega)
  rintro v again ⟨i, rfl, hi⟩ hag
  unfold arch_bytes.s0
  simp only [decide_eq_true_eq]
  by_cases hlt : i < k
  · have e2 : (8 : Int) * (i : Int) = ((8 * i : Nat) : Int) := by omega
    have hl : (leB i n ++ List.replicate (k - i) (0 : Int)).length = k := by rw [List.length_append, leB_len, List.length_replicate]; omega
    have e3 : ((leB i n ++ List.replicate (k - i) (0 : Int)).length : Int) = (k : Int) := by rw [hl]
    rw [if_pos (by omega), e2, w64 (x := ((8 * i : Nat) : Int)) (by omega) (by omega), gate_pos (by simp; omega), e3, gate_pos (inR_of (by omega) (by omega)), gate_pos (inR_of (by omega) (by omega)), shr_nat n i (by omega), w64 (by omega) (by omega)]
    have e4 : (leB i n ++ List.replicate (k - i) (0 : Int)).set ((i : Int)).toNat ((n / 256 ^ i % 256 : Nat) : Int) = leB (i + 1) n ++ List.replicate (k - (i + 1)) 0 := by
      rw [Int.toNat_natCast, List.set_append_right _ _ (by rw [leB_len]; exact Nat.le_refl _), leB_len, Nat.sub_self]
      obtain ⟨m, hm⟩ : ∃ m, k - i = m + 1 := ⟨k - i - 1, by omega⟩
      have hm2 : k - (i + 1) = m := by omega
      rw [hm, hm2, List.replicate_succ, List.set_cons_zero, leB_succ]
      simp
    rw [e4]
    exact hag _ ⟨i + 1, by simp, by omega⟩ (by simp only; omega)
  · rw [if_neg (by omega)]
    have : i = k := by omega
    subst this
    simp

/-- the reference's way: into a part of a block -/
theorem set_loop {R : Type} (N : Nat) (s : R) (k0 : (List Int × List Int × List Int × Unit) → R) (p q base : List Int) (lo k n : Nat) (hk : lo + k ≤ base.length) (hb : base.length ≤ 140737488355328) (hn : n < 4611686018427387904) (Q : R → Prop)
    (h : Q (k0 (p, q, base.take lo ++ leB k n ++ base.drop (lo + k), ()))) (m : Nat) (hm : k < m) (hi : Int) (hhi : hi = (lo : Int) + k) (cnt : Int) (hc : cnt = k) (nn : Int) (hnn : nn = n) (llo : Int) (hllo : llo = lo) :
    Q (iter (wrackref2_ItemBytes_i0_wrackref2_set.s0 N s k0 (cnt, ())) s m (p, q, base, llo, hi, nn, (0 : Int), ())) := by
  subst hhi; subst hc; subst hnn; subst hllo
  refine iter_rule (fun v => ∃ i : Nat, v = (p, q, base.take lo ++ leB i n ++ base.drop (lo + i), (lo : Int), (lo : Int) + k, ((n / 256 ^ i : Nat) : Int), (i : Int), ()) ∧ i ≤ k) (fun v => k - v.2.2.2.2.2.2.1.toNat) Q ?_ m _ ⟨0, by simp [leB_zero], Nat.zero_le _⟩ (by simp only; omega)
  rintro v again ⟨i, rfl, hi⟩ hag
  unfold wrackref2_ItemBytes_i0_wrackref2_set.s0
  simp only [decide_eq_true_eq]
  by_cases hlt : i < k
  · have hl := le_len base lo i n (by omega)
    have e0 : (lo : Int) + (i : Int) = ((lo + i : Nat) : Int) := by omega
    have hd : n / 256 ^ i < 4611686018427387904 := Nat.lt_of_le_of_lt (Nat.div_le_self _ _) hn
    rw [if_pos (by omega), gate_pos (by decide), gate_pos (inR_of (by omega) (by omega)), hl, gate_pos (inR_of (by omega) (by omega)), gate_pos (by decide), tmod_nat, tdiv_nat _ hd, e0, Int.toNat_natCast, le_set base lo i n (by omega), le_next, w64 (by omega) (by omega)]
    exact hag _ ⟨i + 1, by simp, by omega⟩ (by simp only; omega)
  · rw [if_neg (by omega)]
    have : i = k := by omega
    subst this
    exact h

/-! ### an entry -/
def storedI (d : List Int) : List Int := if (runs d).length < d.length then runs d else d
def wayI (d : List Int) : Int := if (runs d).length < d.length then 1 else 0

def entryI (x : List Int × List Int) : List Int :=
  [105, wayI x.2, IntKind.wrap .u8 (x.1.length : Int)] ++ x.1 ++ leB 2 x.2.length ++ leB 2 (storedI x.2).length ++ leB 4 (crcOf x.2).toNat ++ storedI x.2

theorem stored_len (d : List Int) : (storedI d).length ≤ d.length := by
  unfold storedI
  split <;> omega

theorem crc_nat (d : List Int) : ∃ c : Nat, crcOf d = (c : Int) ∧ c < 4294967296 ∧ (crcOf d).toNat = c := by
  obtain ⟨h1, h2⟩ := crcOf_bd d
  exact ⟨(crcOf d).toNat, by omega, by omega, rfl⟩

theorem entry_eq (N : Nat) (x : List Int × List Int) (hp : x.1.length ≤ 1048576) (hd : x.2.length ≤ 1048576) (hN : 1048577 < N) : arch_entry N x = some (entryI x) := by
  obtain ⟨p, d⟩ := x
  have hs := stored_len d
  obtain ⟨c, hc1, hc2, hc3⟩ := crc_nat d
  unfold arch_entry
  simp only at hp hd ⊢
  rw [bindO_of (pack_eq N d hd (by omega))]
  have hj : (if decide ((((runs d).length : Nat) : Int) < ((d.length : Nat) : Int)) = true then some ((1 : Int), runs d, p, d, ()) else some ((0 : Int), d, p, d, ()) : Option (Int × List Int × List Int × List Int × Unit)) = some (wayI d, storedI d, p, d, ()) := by
    unfold wayI storedI
    by_cases h : (runs d).length < d.length
    · rw [if_pos (by simpa using h), if_pos h, if_pos h]
    · rw [if_neg (by simpa using h), if_neg h, if_neg h]
  rw [bindO_of hj]
  simp only
  have b2 := bytes_eq N d.length 2 (by omega) (by omega) hN
  have b3 := bytes_eq N (storedI d).length 2 (by omega) (by omega) hN
  have b4 := bytes_eq N c 4 (by omega) (by omega) hN
  have h2 : ((2 : Nat) : Int) = 2 := rfl
  have h4 : ((4 : Nat) : Int) = 4 := rfl
  rw [h2] at b2 b3
  rw [h4] at b4
  rw [gate_pos (room_of (by simp; omega) (by simp; omega)), bindO_of b2, gate_pos (room_of (by simp [leB_len]; omega) (by simp [leB_len]; omega)), bindO_of b3, gate_pos (room_of (by simp [leB_len]; omega) (by simp [leB_len]; omega)), bindO_of (sumCrc_eq N d (by omega) (by omega) (by omega)), hc1, bindO_of b4,
    gate_pos (room_of (by simp [leB_len]; omega) (by simp [leB_len]; omega)), gate_pos (room_of (by simp [leB_len]; omega) (by simp [leB_len]; omega))]
  unfold entryI
  rw [hc3]

theorem itemBytes_eq (N : Nat) (x : List Int × List Int) (hp : x.1.length ≤ 1048576) (hd : x.2.length ≤ 1048576) (hN : 1048577 < N) : wrackref2_ItemBytes N x = some (entryI x) := by
  obtain ⟨p, d⟩ := x
  have hs := stored_len d
  obtain ⟨c, hc1, hc2, hc3⟩ := crc_nat d
  unfold wrackref2_ItemBytes
  simp only at hp hd ⊢
  rw [bindO_of (ran_eq N d hd (by omega))]
  have hj : (if decide ((((runs d).length : Nat) : Int) < ((d.length : Nat) : Int)) = true then some (runs d, (1 : Int), p, d, ()) else some (d, (0 : Int), p, d, ()) : Option (List Int × Int × List Int × List Int × Unit)) = some (storedI d, wayI d, p, d, ()) := by
    unfold wayI storedI
    by_cases h : (runs d).length < d.length
    · rw [if_pos (by simpa using h), if_pos h, if_pos h]
    · rw [if_neg (by simpa using h), if_neg h, if_neg h]
  rw [bindO_of hj]
  simp only
  generalize hst : storedI d = st at *
  generalize hwy : wayI d = wy
  have e0 : (11 : Int) + (p.length : Int) = ((11 + p.length : Nat) : Int) := by omega
  have e1 : ((11 + p.length : Nat) : Int) + (st.length : Int) = ((11 + p.length + st.length : Nat) : Int) := by omega
  rw [e0, w64 (x := ((11 + p.length : Nat) : Int)) (by omega) (by omega), e1, w64 (x := ((11 + p.length + st.length : Nat) : Int)) (by omega) (by omega)]
  rw [gate_pos (by rw [Bool.and_eq_true]; exact ⟨by simp; omega, room_of (by rw [Int.toNat_natCast]; omega) (by rw [Int.toNat_natCast]; omega)⟩), Int.toNat_natCast]
  -- the first three bytes
  have hz : List.replicate (11 + p.length + st.length) (0 : Int) = 0 :: 0 :: 0 :: List.replicate (8 + p.length + st.length) 0 := by
    rw [show 11 + p.length + st.length = (8 + p.length + st.length) + 1 + 1 + 1 by omega]
    simp [List.replicate_succ]
  have t0 : ((0 : Int)).toNat = 0 := rfl
  have t1 : ((1 : Int)).toNat = 1 := rfl
  have t2 : ((2 : Int)).toNat = 2 := rfl
  have t3 : ((3 : Int)).toNat = 3 := rfl
  have hset : (((List.replicate (11 + p.length + st.length) (0 : Int)).set 0 105).set 1 wy).set 2 (IntKind.wrap .u8 (p.length : Int)) = [105, wy, IntKind.wrap .u8 (p.length : Int)] ++ List.replicate (8 + p.length + st.length) 0 := by
    rw [hz]; rfl
  simp only [t0, t1, t2, t3]
  rw [gate_pos (inR_of (by omega) (by simp; omega)), gate_pos (inR_of (by omega) (by simp; omega)), gate_pos (inR_of (by omega) (by simp; omega)), gate_pos (inR_of (by omega) (by simp; omega)), gate_pos (inR_of (by omega) (by simp; omega)), gate_pos (inR_of (by omega) (by simp; omega)), hset]
  generalize hA : [105, wy, IntKind.wrap .u8 (p.length : Int)] = A
  have hAl : A.length = 3 := by rw [← hA]; rfl
  have hl1 : (A ++ List.replicate (8 + p.length + st.length) (0 : Int)).length = 11 + p.length + st.length := by rw [List.length_append, hAl, List.length_replicate]; omega
  rw [hl1, gate_pos (bounds_of (by omega) (by omega) (by omega))]
  have e2 : (((11 + p.length + st.length : Nat) : Int) - 3).toNat = 8 + p.length + st.length := by omega
  have e3 : min p.length (8 + p.length + st.length) = p.length := by omega
  have hov : over (A ++ List.replicate (8 + p.length + st.length) (0 : Int)) p 3 p.length = (A ++ p) ++ List.replicate (8 + st.length) 0 := by
    have := fill_next A p (8 + p.length + st.length) p.length (by omega) rfl
    rw [hAl] at this
    unfold over
    rw [List.take_length, this]
    congr 2
    omega
  rw [e2, e3, hov]
  have e4 : (3 : Int) + ((p.length : Nat) : Int) = ((3 + p.length : Nat) : Int) := by omega
  rw [e4, w64 (x := ((3 + p.length : Nat) : Int)) (by omega) (by omega)]
  generalize hL : 3 + p.length = L at *
  have hApl : (A ++ p).length = L := by rw [List.length_append, hAl]; omega
  rw [w64 (x := (L : Int) + 2) (by omega) (by omega), w64 (x := (L : Int) + 4) (by omega) (by omega), w64 (x := (L : Int) + 8) (by omega) (by omega)]
  have hl2 : ((A ++ p) ++ List.replicate (8 + st.length) (0 : Int)).length = L + 8 + st.length := by rw [List.length_append, hApl, List.length_replicate]; omega
  rw [hl2, gate_pos (bounds_of (by omega) (by omega) (by omega))]
  refine set_loop N none _ p d _ L 2 d.length (by rw [hl2]; omega) (by rw [hl2]; omega) (by omega) (fun o => o = some (entryI (p, d))) ?_ N (by omega) _ (by omega) _ (by omega) _ rfl _ rfl
  have f2 := fill_next (A ++ p) (leB 2 d.length) (8 + st.length) 2 (by omega) (leB_len _ _)
  rw [hApl] at f2
  rw [f2]
  simp only
  have hBl : ((A ++ p) ++ leB 2 d.length).length = L + 2 := by rw [List.length_append, hApl, leB_len]
  have hl3 : (((A ++ p) ++ leB 2 d.length) ++ List.replicate (8 + st.length - 2) (0 : Int)).length = L + 8 + st.length := by rw [List.length_append, hBl, List.length_replicate]; omega
  rw [hl3, gate_pos (bounds_of (by omega) (by omega) (by omega))]
  have i1 : @wrackref2_ItemBytes_i1_wrackref2_set.s0 = @wrackref2_ItemBytes_i0_wrackref2_set.s0 := rfl
  have i2 : @wrackref2_ItemBytes_i2_wrackref2_set.s0 = @wrackref2_ItemBytes_i0_wrackref2_set.s0 := rfl
  rw [i1]
  refine set_loop N none _ p d _ (L + 2) 2 st.length (by rw [hl3]; omega) (by rw [hl3]; omega) (by omega) (fun o => o = some (entryI (p, d))) ?_ N (by omega) _ (by omega) _ (by omega) _ rfl _ (by omega)
  have f3 := fill_next ((A ++ p) ++ leB 2 d.length) (leB 2 st.length) (8 + st.length - 2) 2 (by omega) (leB_len _ _)
  rw [hBl] at f3
  rw [f3]
  simp only
  have hCl : (((A ++ p) ++ leB 2 d.length) ++ leB 2 st.length).length = L + 4 := by rw [List.length_append, hBl, leB_len]
  have hl4 : ((((A ++ p) ++ leB 2 d.length) ++ leB 2 st.length) ++ List.replicate (8 + st.length - 2 - 2) (0 : Int)).length = L + 8 + st.length := by rw [List.length_append, hCl, List.length_replicate]; omega
  rw [hl4, gate_pos (bounds_of (by omega) (by omega) (by omega)), bindO_of (refCrc_eq N d (by omega) (by omega) (by omega)), i2]
  refine set_loop N none _ p d _ (L + 4) 4 c (by rw [hl4]; omega) (by rw [hl4]; omega) (by omega) (fun o => o = some (entryI (p, d))) ?_ N (by omega) _ (by omega) _ (by omega) _ hc1 _ (by omega)
  have f4 := fill_next (((A ++ p) ++ leB 2 d.length) ++ leB 2 st.length) (leB 4 c) (8 + st.length - 2 - 2) 4 (by omega) (leB_len _ _)
  rw [hCl] at f4
  rw [f4]
  simp only
  have hDl : ((((A ++ p) ++ leB 2 d.length) ++ leB 2 st.length) ++ leB 4 c).length = L + 8 := by rw [List.length_append, hCl, leB_len]
  have hl5 : (((((A ++ p) ++ leB 2 d.length) ++ leB 2 st.length) ++ leB 4 c) ++ List.replicate (8 + st.length - 2 - 2 - 4) (0 : Int)).length = L + 8 + st.length := by rw [List.length_append, hDl, List.length_replicate]; omega
  rw [hl5, gate_pos (bounds_of (by omega) (by omega) (by omega))]
  have e5 : (((L + 8 + st.length : Nat) : Int) - ((L : Int) + 8)).toNat = st.length := by omega
  have e6 : ((L : Int) + 8).toNat = L + 8 := by omega
  rw [e5, e6, Nat.min_self]
  have f5 := fill_next ((((A ++ p) ++ leB 2 d.length) ++ leB 2 st.length) ++ leB 4 c) st (8 + st.length - 2 - 2 - 4) st.length (by omega) rfl
  rw [hDl] at f5
  unfold over
  rw [List.take_length, f5]
  have e7 : 8 + st.length - 2 - 2 - 4 - st.length = 0 := by omega
  rw [e7]
  unfold entryI
  simp only [hst, hwy, hA, hc3, List.replicate_zero, List.append_nil]

end Go.Proofs.YteekijpcdcpjkaaDoor
