/-
  PLAIN: an archive, as the program and as the reference write it.
-/
import Derived.Test.YteekijpcdcpjkaaDoorPuEntry
import Derived.Test.YteekijpcdcpjkaaDoorPuItems
import Derived.Test.YteekijpcdcpjkaaDoorPuConcat
set_option linter.unusedVariables false
set_option linter.unusedSimpArgs false
namespace Go.Proofs.YteekijpcdcpjkaaDoor
open Go Go.Ab

/-- the entries, one behind the other -/
def bodyI (l : List Itm) (i : Nat) : List Int := ((l.take i).map entryI).flatten
/-- where they begin -/
def offsI (l : List Itm) (i : Nat) : List Int := ((List.range i).map fun j => leB 3 (bodyI l j).length).flatten
def dirI' (l : List Itm) (i : Nat) : List Int := [100, IntKind.wrap .u8 (l.length : Int)] ++ offsI l i
def archiveI (l : List Itm) : List Int := bodyI l l.length ++ dirI' l l.length ++ [101] ++ leB 3 (bodyI l l.length).length ++ leB 4 (crcOf (dirI' l l.length)).toNat

theorem body_succ (l : List Itm) (i : Nat) (h : i < l.length) : bodyI l (i + 1) = bodyI l i ++ entryI (l.getD i ([], [])) := by
  unfold bodyI
  rw [List.take_add_one, List.getElem?_eq_getElem h, List.getD_eq_getElem?_getD, List.getElem?_eq_getElem h, List.map_append, List.flatten_append]
  simp only [Option.toList_some, List.map_cons, List.map_nil, List.flatten_cons, List.flatten_nil, List.append_nil, Option.getD_some]
theorem offs_succ (l : List Itm) (i : Nat) : offsI l (i + 1) = offsI l i ++ leB 3 (bodyI l i).length := by
  unfold offsI
  rw [List.range_succ, List.map_append, List.flatten_append]
  simp
theorem offs_len (l : List Itm) : ∀ i, (offsI l i).length = 3 * i := by
  intro i
  induction i with
  | zero => rfl
  | succ i ih => rw [offs_succ, List.length_append, ih, leB_len]; omega
theorem entry_len (x : Itm) : (entryI x).length ≤ 11 + x.1.length + x.2.length := by
  have := stored_len x.2
  unfold entryI
  simp only [List.length_append, leB_len, List.length_cons, List.length_nil]
  omega
theorem body_len (l : List Itm) (hp : ∀ e ∈ l, e.1.length ≤ 1048576) (hd : ∀ e ∈ l, e.2.length ≤ 2048) : ∀ i, i ≤ l.length → (bodyI l i).length ≤ i * 1050635 := by
  intro i
  induction i with
  | zero => intro _; exact Nat.le_refl _
  | succ i ih =>
    intro h
    have h1 := ih (by omega)
    have h2 := entry_len (l.getD i ([], []))
    have h3 := hp _ (itm_mem (by omega : i < l.length))
    have h4 := hd _ (itm_mem (by omega : i < l.length))
    rw [body_succ l i (by omega), List.length_append, Nat.add_mul]
    omega

theorem make_eq (N : Nat) (l : List Itm) (r : Int) (hc : arch_Check N l = some r) (h0 : r = 0 → l.length ≤ 30 ∧ ∀ e ∈ l, e.2.length ≤ 2048) (hp : ∀ e ∈ l, e.1.length ≤ 1048576) (hN : 1048577 < N) :
    arch_Make N l = some (if r = 0 then (if 65536 < (archiveI l).length then ([], 2) else (archiveI l, 0)) else ([], r)) := by
  unfold arch_Make
  rw [bindO_of hc]
  by_cases hr : r = 0
  · subst hr
    obtain ⟨hl, hd⟩ := h0 rfl
    rw [if_neg (by decide), if_pos rfl]
    simp only
    refine iter_rule (fun v => ∃ i : Nat, v = (bodyI l i, dirI' l i, (i : Int), ()) ∧ i ≤ l.length) (fun v => l.length - v.2.2.1.toNat) (fun o => o = some (if 65536 < (archiveI l).length then (([] : List Int), (2 : Int)) else (archiveI l, 0))) ?_ N _ ⟨0, by simp [bodyI, dirI', offsI], Nat.zero_le _⟩ (by simp only; omega)
    rintro v again ⟨i, rfl, hi⟩ hag
    unfold arch_Make.s0
    simp only [decide_eq_true_eq]
    have hb := body_len l hp hd i hi
    have hbi : i * 1050635 ≤ 30 * 1050635 := Nat.mul_le_mul_right _ (by omega)
    have ho := offs_len l i
    have hdl : (dirI' l i).length = 2 + 3 * i := by unfold dirI'; rw [List.length_append, ho]; rfl
    have h3 : ((3 : Nat) : Int) = 3 := rfl
    have h4 : ((4 : Nat) : Int) = 4 := rfl
    have b3 := bytes_eq N (bodyI l i).length 3 (by omega) (by omega) hN
    rw [h3] at b3
    by_cases hlt : i < l.length
    · have he := entry_eq N (l.getD i ([], [])) (hp _ (itm_mem hlt)) (by have := hd _ (itm_mem hlt); omega) hN
      have hel := entry_len (l.getD i ([], []))
      have e3 := hp _ (itm_mem hlt)
      have e4 := hd _ (itm_mem hlt)
      rw [if_pos (by omega), gate_pos (inR_of (by omega) (by omega)), bindO_of b3, gate_pos (room_of (by rw [hdl, leB_len]; omega) (by rw [hdl, leB_len]; omega)), getI_nat, bindO_of he, gate_pos (room_of (by omega) (by omega)), ← body_succ l i hlt, w64 (by omega) (by omega)]
      refine hag _ ⟨i + 1, ?_, by omega⟩ (by simp only; omega)
      unfold dirI'
      rw [offs_succ]
      simp
    · have : i = l.length := by omega
      subst this
      obtain ⟨c, hc1, hc2, hc3⟩ := crc_nat (dirI' l l.length)
      have b4 := bytes_eq N c 4 (by omega) (by omega) hN
      rw [h4] at b4
      rw [if_neg (by omega), gate_pos (room_of (by omega) (by omega)), gate_pos (room_of (by simp only [List.length_append, List.length_cons, List.length_nil]; omega) (by simp only [List.length_append, List.length_cons, List.length_nil]; omega)), bindO_of b3,
        gate_pos (room_of (by simp only [List.length_append, List.length_cons, List.length_nil, leB_len]; omega) (by simp only [List.length_append, List.length_cons, List.length_nil, leB_len]; omega)), bindO_of (sumCrc_eq N _ (by omega) (by omega) (by omega)), hc1, bindO_of b4,
        gate_pos (room_of (by simp only [List.length_append, List.length_cons, List.length_nil, leB_len]; omega) (by simp only [List.length_append, List.length_cons, List.length_nil, leB_len]; omega))]
      have ha : bodyI l l.length ++ dirI' l l.length ++ [101] ++ leB 3 (bodyI l l.length).length ++ leB 4 c = archiveI l := by
        unfold archiveI; rw [hc3]
      rw [ha]
      by_cases hbig : 65536 < (archiveI l).length
      · rw [if_pos (by omega), if_pos hbig]
      · rw [if_neg (by omega), if_neg hbig]
  · rw [if_pos (by simpa using hr), if_neg hr]

/-! ### the reference -/
theorem set_loop4 {R : Type} (N : Nat) (s : R) (k0 : (List Int × List Int × List Int × List Int × Unit) → R) (base p q r : List Int) (lo k n : Nat) (hk : lo + k ≤ base.length) (hb : base.length ≤ 140737488355328) (hn : n < 4611686018427387904) (Q : R → Prop)
    (h : Q (k0 (base.take lo ++ leB k n ++ base.drop (lo + k), p, q, r, ()))) (m : Nat) (hm : k < m) (hi : Int) (hhi : hi = (lo : Int) + k) (cnt : Int) (hc : cnt = k) (nn : Int) (hnn : nn = n) (llo : Int) (hllo : llo = lo) :
    Q (iter (wrackref2_ArchBytes_i0_wrackref2_set.s0 N s k0 (cnt, ())) s m (base, p, q, r, llo, hi, nn, (0 : Int), ())) := by
  subst hhi; subst hc; subst hnn; subst hllo
  refine iter_rule (fun v => ∃ i : Nat, v = (base.take lo ++ leB i n ++ base.drop (lo + i), p, q, r, (lo : Int), (lo : Int) + k, ((n / 256 ^ i : Nat) : Int), (i : Int), ()) ∧ i ≤ k) (fun v => k - v.2.2.2.2.2.2.2.1.toNat) Q ?_ m _ ⟨0, by simp [leB_zero], Nat.zero_le _⟩ (by simp only; omega)
  rintro v again ⟨i, rfl, hi⟩ hag
  unfold wrackref2_ArchBytes_i0_wrackref2_set.s0
  simp only [decide_eq_true_eq]
  by_cases hlt : i < k
  · have hl := le_len base lo i n (by omega)
    have e0 : (lo : Int) + (i : Int) = ((lo + i : Nat) : Int) := by omega
    have hd : n / 256 ^ i < 4611686018427387904 := Nat.lt_of_le_of_lt (Nat.div_le_self _ _) hn
    rw [if_pos (by omega), gate_pos (by decide), gate_pos (inR_of (by omega) (by omega)), hl, gate_pos (inR_of (by omega) (by omega)), gate_pos (by decide), tmod_nat, tdiv_nat _ hd, e0, Int.toNat_natCast, le_set base lo i n (by omega), le_next, w64 (by omega) (by omega)]
    exact hag _ ⟨i + 1, by simp, by omega⟩ (by simp only; omega)
  · rw [if_neg (by omega)]
    have : i = k := by omega
    subst this
    exact h

theorem archBytes_eq (N : Nat) (l : List Itm) (hl : l.length ≤ 30) (hd : ∀ e ∈ l, e.2.length ≤ 2048) (hp : ∀ e ∈ l, e.1.length ≤ 1048576) (hN : 1048577 < N) : wrackref2_ArchBytes N l = some (archiveI l) := by
  unfold wrackref2_ArchBytes
  simp only
  have e0 : (3 : Int) * (l.length : Int) = ((3 * l.length : Nat) : Int) := by omega
  have e1 : (2 : Int) + ((3 * l.length : Nat) : Int) = ((2 + 3 * l.length : Nat) : Int) := by omega
  rw [e0, w64 (x := ((3 * l.length : Nat) : Int)) (by omega) (by omega), e1, w64 (x := ((2 + 3 * l.length : Nat) : Int)) (by omega) (by omega)]
  rw [gate_pos (by rw [Bool.and_eq_true]; exact ⟨by simp; omega, room_of (by rw [Int.toNat_natCast]; omega) (by rw [Int.toNat_natCast]; omega)⟩), Int.toNat_natCast]
  have t0 : ((0 : Int)).toNat = 0 := rfl
  have t1 : ((1 : Int)).toNat = 1 := rfl
  have t8 : ((8 : Int)).toNat = 8 := rfl
  simp only [t0, t1, t8]
  have hset : ((List.replicate (2 + 3 * l.length) (0 : Int)).set 0 100).set 1 (IntKind.wrap .u8 (l.length : Int)) = [100, IntKind.wrap .u8 (l.length : Int)] ++ List.replicate (3 * l.length) 0 := by
    rw [show 2 + 3 * l.length = 3 * l.length + 1 + 1 by omega]
    simp [List.replicate_succ]
  rw [gate_pos (inR_of (by omega) (by simp; omega)), gate_pos (inR_of (by omega) (by simp; omega)), gate_pos (inR_of (by omega) (by simp; omega)), gate_pos (inR_of (by omega) (by simp; omega)), hset]
  refine iter_rule (fun v => ∃ i : Nat, v = (dirI' l i ++ List.replicate (3 * (l.length - i)) 0, bodyI l i, (i : Int), ()) ∧ i ≤ l.length) (fun v => l.length - v.2.2.1.toNat) (fun o => o = some (archiveI l)) ?_ N _ ⟨0, by simp [bodyI, dirI', offsI], Nat.zero_le _⟩ (by simp only; omega)
  rintro v again ⟨i, rfl, hi⟩ hag
  unfold wrackref2_ArchBytes.s0
  simp only [decide_eq_true_eq]
  have hb := body_len l hp hd i hi
  have hbi : i * 1050635 ≤ 30 * 1050635 := Nat.mul_le_mul_right _ (by omega)
  have ho := offs_len l i
  have hdl : (dirI' l i).length = 2 + 3 * i := by unfold dirI'; rw [List.length_append, ho]; rfl
  have hdz : (dirI' l i ++ List.replicate (3 * (l.length - i)) (0 : Int)).length = 2 + 3 * l.length := by rw [List.length_append, hdl, List.length_replicate]; omega
  by_cases hlt : i < l.length
  · have he := itemBytes_eq N (l.getD i ([], [])) (hp _ (itm_mem hlt)) (by have := hd _ (itm_mem hlt); omega) hN
    have hel := entry_len (l.getD i ([], []))
    have e3 := hp _ (itm_mem hlt)
    have e4 := hd _ (itm_mem hlt)
    have e5 : (3 : Int) * (i : Int) = ((3 * i : Nat) : Int) := by omega
    have e6 : (2 : Int) + ((3 * i : Nat) : Int) = ((2 + 3 * i : Nat) : Int) := by omega
    have e7 : (5 : Int) + ((3 * i : Nat) : Int) = ((5 + 3 * i : Nat) : Int) := by omega
    rw [if_pos (by omega), gate_pos (inR_of (by omega) (by omega)), e5, w64 (x := ((3 * i : Nat) : Int)) (by omega) (by omega), e6, e7, w64 (x := ((2 + 3 * i : Nat) : Int)) (by omega) (by omega), w64 (x := ((5 + 3 * i : Nat) : Int)) (by omega) (by omega), hdz, gate_pos (bounds_of (by omega) (by omega) (by omega)), getI_nat]
    refine set_loop4 N none _ _ _ _ _ (2 + 3 * i) 3 (bodyI l i).length (by rw [hdz]; omega) (by rw [hdz]; omega) (by omega) (fun o => o = some (archiveI l)) ?_ N (by omega) _ (by omega) _ (by omega) _ rfl _ rfl
    have f := fill_next (dirI' l i) (leB 3 (bodyI l i).length) (3 * (l.length - i)) 3 (by omega) (leB_len _ _)
    rw [hdl] at f
    rw [f]
    have hx : ((l.getD i ([], [])).1, (l.getD i ([], [])).2) = l.getD i ([], []) := rfl
    simp only [hx]
    rw [bindO_of he, gate_pos (room_of (by omega) (by omega)), ← body_succ l i hlt, w64 (by omega) (by omega)]
    refine hag _ ⟨i + 1, ?_, by omega⟩ (by simp only; omega)
    unfold dirI'
    rw [offs_succ, show 3 * (l.length - (i + 1)) = 3 * (l.length - i) - 3 by omega]
    simp
  · have : i = l.length := by omega
    subst this
    obtain ⟨c, hc1, hc2, hc3⟩ := crc_nat (dirI' l l.length)
    have i1 : @wrackref2_ArchBytes_i1_wrackref2_set.s0 = @wrackref2_ItemBytes_i0_wrackref2_set.s0 := rfl
    have i2 : @wrackref2_ArchBytes_i2_wrackref2_set.s0 = @wrackref2_ItemBytes_i0_wrackref2_set.s0 := rfl
    have hz : (List.replicate 8 (0 : Int)).set 0 101 = [101] ++ List.replicate 7 0 := rfl
    have hdd : dirI' l l.length ++ List.replicate (3 * (l.length - l.length)) (0 : Int) = dirI' l l.length := by simp
    rw [if_neg (by omega), hdd, gate_pos (by decide), gate_pos (by decide), gate_pos (by decide), hz, gate_pos (by decide), i1]
    refine set_loop N none _ _ _ _ 1 3 (bodyI l l.length).length (by decide) (by decide) (by omega) (fun o => o = some (archiveI l)) ?_ N (by omega) _ (by decide) _ (by decide) _ rfl _ rfl
    have f := fill_next [(101 : Int)] (leB 3 (bodyI l l.length).length) 7 3 (by omega) (leB_len _ _)
    have f : List.take 1 ([101] ++ List.replicate 7 (0 : Int)) ++ leB 3 (bodyI l l.length).length ++ List.drop (1 + 3) ([101] ++ List.replicate 7 (0 : Int)) = ([101] ++ leB 3 (bodyI l l.length).length) ++ List.replicate 4 0 := f
    rw [f]
    simp only
    have hl4 : (([101] ++ leB 3 (bodyI l l.length).length) ++ List.replicate 4 (0 : Int)).length = 8 := by simp [leB_len]
    rw [hl4, gate_pos (by decide), bindO_of (refCrc_eq N _ (by omega) (by omega) (by omega)), i2]
    refine set_loop N none _ _ _ _ 4 4 c (by rw [hl4]; omega) (by rw [hl4]; omega) (by omega) (fun o => o = some (archiveI l)) ?_ N (by omega) _ (by decide) _ (by decide) _ hc1 _ rfl
    have f2 := fill_next ([101] ++ leB 3 (bodyI l l.length).length) (leB 4 c) 4 4 (by omega) (leB_len _ _)
    have hl3 : ([101] ++ leB 3 (bodyI l l.length).length).length = 4 := by simp [leB_len]
    rw [hl3] at f2
    rw [f2]
    simp only
    have hflat : [bodyI l l.length, dirI' l l.length, ([101] ++ leB 3 (bodyI l l.length).length ++ leB 4 c) ++ List.replicate (4 - 4) 0].flatten = archiveI l := by
      unfold archiveI
      rw [hc3]
      simp
    have := concat_eq N [bodyI l l.length, dirI' l l.length, ([101] ++ leB 3 (bodyI l l.length).length ++ leB 4 c) ++ List.replicate (4 - 4) 0] (by simp) (by simp [leB_len]; omega) hN
    rw [bindO_of this, hflat]

end Go.Proofs.YteekijpcdcpjkaaDoor
