/-
  PLAIN LAW: ArchReads.
-/
import Derived.Test.YteekijpcdcpjkaaDoorPuPlaces
import Derived.Test.YteekijpcdcpjkaaDoorPuRefItem
import Derived.Test.YteekijpcdcpjkaaDoorPuItems
import Derived.Test.YteekijpcdcpjkaaDoorPuEqInt
set_option linter.unusedVariables false
set_option linter.unusedSimpArgs false
namespace Go.Proofs.YteekijpcdcpjkaaDoor
open Go Go.Ab

/-! ### equal lists of entries -/
theorem sameOne_eq (N : Nat) (a b : Itm) : wrackref2_SameItems_1 N a b = some (decide (a = b)) := by
  obtain ⟨a1, a2⟩ := a
  obtain ⟨b1, b2⟩ := b
  unfold wrackref2_SameItems_1
  by_cases h1 : a1 = b1
  · simp [bindO, h1]
  · simp [bindO, h1]

theorem sameItems_eq (N : Nat) (a b : List Itm) (ha : a.length ≤ 1048576) (hN : 1048577 < N) : wrackref2_SameItems N a b = some (decide (a = b)) := by
  unfold wrackref2_SameItems
  simp only [Bool.not_eq_true', decide_eq_false_iff_not]
  by_cases hl : a.length = b.length
  · rw [if_neg (by omega)]
    refine iter_rule (fun v => ∃ i : Nat, v = ((i : Int), ()) ∧ i ≤ a.length ∧ ∀ j, j < i → a.getD j ([], []) = b.getD j ([], [])) (fun v => a.length - v.1.toNat)
      (fun o => o = some (decide (a = b))) ?_ N _ ⟨0, rfl, Nat.zero_le _, fun j hj => absurd hj (Nat.not_lt_zero _)⟩ (by simp only; omega)
    rintro v again ⟨i, rfl, hi, hall⟩ hag
    unfold wrackref2_SameItems_i0_slices_EqualFunc.s0
    simp only [decide_eq_true_eq]
    by_cases hlt : i < a.length
    · rw [if_pos (by omega), gate_pos (inR_of (by omega) (by omega)), gate_pos (inR_of (by omega) (by omega)), getI_nat, getI_nat, bindO_of (sameOne_eq N _ _)]
      by_cases h : a.getD i ([], []) = b.getD i ([], [])
      · rw [decide_eq_true h, if_neg (by decide), w64 (by omega) (by omega)]
        refine hag _ ⟨i + 1, by simp, by omega, fun j hj => ?_⟩ (by simp only; omega)
        rcases Nat.lt_or_eq_of_le (Nat.le_of_lt_succ hj) with h1 | h1
        · exact hall j h1
        · subst h1; exact h
      · rw [decide_eq_false h, if_pos (by rfl)]
        simp only [Option.some.injEq, Bool.false_eq, decide_eq_false_iff_not]
        exact fun e => h (by rw [e])
    · rw [if_neg (by omega)]
      have : a = b := List.ext_getElem hl fun j h1 h2 => by
        have := hall j (by omega)
        rw [List.getD_eq_getElem?_getD, List.getElem?_eq_getElem h1, List.getD_eq_getElem?_getD, List.getElem?_eq_getElem h2] at this
        exact this
      simp [this]
  · rw [if_pos (by omega)]
    simp only [Option.some.injEq, Bool.false_eq, decide_eq_false_iff_not]
    exact fun e => hl (by rw [e])

/-! ### an entry's error, its path -/
theorem item_err (c : List Int) (a : Nat) : (itemI c a).2.2 = 0 ∨ (itemI c a).2.2 = 3 ∨ (itemI c a).2.2 = 13 ∨ (itemI c a).2.2 = 15 := by
  unfold itemI itemX
  simp only
  repeat' split
  all_goals simp
theorem item_path (c : List Int) (a : Nat) : (itemI c a).1.1.length ≤ c.length := by
  unfold itemI itemX partB
  simp only
  repeat' split
  all_goals simp
  all_goals omega

/-! ### the whole archive -/
def chkN (N : Nat) (l : List Itm) : Int := (arch_Check N l).getD 0
theorem chkN_eq (N : Nat) (l : List Itm) (hp : ∀ e ∈ l, e.1.length ≤ 1048576) (hN : 1048577 < N) : arch_Check N l = some (chkN N l) ∧ wrackref2_ItemsErr N l = some (chkN N l) := by
  obtain ⟨r, h1, h2, _⟩ := icheck_same N l hp hN
  have : chkN N l = r := by unfold chkN; rw [h1]; rfl
  rw [this]
  exact ⟨h1, h2⟩

def getR (c path : List Int) : List Int → Itm × Int
  | [] => (([], []), 8)
  | p :: r => if (itemI c p.toNat).2.2 ≠ 0 then (([], []), (itemI c p.toNat).2.2) else if (itemI c p.toNat).1.1 = path then ((itemI c p.toNat).1, 0) else getR c path r

def readR (N : Nat) (c : List Int) (e : Int) : Int → List Itm → List Int → List Itm × Int
  | next, out, [] => if next ≠ e ∨ chkN N out ≠ 0 then ([], 3) else (out, 0)
  | next, out, p :: r => if p ≠ next then ([], 3) else if (itemI c p.toNat).2.2 ≠ 0 then ([], (itemI c p.toNat).2.2) else readR N c e (itemI c p.toNat).2.1 (out ++ [(itemI c p.toNat).1]) r

theorem drop_nat {ps : List Int} {i : Nat} (h : i < ps.length) : ps.drop i = ps.getD i 0 :: ps.drop (i + 1) := by
  rw [List.drop_eq_getElem_cons h, List.getD_eq_getElem?_getD, List.getElem?_eq_getElem h]
  rfl

/-- what is known of the places, said of the bytes ahead of the directory -/
structure Known (b : List Int) (ps : List Int) (a : Nat) : Prop where
  len : b.length ≤ 65536
  by_ : Bytes b
  fit : a ≤ b.length
  few : ps.length ≤ 255
  nat : ∀ p ∈ ps, ∃ q : Nat, p = (q : Int) ∧ q < 16777216

theorem Known.bytes {b ps : List Int} {a : Nat} (h : Known b ps a) : Bytes (b.take a) := fun y hy => h.by_ y (List.mem_of_mem_take hy)
theorem Known.small {b ps : List Int} {a : Nat} (h : Known b ps a) : (b.take a).length ≤ 65536 := by
  have := h.len
  rw [List.length_take]
  omega
theorem cut_take' (b : List Int) (a : Nat) : cut b (0 : Int) (a : Int) = b.take a := by
  have := cut_nat b 0 a (Nat.zero_le _)
  simpa using this

theorem read_eq (N : Nat) (b ps : List Int) (a : Nat) (hpl : placesI b = (ps, (a : Int), 0)) (hk : Known b ps a) (hN : 1048577 < N) : arch_Read N b = some (readR N (b.take a) (a : Int) 0 [] ps) := by
  unfold arch_Read
  have hlen := hk.len
  have hfit := hk.fit
  have hfew := hk.few
  rw [bindO_of (places_eq N b hk.by_ hN), hpl]
  rw [if_neg (by simp)]
  refine iter_rule (fun v => ∃ (out : List Itm) (next : Int) (i : Nat), v = (out, next, ps, (i : Int), ()) ∧ i ≤ ps.length ∧ out.length = i ∧ (∀ e ∈ out, e.1.length ≤ 1048576) ∧ readR N (b.take a) (a : Int) next out (ps.drop i) = readR N (b.take a) (a : Int) 0 [] ps) (fun v => ps.length - v.2.2.2.1.toNat)
    (fun o => o = some (readR N (b.take a) (a : Int) 0 [] ps)) ?_ N _ ⟨[], 0, 0, rfl, Nat.zero_le _, rfl, (fun e he => absurd he List.not_mem_nil), rfl⟩ (by simp only; omega)
  rintro v again ⟨out, next, i, rfl, hi, hol, hop, hres⟩ hag
  unfold arch_Read.s0
  simp only [decide_eq_true_eq]
  by_cases hlt : i < ps.length
  · obtain ⟨q, hq, hq2⟩ := hk.nat _ (getD_mem_b hlt)
    rw [drop_nat hlt] at hres
    rw [if_pos (by omega), gate_pos (inR_of (by omega) (by omega)), gate_pos (inR_of (by omega) (by omega)), getI_nat, hq, gate_pos (bounds_of (by omega) (by omega) (by omega)), cut_take', bindO_of (one_eq N _ q hk.bytes hk.small (by omega) hN)]
    rw [hq] at hres
    simp only [readR, Int.toNat_natCast] at hres
    by_cases h1 : (q : Int) = next
    · rw [if_neg (by simpa using h1)]
      rw [if_neg (by simpa using h1)] at hres
      by_cases h2 : (itemI (b.take a) q).2.2 = 0
      · rw [if_neg (by simpa using h2), gate_pos (room_of (by simp; omega) (by simp; omega)), w64 (by omega) (by omega)]
        rw [if_neg (by simpa using h2)] at hres
        refine hag _ ⟨_, _, i + 1, rfl, by omega, by simp [hol], fun e he => ?_, hres⟩ (by simp only; omega)
        rcases List.mem_append.1 he with he | he
        · exact hop e he
        · simp only [List.mem_singleton] at he
          subst he
          exact Nat.le_trans (item_path _ _) (Nat.le_trans hk.small (by decide))
      · rw [if_pos (by simpa using h2)]
        rw [if_pos h2] at hres
        rw [← hres]
    · rw [if_pos (by simpa using h1)]
      rw [if_pos h1] at hres
      rw [← hres]
  · rw [if_neg (by omega)]
    have : i = ps.length := by omega
    subst this
    rw [List.drop_length] at hres
    simp only [readR] at hres
    obtain ⟨hc, _⟩ := chkN_eq N out hop hN
    by_cases h1 : next = (a : Int)
    · rw [if_neg (by simpa using h1), bindO_of hc]
      simp only [bindO]
      by_cases h2 : chkN N out = 0
      · rw [if_neg (by simpa using h2), ← hres, if_neg (by rintro (h | h); exact h h1; exact h h2)]
      · rw [if_pos (by simpa using h2), ← hres, if_pos (Or.inr h2)]
    · rw [if_pos (by simpa using h1)]
      simp only [bindO, if_true]
      rw [← hres, if_pos (Or.inl h1)]

theorem get_eq' (N : Nat) (b path ps : List Int) (a : Nat) (hpl : placesI b = (ps, (a : Int), 0)) (hk : Known b ps a) (hN : 1048577 < N) : arch_Get N b path = some (getR (b.take a) path ps) := by
  unfold arch_Get
  have hlen := hk.len
  have hfit := hk.fit
  have hfew := hk.few
  rw [bindO_of (places_eq N b hk.by_ hN), hpl]
  rw [if_neg (by simp)]
  refine iter_rule (fun v => ∃ (m : List Int) (i : Nat), v = (ps, (i : Int), m, ()) ∧ i ≤ ps.length ∧ getR (b.take a) path (ps.drop i) = getR (b.take a) path ps) (fun v => ps.length - v.2.1.toNat)
    (fun o => o = some (getR (b.take a) path ps)) ?_ N _ ⟨[], 0, rfl, Nat.zero_le _, rfl⟩ (by simp only; omega)
  rintro v again ⟨m, i, rfl, hi, hres⟩ hag
  unfold arch_Get.s0
  simp only [decide_eq_true_eq]
  by_cases hlt : i < ps.length
  · obtain ⟨q, hq, hq2⟩ := hk.nat _ (getD_mem_b hlt)
    rw [drop_nat hlt, hq] at hres
    rw [if_pos (by omega), gate_pos (inR_of (by omega) (by omega)), gate_pos (inR_of (by omega) (by omega)), getI_nat, hq, gate_pos (bounds_of (by omega) (by omega) (by omega)), cut_take', bindO_of (one_eq N _ q hk.bytes hk.small (by omega) hN)]
    simp only [getR, Int.toNat_natCast] at hres
    by_cases h2 : (itemI (b.take a) q).2.2 = 0
    · rw [if_neg (by simpa using h2)]
      rw [if_neg (by simpa using h2)] at hres
      by_cases h3 : (itemI (b.take a) q).1.1 = path
      · rw [if_pos h3] at hres
        rw [if_pos h3, ← hres]
      · rw [if_neg h3] at hres
        rw [if_neg h3, w64 (by omega) (by omega)]
        exact hag _ ⟨m, i + 1, rfl, by omega, hres⟩ (by simp only; omega)
    · rw [if_pos (by simpa using h2)]
      rw [if_pos h2] at hres
      rw [← hres]
  · rw [if_neg (by omega)]
    have : i = ps.length := by omega
    subst this
    rw [List.drop_length] at hres
    rw [← hres]
    rfl

/-! ### the law -/
theorem archReads_true (N : Nat) (b path : List Int) (hb : Bytes b) (hN : 1048577 < N) : wracklaw2_ArchReads N b path = some true := by
  unfold wracklaw2_ArchReads
  have hp := places_eq N b hb hN
  have hr := refPlaces_eq N b hb hN
  have hnat := places_nat b hb
  obtain ⟨⟨ps, e1, e2⟩, hpl⟩ : ∃ x, placesI b = x := ⟨_, rfl⟩
  rw [hpl] at hp hr hnat
  have harch := archives_eq N (by omega : 1048576 < N)
  by_cases h0 : e2 = 0
  · subst h0
    obtain ⟨hlen, ⟨a, ha, hfit⟩, hfew, hps⟩ := hnat rfl
    have ha : e1 = (a : Int) := ha
    subst ha
    have hfew : ps.length ≤ 255 := hfew
    have hk : Known b ps a := ⟨hlen, hb, hfit, hfew, hps⟩
    have hread := read_eq N b ps a hpl hk hN
    have hget := get_eq' N b path ps a hpl hk hN
    rw [bindO_of hp, bindO_of hread, bindO_of hget, bindO_of hr, bindO_of harch]
    simp only [Bool.not_true, Bool.false_eq_true, if_false, decide_true]
    rw [equalInt_eq N ps ps (by omega) (by omega)]
    simp only [bindO, decide_true, Bool.not_true, Bool.false_eq_true, if_false]
    generalize hG : getR (b.take a) path ps = G
    generalize hR : readR N (b.take a) (a : Int) 0 [] ps = RR
    refine iter_rule (fun v => ∃ (all : List Itm) (h next i : Int) (k : Nat) (g1 g2 : List Int), v = (RR.1, all, h, next, i, ps, (k : Int), G.1.1, G.1.2, g1, g2, ()) ∧ k ≤ ps.length ∧ all.length = k ∧ (∀ e ∈ all, e.1.length ≤ 1048576) ∧
        ((h = 8 ∧ g1 = [] ∧ g2 = [] ∧ getR (b.take a) path (ps.drop k) = G) ∨ (h ≠ 8 ∧ G.2 = h ∧ (h = 0 → (g1, g2) = G.1) ∧ (h ≠ 0 → G.1 = ([], [])))) ∧
        ((i = 0 ∧ readR N (b.take a) (a : Int) next all (ps.drop k) = RR) ∨ (i ≠ 0 ∧ RR = ([], i)))) (fun v => ps.length - v.2.2.2.2.2.2.1.toNat)
      (fun o => o = some true) ?_ N _ ⟨[], 8, 0, 0, 0, [], [], rfl, Nat.zero_le _, rfl, (fun e he => absurd he List.not_mem_nil), Or.inl ⟨rfl, rfl, rfl, by rw [List.drop_zero]; exact hG⟩, Or.inl ⟨rfl, by rw [List.drop_zero]; exact hR⟩⟩ (by simp only; omega)
    rintro v again ⟨all, h, next, i, k, g1, g2, rfl, hkl, hal, hap, hGG, hRR⟩ hag
    unfold wracklaw2_ArchReads.s0
    simp only
    by_cases hlt : k < ps.length
    · obtain ⟨q, hq, hq2⟩ := hk.nat _ (getD_mem_b hlt)
      have hroom : roomFor (all.length + 1) 40 = true := room_of (by omega) (by omega)
      rw [drop_nat hlt, hq] at hGG hRR
      rw [if_pos (by simp; omega), gate_pos (inR_of (by omega) (by omega)), gate_pos (inR_of (by omega) (by omega)), getI_nat, hq, gate_pos (bounds_of (by omega) (by omega) (by omega)), cut_take', bindO_of (itemAt_eq N _ q hk.bytes hk.small (by omega) hN), w64 (x := (k : Int) + 1) (by omega) (by omega)]
      have hperr := item_err (b.take a) q
      have hppath := item_path (b.take a) q
      simp only [getR, readR, Int.toNat_natCast] at hGG hRR
      generalize hy : itemI (b.take a) q = y at *
      obtain ⟨⟨y1, y2⟩, y3, y4⟩ := y
      simp only at hGG hRR hperr hppath ⊢
      have hy1 : y1.length ≤ 1048576 := Nat.le_trans hppath (Nat.le_trans hk.small (by decide))
      have hap' : ∀ e ∈ all ++ [(y1, y2)], e.1.length ≤ 1048576 := fun e he => by
        rcases List.mem_append.1 he with he | he
        · exact hap e he
        · simp only [List.mem_singleton] at he
          subst he
          exact hy1
      have hlen' : (all ++ [(y1, y2)]).length = k + 1 := by simp [hal]
      have fin : ∀ (h' i' : Int) (g1' g2' : List Int), ((h' = 8 ∧ g1' = [] ∧ g2' = [] ∧ getR (b.take a) path (ps.drop (k + 1)) = G) ∨ (h' ≠ 8 ∧ G.2 = h' ∧ (h' = 0 → (g1', g2') = G.1) ∧ (h' ≠ 0 → G.1 = ([], [])))) →
          ((i' = 0 ∧ readR N (b.take a) (a : Int) y3 (all ++ [(y1, y2)]) (ps.drop (k + 1)) = RR) ∨ (i' ≠ 0 ∧ RR = ([], i'))) → again (RR.1, all ++ [(y1, y2)], h', y3, i', ps, (k : Int) + 1, G.1.1, G.1.2, g1', g2', ()) = some true :=
        fun h' i' g1' g2' hx1 hx2 => hag _ ⟨all ++ [(y1, y2)], h', y3, i', k + 1, g1', g2', rfl, by omega, hlen', hap', hx1, hx2⟩ (by simp only; omega)
      have hy8 : y4 ≠ 8 := by omega
      rcases hGG with ⟨rfl, rfl, rfl, hGr⟩ | ⟨hne, hG2, hG3, hG4⟩
      · by_cases hy4 : y4 = 0
        · subst hy4
          rw [if_neg (by simp)] at hGr
          by_cases hyp : y1 = path
          · subst hyp
            rw [if_pos rfl] at hGr
            have hinv : ((0 : Int) = 8 ∧ y1 = [] ∧ y2 = [] ∧ getR (b.take a) y1 (ps.drop (k + 1)) = G) ∨ ((0 : Int) ≠ 8 ∧ G.2 = 0 ∧ ((0 : Int) = 0 → (y1, y2) = G.1) ∧ ((0 : Int) ≠ 0 → G.1 = ([], []))) :=
              Or.inr ⟨by decide, by rw [← hGr], fun _ => by rw [← hGr], fun h => absurd rfl h⟩
            rcases hRR with ⟨rfl, hRr⟩ | ⟨hine, hRe⟩
            · by_cases hpn : (q : Int) = next
              · subst hpn
                rw [if_neg (by simp)] at hRr
                rw [if_neg (by simp)] at hRr
                simp [bindO]
                rw [gate_pos hroom]
                exact fin 0 0 y1 y2 hinv (Or.inl ⟨rfl, hRr⟩)
              · rw [if_pos hpn] at hRr
                simp [bindO, hpn]
                rw [gate_pos hroom]
                exact fin 0 3 y1 y2 hinv (Or.inr ⟨by decide, hRr.symm⟩)
            · simp [bindO, hine]
              rw [gate_pos hroom]
              exact fin 0 i y1 y2 hinv (Or.inr ⟨hine, hRe⟩)
          · rw [if_neg hyp] at hGr
            have hinv : ((8 : Int) = 8 ∧ ([] : List Int) = [] ∧ ([] : List Int) = [] ∧ getR (b.take a) path (ps.drop (k + 1)) = G) ∨ ((8 : Int) ≠ 8 ∧ G.2 = 8 ∧ ((8 : Int) = 0 → (([] : List Int), ([] : List Int)) = G.1) ∧ ((8 : Int) ≠ 0 → G.1 = ([], []))) := Or.inl ⟨rfl, rfl, rfl, hGr⟩
            rcases hRR with ⟨rfl, hRr⟩ | ⟨hine, hRe⟩
            · by_cases hpn : (q : Int) = next
              · subst hpn
                rw [if_neg (by simp)] at hRr
                rw [if_neg (by simp)] at hRr
                simp [bindO, hyp]
                rw [gate_pos hroom]
                exact fin 8 0 [] [] hinv (Or.inl ⟨rfl, hRr⟩)
              · rw [if_pos hpn] at hRr
                simp [bindO, hyp, hpn]
                rw [gate_pos hroom]
                exact fin 8 3 [] [] hinv (Or.inr ⟨by decide, hRr.symm⟩)
            · simp [bindO, hyp, hine]
              rw [gate_pos hroom]
              exact fin 8 i [] [] hinv (Or.inr ⟨hine, hRe⟩)
        · rw [if_pos hy4] at hGr
          have hinv : (y4 = 8 ∧ ([47] : List Int) = [] ∧ ([] : List Int) = [] ∧ getR (b.take a) path (ps.drop (k + 1)) = G) ∨ (y4 ≠ 8 ∧ G.2 = y4 ∧ (y4 = 0 → (([47] : List Int), ([] : List Int)) = G.1) ∧ (y4 ≠ 0 → G.1 = ([], []))) :=
            Or.inr ⟨hy8, by rw [← hGr], fun h => absurd h hy4, fun _ => by rw [← hGr]⟩
          rcases hRR with ⟨rfl, hRr⟩ | ⟨hine, hRe⟩
          · by_cases hpn : (q : Int) = next
            · subst hpn
              rw [if_neg (by simp)] at hRr
              rw [if_pos hy4] at hRr
              simp [bindO, hy4, hy4]
              rw [gate_pos hroom]
              exact fin y4 y4 [47] [] hinv (Or.inr ⟨hy4, hRr.symm⟩)
            · rw [if_pos hpn] at hRr
              simp [bindO, hy4, hpn]
              rw [gate_pos hroom]
              exact fin y4 3 [47] [] hinv (Or.inr ⟨by decide, hRr.symm⟩)
          · simp [bindO, hy4, hine]
            rw [gate_pos hroom]
            exact fin y4 i [47] [] hinv (Or.inr ⟨hine, hRe⟩)
      · have hinv : (h = 8 ∧ g1 = [] ∧ g2 = [] ∧ getR (b.take a) path (ps.drop (k + 1)) = G) ∨ (h ≠ 8 ∧ G.2 = h ∧ (h = 0 → (g1, g2) = G.1) ∧ (h ≠ 0 → G.1 = ([], []))) := Or.inr ⟨hne, hG2, hG3, hG4⟩
        rcases hRR with ⟨rfl, hRr⟩ | ⟨hine, hRe⟩
        · by_cases hpn : (q : Int) = next
          · subst hpn
            rw [if_neg (by simp)] at hRr
            by_cases hy4 : y4 = 0
            · subst hy4
              rw [if_neg (by simp)] at hRr
              simp [bindO, hne]
              rw [gate_pos hroom]
              exact fin h 0 g1 g2 hinv (Or.inl ⟨rfl, hRr⟩)
            · skip
              rw [if_pos hy4] at hRr
              simp [bindO, hne, hy4]
              rw [gate_pos hroom]
              exact fin h y4 g1 g2 hinv (Or.inr ⟨hy4, hRr.symm⟩)
          · rw [if_pos hpn] at hRr
            simp [bindO, hne, hpn]
            rw [gate_pos hroom]
            exact fin h 3 g1 g2 hinv (Or.inr ⟨by decide, hRr.symm⟩)
        · simp [bindO, hne, hine]
          rw [gate_pos hroom]
          exact fin h i g1 g2 hinv (Or.inr ⟨hine, hRe⟩)
    · rw [if_neg (by simp; omega)]
      have : k = ps.length := by omega
      subst this
      rw [List.drop_length] at hGG hRR
      simp only [getR, readR] at hGG hRR
      obtain ⟨_, hchk⟩ := chkN_eq N all hap hN
      have hsame : ∀ x : List Itm, x.length ≤ 1048576 → wrackref2_SameItems N x x = some true := fun x hx => by
        rw [sameItems_eq N x x hx hN]; simp
      have s0 := hsame [] (by simp)
      have s1 := hsame all (by omega)
      have s2 := hsame [([], [])] (by simp)
      have hx : ∃ m : Itm, (∀ {X : Type} (f : List Int → List Int → Option X), (bindO (if (!decide (h = 0)) = true then some (RR.1, all, G.1.1, G.1.2, [], [], ()) else some (RR.1, all, G.1.1, G.1.2, g1, g2, ()) : Option (List Itm × List Itm × List Int × List Int × List Int × List Int × Unit)) (fun j => f j.2.2.2.2.1 j.2.2.2.2.2.1) none) = f m.1 m.2) ∧ G = (m, h) := by
        rcases hGG with ⟨rfl, rfl, rfl, hGr⟩ | ⟨hne, hG2, hG3, hG4⟩
        · exact ⟨([], []), fun f => by simp [bindO], hGr.symm⟩
        · by_cases hh : h = 0
          · refine ⟨(g1, g2), fun f => by simp [bindO, hh], ?_⟩
            rw [hG3 hh, ← hG2]
          · refine ⟨([], []), fun f => by simp [bindO, hh], ?_⟩
            rw [← hG4 hh, ← hG2]
      obtain ⟨m, hm1, hm2⟩ := hx
      have s3 := hsame [(m.1, m.2)] (by simp)
      have key : ∀ (p1 p2 : List Int), (p1, p2) = m → bindO (if (decide (i = 0)) = true then (if (!decide (next = (a : Int))) = true then some true else bindO (wrackref2_ItemsErr N all) (fun r => some (!decide (r = (0 : Int)))) none) else some false : Option Bool) (fun c =>
          bindO (if c = true then some (RR.1, all, (3 : Int), G.1.1, G.1.2, p1, p2, ()) else some (RR.1, all, i, G.1.1, G.1.2, p1, p2, ()) : Option (List Itm × List Itm × Int × List Int × List Int × List Int × List Int × Unit)) (fun j =>
            bindO (if (!decide (j.2.2.1 = 0)) = true then some (j.1, [], j.2.2.2.1, j.2.2.2.2.1, j.2.2.2.2.2.1, j.2.2.2.2.2.2.1, ()) else some (j.1, j.2.1, j.2.2.2.1, j.2.2.2.2.1, j.2.2.2.2.2.1, j.2.2.2.2.2.2.1, ()) : Option (List Itm × List Itm × List Int × List Int × List Int × List Int × Unit)) (fun j2 =>
              if (decide (RR.2 = j.2.2.1)) = true then bindO (wrackref2_SameItems N j2.1 j2.2.1) (fun r => if r = true then (if (decide (G.2 = h)) = true then bindO (wrackref2_SameItems N [(j2.2.2.1, j2.2.2.2.1)] [(j2.2.2.2.2.1, j2.2.2.2.2.2.1)]) (fun r => some r) none else some false) else some false) none else some false) none) none) none = some true := by
        intro p1 p2 hpm
        subst hpm
        subst hm2
        have s3' : wrackref2_SameItems N [(p1, p2)] [(p1, p2)] = some true := s3
        rcases hRR with ⟨rfl, hRr⟩ | ⟨hine, hRe⟩
        · by_cases h1 : next = (a : Int)
          · by_cases h2 : chkN N all = 0
            · rw [if_neg (by rintro (h | h); exact h h1; exact h h2)] at hRr
              subst hRr
              simp [bindO, h1, hchk, h2, s1, s3']
            · rw [if_pos (Or.inr h2)] at hRr
              subst hRr
              simp [bindO, h1, hchk, h2, s0, s3']
          · rw [if_pos (Or.inl h1)] at hRr
            subst hRr
            simp [bindO, h1, s0, s3']
        · subst hRe
          simp [bindO, hine, s0, s3']
      rcases hGG with ⟨rfl, rfl, rfl, hGr⟩ | ⟨hne, hG2, hG3, hG4⟩
      · have := key [] [] (by rw [hm2] at hGr; exact congrArg Prod.fst hGr)
        simpa [bindO] using this
      · by_cases hh : h = 0
        · have := key g1 g2 (by rw [hG3 hh, hm2])
          simpa [bindO, hh] using this
        · have := key [] [] (by rw [← hG4 hh, hm2])
          simpa [bindO, hh] using this
  · have hread : arch_Read N b = some ([], e2) := by
      unfold arch_Read
      rw [bindO_of hp, if_pos (by simpa using h0)]
    have hget : arch_Get N b path = some (([], []), e2) := by
      unfold arch_Get
      rw [bindO_of hp, if_pos (by simpa using h0)]
    have hps : ps = [] := by
      unfold placesI at hpl
      simp only at hpl
      repeat' split at hpl
      all_goals first | (simp only [Prod.mk.injEq] at hpl; exact hpl.1.symm) | (simp only [Prod.mk.injEq] at hpl; exact absurd hpl.2.2.symm h0)
    subst hps
    rw [bindO_of hp, bindO_of hread, bindO_of hget, bindO_of hr, bindO_of harch]
    have he := equalInt_eq N [] [] (by simp) (by simp; omega)
    simp [bindO, he, h0]

end Go.Proofs.YteekijpcdcpjkaaDoor
