/-
  PLAIN LAW: a picture is read as it was written (parts of PixBack).
-/
import Derived.Test.YteekijpcdcpjkaaPuPixRead
import Derived.Test.YteekijpcdcpjkaaPuPicture
set_option linter.unusedVariables false
set_option linter.unusedSimpArgs false
namespace Go.Proofs.Yteekijpcdcpjkaa
open Go Go.Ab

theorem rowDots_append (a b : List Int) : rowDots (a ++ b) = rowDots a ++ rowDots b := by
  unfold rowDots; rw [List.flatMap_append]
theorem rowDots_one (c : Int) : rowDots [c] = List.replicate (c / 16 + 1).toNat (c % 16) := by
  unfold rowDots; simp

/-- one dot more, and the dots that it stands for -/
theorem push_dots (cs : List Int) (d : Int) (hcs : ∀ c ∈ cs, 0 ≤ c ∧ c < 256) (hd : 0 ≤ d ∧ d < 16) : ∃ cs', pushDot (0 :: cs) d = 0 :: cs' ∧ rowDots cs' = rowDots cs ++ [d] ∧ (∀ c ∈ cs', 0 ≤ c ∧ c < 256) ∧ cs'.length ≤ cs.length + 1 := by
  rcases List.eq_nil_or_concat cs with h | ⟨pre, l, h⟩
  · subst h
    refine ⟨[d], by simp [pushDot], ?_, by simp; omega, by simp⟩
    rw [rowDots_one]
    have e1 : (d / 16 + 1).toNat = 1 := by omega
    have e2 : d % 16 = d := by omega
    rw [e1, e2]; rfl
  · rw [List.concat_eq_append] at h
    subst h
    have hl := hcs l (by simp)
    have e : 0 :: (pre ++ [l]) = (0 :: pre) ++ [l] := rfl
    rw [e, pushDot_end]
    by_cases hc : 1 < (0 :: pre).length + 1 ∧ l % 16 = d ∧ l < 240
    · rw [if_pos hc]
      refine ⟨pre ++ [l + 16], rfl, ?_, fun c hm => ?_, by simp⟩
      · rw [rowDots_append, rowDots_append, rowDots_one, rowDots_one, List.append_assoc]
        congr 1
        have e1 : ((l + 16) / 16 + 1).toNat = (l / 16 + 1).toNat + 1 := by omega
        have e2 : (l + 16) % 16 = d := by omega
        rw [e1, e2, hc.2.1, List.replicate_succ']
      · rcases List.mem_append.1 hm with hm | hm
        · exact hcs c (by simp [hm])
        · simp only [List.mem_singleton] at hm; subst hm; omega
    · rw [if_neg hc]
      refine ⟨pre ++ [l] ++ [d], rfl, ?_, fun c hm => ?_, by simp⟩
      · rw [rowDots_append, rowDots_one]
        congr 1
        have e1 : (d / 16 + 1).toNat = 1 := by omega
        have e2 : d % 16 = d := by omega
        rw [e1, e2]; rfl
      · rcases List.mem_append.1 hm with hm | hm
        · exact hcs c hm
        · simp only [List.mem_singleton] at hm; subst hm; omega

theorem fold_dots : ∀ (ds cs : List Int), (∀ x ∈ ds, 0 ≤ x ∧ x < 16) → (∀ c ∈ cs, 0 ≤ c ∧ c < 256) → ∃ cs', ds.foldl pushDot (0 :: cs) = 0 :: cs' ∧ rowDots cs' = rowDots cs ++ ds ∧ (∀ c ∈ cs', 0 ≤ c ∧ c < 256) ∧ cs'.length ≤ cs.length + ds.length := by
  intro ds
  induction ds with
  | nil => intro cs _ hcs; exact ⟨cs, rfl, by simp, hcs, by simp⟩
  | cons d ds ih =>
    intro cs hds hcs
    obtain ⟨c1, e1, e2, e3, e4⟩ := push_dots cs d hcs (hds d (by simp))
    obtain ⟨c2, f1, f2, f3, f4⟩ := ih c1 (fun x hx => hds x (by simp [hx])) e3
    refine ⟨c2, by rw [List.foldl_cons, e1, f1], by rw [f2, e2]; simp, f3, by simp; omega⟩

/-- A row's bytes: how many codes, the codes, the checksum. -/
theorem row_form (ds : List Int) (hds : ∀ x ∈ ds, 0 ≤ x ∧ x < 16) (hl : ds.length ≤ 64) : ∃ cs, rowBytes ds = ((cs.length : Int) :: cs) ++ [crcOf ((cs.length : Int) :: cs) % 256] ∧ rowDots cs = ds ∧ (∀ c ∈ cs, 0 ≤ c ∧ c < 256) ∧ cs.length ≤ ds.length := by
  obtain ⟨cs, e1, e2, e3, e4⟩ := fold_dots ds [] hds (by simp)
  simp only [List.length_nil, Nat.zero_add] at e4
  refine ⟨cs, ?_, by rw [e2]; rfl, e3, e4⟩
  unfold rowBytes rowCodes sealRow
  rw [e1]
  have h1 : (((0 :: cs).length : Nat) : Int) - 1 = (cs.length : Int) := by simp
  rw [h1, wu8 (by omega) (by omega), wu8_mod]
  rfl

/-- reading a row: its checksum is right, or it is not -/
theorem readGo_row (w : Nat) (k : Nat) (y z : Int) (cs rest bad dots : List Int) (hcs : cs.length ≤ 64) (hl : (rowDots cs).length = w) :
    readGo w (k + 1) y (((cs.length : Int) :: cs) ++ [z] ++ rest) bad dots =
      if crcOf ((cs.length : Int) :: cs) % 256 = z then readGo w k (y + 1) rest bad (dots ++ rowDots cs) else readGo w k (y + 1) rest (bad ++ [y]) (dots ++ List.replicate w 0) := by
  simp only [readGo]
  have g0 : (((cs.length : Int) :: cs) ++ [z] ++ rest).getD 0 0 = (cs.length : Int) := by simp
  rw [g0]
  have n1 : ((cs.length : Int)).toNat = cs.length := by omega
  have n2 : (1 + (cs.length : Int)).toNat = cs.length + 1 := by omega
  have n3 : (2 + (cs.length : Int)).toNat = cs.length + 2 := by omega
  rw [n1, n2, n3]
  have d1 : ((((cs.length : Int) :: cs) ++ [z] ++ rest).drop 1).take cs.length = cs := by
    show (cs ++ [z] ++ rest).take cs.length = cs
    rw [List.append_assoc, List.take_left' rfl]
  have d2 : (((cs.length : Int) :: cs) ++ [z] ++ rest).take (cs.length + 1) = (cs.length : Int) :: cs := by
    rw [List.append_assoc, List.take_left' (by simp)]
  have d3 : (((cs.length : Int) :: cs) ++ [z] ++ rest).getD (cs.length + 1) 0 = z := by
    have : (((cs.length : Int) :: cs) ++ [z] ++ rest) = ((cs.length : Int) :: cs) ++ (z :: rest) := by simp
    rw [this, List.getD_eq_getElem?_getD, List.getElem?_append_right (by simp)]
    simp
  have d4 : (((cs.length : Int) :: cs) ++ [z] ++ rest).drop (cs.length + 2) = rest := by
    rw [List.drop_left' (by simp)]
  rw [d1, d2, d3, d4, hl]
  rw [if_neg (by simp; omega)]
  by_cases hz : crcOf ((cs.length : Int) :: cs) % 256 = z
  · rw [if_neg (by simp [hz]), if_pos hz]
  · rw [if_pos (by simp [hz]), if_neg hz]
    simp

theorem readGo_rows (w : Nat) : ∀ (rows : List (List Int)) (k : Nat) (y : Int) (tail bad dots : List Int), w ≤ 64 → (∀ r ∈ rows, r.length = w ∧ ∀ x ∈ r, 0 ≤ x ∧ x < 16) →
    readGo w (rows.length + k) y (rows.flatMap rowBytes ++ tail) bad dots = readGo w k (y + rows.length) tail bad (dots ++ rows.flatten) := by
  intro rows
  induction rows with
  | nil => intro k y tail bad dots _ _; simp
  | cons r rows ih =>
    intro k y tail bad dots hw hr
    obtain ⟨h1, h2⟩ := hr r (by simp)
    obtain ⟨cs, e1, e2, e3, e4⟩ := row_form r h2 (by omega)
    have e : (r :: rows).length + k = (rows.length + k) + 1 := by simp; omega
    rw [e, List.flatMap_cons, e1, List.append_assoc, readGo_row w (rows.length + k) y _ cs _ bad dots (by omega) (by rw [e2]; exact h1), if_pos rfl, ih k _ tail bad _ hw (fun r hr' => hr r (by simp [hr'])), e2]
    have e5 : y + 1 + (rows.length : Int) = y + ((r :: rows).length : Int) := by simp; omega
    rw [e5]
    simp

theorem rowsOf_flat (w : Nat) (dots : List Int) : ∀ n, n * w ≤ dots.length → (rowsOf w dots n).flatten = dots.take (n * w) := by
  intro n
  induction n with
  | zero => intro _; simp [rowsOf]
  | succ n ih =>
    intro hn
    have e : (n + 1) * w = n * w + w := Nat.succ_mul n w
    have hr : rowsOf w dots (n + 1) = rowsOf w dots n ++ [(dots.drop (n * w)).take w] := by
      unfold rowsOf; rw [List.range_succ]; simp
    rw [hr, List.flatten_append, ih (by omega), e, List.take_add]
    simp

theorem rowsOf_ok {w h : Nat} {dots : List Int} (hl : dots.length = w * h) (hd : ∀ x ∈ dots, 0 ≤ x ∧ x < 16) : ∀ r ∈ rowsOf w dots h, r.length = w ∧ ∀ x ∈ r, 0 ≤ x ∧ x < 16 := by
  intro r hr
  have hm := rows_mem hr
  unfold rowsOf at hr
  obtain ⟨i, hi, rfl⟩ := List.mem_map.1 hr
  have hi := List.mem_range.1 hi
  have : i * w + w ≤ w * h := by rw [Nat.mul_comm w h, ← Nat.succ_mul]; exact Nat.mul_le_mul_right _ hi
  exact ⟨by simp; omega, fun x hx => hd x (hm.2 x hx)⟩

theorem rowsOf_len (w : Nat) (dots : List Int) (h : Nat) : (rowsOf w dots h).length = h := by unfold rowsOf; simp

/-- the head of a picture's bytes -/
theorem readPic_head (w h : Nat) (body : List Int) (w1 : 1 ≤ w) (w2 : w ≤ 64) (h1 : 1 ≤ h) (h2 : h ≤ 64) : readPic ([112, 105, 120, (w : Int), (h : Int)] ++ body) = readFin w h (readGo w h 0 body [] []) := by
  unfold readPic
  have g3 : ([112, 105, 120, (w : Int), (h : Int)] ++ body).getD 3 0 = (w : Int) := rfl
  have g4 : ([112, 105, 120, (w : Int), (h : Int)] ++ body).getD 4 0 = (h : Int) := rfl
  have gt : ([112, 105, 120, (w : Int), (h : Int)] ++ body).take 3 = [112, 105, 120] := rfl
  have gd : ([112, 105, 120, (w : Int), (h : Int)] ++ body).drop 5 = body := rfl
  rw [g3, g4, gt, gd, if_neg (by simp), if_neg (by simp; omega), Int.toNat_natCast]

/-- A picture is read as it was written. -/
theorem readPic_back (w h : Nat) (dots : List Int) (w1 : 1 ≤ w) (w2 : w ≤ 64) (h1 : 1 ≤ h) (h2 : h ≤ 64) (hl : dots.length = w * h) (hd : ∀ x ∈ dots, 0 ≤ x ∧ x < 16) : readPic (picBytes w h dots) = (((w : Int), ((h : Int), dots)), ([], 0)) := by
  unfold picBytes
  rw [readPic_head w h _ w1 w2 h1 h2]
  have := readGo_rows w (rowsOf w dots h) 0 0 [] [] [] w2 (rowsOf_ok hl hd)
  rw [rowsOf_len, List.append_nil, Nat.add_zero, List.nil_append, rowsOf_flat w dots h (by rw [hl, Nat.mul_comm]; exact Nat.le_refl _)] at this
  rw [this]
  have e : h * w = dots.length := by rw [hl, Nat.mul_comm]
  simp only [readGo, readFin]
  rw [e, List.take_length]
  rfl

/-- One row's checksum is another: just this row is reported, and has zeros. -/
theorem readPic_hurt (w h i : Nat) (dots : List Int) (z : Int) (cs : List Int) (w1 : 1 ≤ w) (w2 : w ≤ 64) (h1 : 1 ≤ h) (h2 : h ≤ 64) (hl : dots.length = w * h) (hd : ∀ x ∈ dots, 0 ≤ x ∧ x < 16) (hi : i < h)
    (hcs : rowDots cs = (dots.drop (i * w)).take w) (hcl : cs.length ≤ 64) (hz : crcOf ((cs.length : Int) :: cs) % 256 ≠ z) :
    readPic ([112, 105, 120, (w : Int), (h : Int)] ++ ((rowsOf w dots i).flatMap rowBytes ++ (((cs.length : Int) :: cs) ++ [z] ++ ((List.range (h - (i + 1))).map fun j => (dots.drop ((i + 1 + j) * w)).take w).flatMap rowBytes))) =
      (((w : Int), ((h : Int), dots.take (i * w) ++ List.replicate w 0 ++ dots.drop ((i + 1) * w))), ([(i : Int)], 0)) := by
  have eiw : (i + 1) * w = i * w + w := Nat.succ_mul i w
  have hiw : i * w + w ≤ w * h := by rw [Nat.mul_comm w h, ← eiw]; exact Nat.mul_le_mul_right _ hi
  have hseg : ((dots.drop (i * w)).take w).length = w := by simp; omega
  have hA : ∀ r ∈ rowsOf w dots i, r.length = w ∧ ∀ x ∈ r, 0 ≤ x ∧ x < 16 := by
    intro r hr
    unfold rowsOf at hr
    obtain ⟨j, hj, rfl⟩ := List.mem_map.1 hr
    have hj := List.mem_range.1 hj
    have : j * w + w ≤ i * w := by rw [← Nat.succ_mul]; exact Nat.mul_le_mul_right _ hj
    exact ⟨by simp; omega, fun x hx => hd x (List.mem_of_mem_drop (List.mem_of_mem_take hx))⟩
  have hC : ((List.range (h - (i + 1))).map fun j => (dots.drop ((i + 1 + j) * w)).take w) = rowsOf w (dots.drop ((i + 1) * w)) (h - (i + 1)) := by
    unfold rowsOf
    refine List.map_congr_left fun j _ => ?_
    rw [List.drop_drop, ← Nat.add_mul]
  have hCl : (dots.drop ((i + 1) * w)).length = w * (h - (i + 1)) := by
    rw [List.length_drop, hl, Nat.mul_sub, Nat.mul_comm w (i + 1)]
  rw [readPic_head w h _ w1 w2 h1 h2]
  have hh : h = (rowsOf w dots i).length + ((h - (i + 1)) + 1) := by rw [rowsOf_len]; omega
  have step1 := readGo_rows w (rowsOf w dots i) ((h - (i + 1)) + 1) 0 (((cs.length : Int) :: cs) ++ [z] ++ (rowsOf w (dots.drop ((i + 1) * w)) (h - (i + 1))).flatMap rowBytes) [] [] w2 hA
  rw [← hh] at step1
  rw [hC, step1, readGo_row w _ _ z cs _ _ _ hcl (by rw [hcs, hseg]), if_neg hz]
  have step2 := readGo_rows w (rowsOf w (dots.drop ((i + 1) * w)) (h - (i + 1))) 0 (0 + ((rowsOf w dots i).length : Int) + 1) [] ([] ++ [0 + ((rowsOf w dots i).length : Int)]) ([] ++ (rowsOf w dots i).flatten ++ List.replicate w 0) w2 (rowsOf_ok hCl fun x hx => hd x (List.mem_of_mem_drop hx))
  rw [rowsOf_len, List.append_nil, Nat.add_zero] at step2
  rw [step2, rowsOf_len]
  simp only [readGo, readFin]
  rw [rowsOf_flat w dots i (by omega), rowsOf_flat w _ (h - (i + 1)) (by rw [hCl, Nat.mul_comm]; exact Nat.le_refl _)]
  have e : (h - (i + 1)) * w = (dots.drop ((i + 1) * w)).length := by rw [hCl, Nat.mul_comm]
  rw [e, List.take_length]
  simp

end Go.Proofs.Yteekijpcdcpjkaa
