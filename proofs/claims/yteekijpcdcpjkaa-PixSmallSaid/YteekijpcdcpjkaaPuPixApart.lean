/-
  PLAIN LAW: Apart: the squares in which two pictures differ: sorted and compacted, they are those that the reference finds one by one.
-/
import Derived.Test.YteekijpcdcpjkaaPuPixInt
import Derived.Test.YteekijpcdcpjkaaAbSortFn
set_option linter.unusedVariables false
set_option linter.unusedSimpArgs false
set_option linter.unusedSectionVars false
namespace Go.Proofs.Yteekijpcdcpjkaa
open Go Go.Ab

/-! ### rising lists -/
theorem eq_of_rising : ∀ (xs ys : List Int), xs.Pairwise (· < ·) → ys.Pairwise (· < ·) → (∀ x, x ∈ xs ↔ x ∈ ys) → xs = ys := by
  intro xs
  induction xs with
  | nil =>
    intro ys _ _ h
    cases ys with
    | nil => rfl
    | cons y ys => exact absurd ((h y).2 (by simp)) (by simp)
  | cons x xs ih =>
    intro ys hx hy h
    cases ys with
    | nil => exact absurd ((h x).1 (by simp)) (by simp)
    | cons y ys =>
      obtain ⟨h1, h2⟩ := List.pairwise_cons.1 hx
      obtain ⟨h3, h4⟩ := List.pairwise_cons.1 hy
      have hxy : x = y := by
        rcases List.mem_cons.1 ((h x).1 (by simp)) with e | e
        · exact e
        · rcases List.mem_cons.1 ((h y).2 (by simp)) with e' | e'
          · exact e'.symm
          · have := h3 x e
            have := h1 y e'
            omega
      subst hxy
      congr 1
      refine ih ys h2 h4 fun z => ⟨fun hz => ?_, fun hz => ?_⟩
      · rcases List.mem_cons.1 ((h z).1 (List.mem_cons_of_mem _ hz)) with e | e
        · subst e; have := h1 z hz; omega
        · exact e
      · rcases List.mem_cons.1 ((h z).2 (List.mem_cons_of_mem _ hz)) with e | e
        · subst e; have := h3 z hz; omega
        · exact e

theorem sort_rising (xs : List Int) : (sortInts xs).Pairwise (· ≤ ·) := by
  unfold sortInts
  have := List.pairwise_mergeSort (le := fun (x y : Int) => decide (x ≤ y)) (fun a b c h1 h2 => by simp at h1 h2 ⊢; omega) (fun a b => by simp; omega) xs
  exact this.imp fun h => by simpa using h

theorem sort_mem (xs : List Int) (x : Int) : x ∈ sortInts xs ↔ x ∈ xs := (List.mergeSort_perm xs _).mem_iff
theorem sort_len (xs : List Int) : (sortInts xs).length = xs.length := List.length_mergeSort _

theorem bang (zs : List Int) {j : Nat} (hj : j < zs.length) : zs.toArray[j]! = zs[j] := by simp [hj]

theorem compact_rising {zs : List Int} (h : zs.Pairwise (· ≤ ·)) : (compactInts zs).Pairwise (· < ·) := by
  unfold compactInts Go.Lib.compact Go.Lib.compactUpTo
  rw [List.pairwise_map]
  have hr : ((List.range zs.length).filter (Go.Lib.keeps zs.toArray)).Pairwise (· < ·) := List.pairwise_lt_range.filter _
  refine List.Pairwise.imp_of_mem (R := (· < ·)) (fun {i j} hi hj hij => ?_) hr
  obtain ⟨i1, i2⟩ := List.mem_filter.1 hi
  obtain ⟨j1, j2⟩ := List.mem_filter.1 hj
  rw [List.mem_range] at i1 j1
  have hij : i < j := hij
  rw [bang zs i1, bang zs j1]
  simp only [Go.Lib.keeps, decide_eq_true_eq] at j2
  have hj0 : ¬ j = 0 := by omega
  have hne : zs[j] ≠ zs[j - 1] := by
    rcases j2 with j2 | j2
    · exact absurd j2 hj0
    · rw [bang zs j1, bang zs (by omega)] at j2; exact j2
  have le1 : zs[j - 1]'(by omega) ≤ zs[j] := List.pairwise_iff_getElem.1 h (j - 1) j (by omega) j1 (by omega)
  have le2 : zs[i] ≤ zs[j - 1]'(by omega) := by
    rcases Nat.lt_or_ge i (j - 1) with h3 | h3
    · exact List.pairwise_iff_getElem.1 h i (j - 1) i1 (by omega) h3
    · have : i = j - 1 := by omega
      subst this
      exact Int.le_refl _
  omega

theorem compact_mem (zs : List Int) (x : Int) : x ∈ compactInts zs ↔ x ∈ zs := by
  unfold compactInts Go.Lib.compact Go.Lib.compactUpTo
  simp only [List.mem_map, List.mem_filter, List.mem_range]
  constructor
  · rintro ⟨j, ⟨hj, _⟩, rfl⟩
    rw [bang zs hj]
    exact List.getElem_mem hj
  · intro hx
    -- the first place that holds it
    have key : ∀ (n j : Nat) (hj : j < zs.length), j ≤ n → zs[j] = x → ∃ a, (a < zs.length ∧ Go.Lib.keeps zs.toArray a = true) ∧ zs.toArray[a]! = x := by
      intro n
      induction n with
      | zero =>
        intro j hj hn e
        have : j = 0 := by omega
        subst this
        exact ⟨0, ⟨hj, by simp [Go.Lib.keeps]⟩, by rw [bang zs hj]; exact e⟩
      | succ n ih =>
        intro j hj hn e
        by_cases h0 : j = 0
        · subst h0; exact ih 0 hj (Nat.zero_le _) e
        · by_cases he : zs[j - 1]'(by omega) = x
          · exact ih (j - 1) (by omega) (by omega) he
          · refine ⟨j, ⟨hj, ?_⟩, by rw [bang zs hj]; exact e⟩
            simp only [Go.Lib.keeps, decide_eq_true_eq]
            right
            rw [bang zs hj, bang zs (by omega), e]
            exact Ne.symm he
    obtain ⟨j, hj, rfl⟩ := List.getElem_of_mem hx
    exact key j j hj (Nat.le_refl _) rfl

theorem compact_cut (zs : List Int) : cut (compactAll zs) (0 : Int) ((compactInts zs).length : Int) = compactInts zs := by
  have := cut_nat (compactAll zs) 0 (compactInts zs).length (Nat.zero_le _)
  have e : ((0 : Nat) : Int) = (0 : Int) := rfl
  rw [e] at this
  rw [this]
  unfold compactAll
  simp

/-! ### the squares that differ -/
def differ (p q : List Int) (i : Nat) : Bool := decide (p.getD i 0 ≠ q.getD i 0)
/-- the squares of the first dots that differ, dot by dot -/
def diffKeys (w s : Nat) (p q : List Int) : Nat → List Int
  | 0 => []
  | i + 1 => diffKeys w s p q i ++ (if differ p q i = true then [(sq w s i : Int)] else [])
def diffIn (w s : Nat) (p q : List Int) (n k : Nat) : Bool := (List.range n).any fun i => decide (sq w s i = k) && differ p q i

theorem diffKeys_len (w s : Nat) (p q : List Int) : ∀ n, (diffKeys w s p q n).length ≤ n := by
  intro n
  induction n with
  | zero => simp [diffKeys]
  | succ n ih =>
    simp only [diffKeys, List.length_append]
    split <;> simp <;> omega

theorem diffKeys_mem (w s : Nat) (p q : List Int) (x : Int) : ∀ n, x ∈ diffKeys w s p q n ↔ ∃ i, i < n ∧ differ p q i = true ∧ x = (sq w s i : Int) := by
  intro n
  induction n with
  | zero => simp [diffKeys]
  | succ n ih =>
    simp only [diffKeys, List.mem_append, ih]
    constructor
    · rintro (⟨i, h1, h2, h3⟩ | h)
      · exact ⟨i, by omega, h2, h3⟩
      · split at h
        · rename_i hd
          exact ⟨n, by omega, hd, by simpa using h⟩
        · cases h
    · rintro ⟨i, h1, h2, h3⟩
      by_cases hin : i = n
      · subst hin
        right
        rw [if_pos h2]
        simp [h3]
      · exact Or.inl ⟨i, by omega, h2, h3⟩

theorem squares_eq {w h s : Nat} (hw1 : 1 ≤ w) (hh1 : 1 ≤ h) (hs1 : 1 ≤ s) (p q : List Int) :
    compactInts (sortInts (diffKeys w s p q (w * h))) = ((List.range (across w s * across h s)).filter (diffIn w s p q (w * h))).map fun k : Nat => (k : Int) := by
  refine eq_of_rising _ _ (compact_rising (sort_rising _)) ?_ fun x => ?_
  · rw [List.pairwise_map]
    exact (List.pairwise_lt_range.filter _).imp fun h => by omega
  · rw [compact_mem, sort_mem, diffKeys_mem]
    simp only [List.mem_map, List.mem_filter, List.mem_range, diffIn, List.any_eq_true, Bool.and_eq_true, decide_eq_true_eq]
    constructor
    · rintro ⟨i, h1, h2, rfl⟩
      exact ⟨sq w s i, ⟨sq_lt hw1 hs1 hh1 h1, i, h1, rfl, h2⟩, rfl⟩
    · rintro ⟨k, ⟨_, i, h1, h2, h3⟩, rfl⟩
      exact ⟨i, h1, h3, by rw [h2]⟩

/-! ### Apart -/
theorem getD_get {xs : List Int} {i : Nat} (h : i < xs.length) : xs.getD i 0 = xs[i] := by simp [h]

theorem two_checks (N : Nat) (hN : 1048577 < N) (p0 q1 : Int × Int × List Int) (side : Int) (k0 : (Int × Int × List Int × Int × Int × List Int × Unit) → Option (List Int × Int)) (kr : (Int × Unit) → Option (List Int × Int)) :
    iter (pix_Apart.s0 N none k0 kr (side, ([p0, q1].length : Int), ())) none N ([p0, q1], (0 : Int), p0.1, p0.2.1, p0.2.2, q1.1, q1.2.1, q1.2.2, ()) =
      if picErr p0.1 p0.2.1 p0.2.2 ≠ 0 then kr (picErr p0.1 p0.2.1 p0.2.2, ()) else if picErr q1.1 q1.2.1 q1.2.2 ≠ 0 then kr (picErr q1.1 q1.2.1 q1.2.2, ()) else k0 (p0.1, p0.2.1, p0.2.2, q1.1, q1.2.1, q1.2.2, ()) := by
  obtain ⟨M, hM⟩ : ∃ M, N = M + 3 := ⟨N - 3, by omega⟩
  have c1 : pix_Check N p0 = some (picErr p0.1 p0.2.1 p0.2.2) := check_eq N p0.1 p0.2.1 p0.2.2 hN
  have c2 : pix_Check N q1 = some (picErr q1.1 q1.2.1 q1.2.2) := check_eq N q1.1 q1.2.1 q1.2.2 hN
  generalize hst : pix_Apart.s0 N none k0 kr (side, ([p0, q1].length : Int), ()) = st
  have step : ∀ again v, st again v = pix_Apart.s0 N none k0 kr (side, ([p0, q1].length : Int), ()) again v := fun _ _ => by rw [hst]
  rw [hM, iter_eq, step]
  unfold pix_Apart.s0
  have g0 : getI ((0 : Int), ((0 : Int), ([] : List Int))) [p0, q1] 0 = p0 := rfl
  have g1 : getI ((0 : Int), ((0 : Int), ([] : List Int))) [p0, q1] 1 = q1 := rfl
  have w1 : IntKind.wrap .i64 ((0 : Int) + 1) = 1 := by decide
  have w2 : IntKind.wrap .i64 ((1 : Int) + 1) = 2 := by decide
  simp only [List.length_cons, List.length_nil, decide_eq_true_eq, g0, c1]
  rw [if_pos (by simp), gate_pos (by decide), gate_pos (by decide), bindO_of rfl]
  by_cases e1 : picErr p0.1 p0.2.1 p0.2.2 = 0
  · rw [if_neg (by simp [e1]), if_neg (by simp [e1]), w1, iter_eq, step]
    unfold pix_Apart.s0
    simp only [List.length_cons, List.length_nil, decide_eq_true_eq, g1, c2]
    rw [if_pos (by simp), gate_pos (by decide), gate_pos (by decide), bindO_of rfl]
    by_cases e2 : picErr q1.1 q1.2.1 q1.2.2 = 0
    · rw [if_neg (by simp [e2]), if_neg (by simp [e2]), w2, iter_eq, step]
      unfold pix_Apart.s0
      simp only [List.length_cons, List.length_nil, decide_eq_true_eq]
      rw [if_neg (by simp)]
    · rw [if_pos (by simp [e2]), if_pos e2]
  · rw [if_pos (by simp [e1]), if_pos e1]

theorem apart_err (N : Nat) (hN : 1048577 < N) (p0 q1 : Int × Int × List Int) (side : Int) (h : picErr p0.1 p0.2.1 p0.2.2 ≠ 0 ∨ picErr q1.1 q1.2.1 q1.2.2 ≠ 0 ∨ (side < 1 ∨ side > 64 ∨ p0.1 ≠ q1.1 ∨ p0.2.1 ≠ q1.2.1)) :
    pix_Apart N p0 q1 side = some ([], if picErr p0.1 p0.2.1 p0.2.2 ≠ 0 then picErr p0.1 p0.2.1 p0.2.2 else if picErr q1.1 q1.2.1 q1.2.2 ≠ 0 then picErr q1.1 q1.2.1 q1.2.2 else 1) := by
  unfold pix_Apart
  rw [two_checks N hN]
  by_cases e1 : picErr p0.1 p0.2.1 p0.2.2 ≠ 0
  · rw [if_pos e1, if_pos e1]
  · rw [if_neg e1, if_neg e1]
    by_cases e2 : picErr q1.1 q1.2.1 q1.2.2 ≠ 0
    · rw [if_pos e2, if_pos e2]
    · rw [if_neg e2, if_neg e2]
      have h3 : side < 1 ∨ side > 64 ∨ p0.1 ≠ q1.1 ∨ p0.2.1 ≠ q1.2.1 := by
        rcases h with h | h | h
        · exact absurd h e1
        · exact absurd h e2
        · exact h
      simp only [decide_eq_true_eq]
      have hb : (if side < 1 then some true else if side > 64 then some true else if (!decide (p0.1 = q1.1)) = true then some true else some (!decide (p0.2.1 = q1.2.1))) = some true := by
        by_cases a1 : side < 1
        · rw [if_pos a1]
        · rw [if_neg a1]
          by_cases a2 : side > 64
          · rw [if_pos a2]
          · rw [if_neg a2]
            by_cases a3 : p0.1 = q1.1
            · rw [if_neg (by simp [a3])]
              have a4 : p0.2.1 ≠ q1.2.1 := by
                rcases h3 with h | h | h | h
                · exact absurd h a1
                · exact absurd h a2
                · exact absurd a3 h
                · exact h
              simp [a4]
            · rw [if_pos (by simp [a3])]
      rw [bindO_of hb, if_pos rfl]

theorem apart_eq (N : Nat) (hN : 1048577 < N) {w h s : Nat} {p q : List Int} (hw1 : 1 ≤ w) (hw : w ≤ 64) (hh1 : 1 ≤ h) (hh : h ≤ 64) (hs1 : 1 ≤ s) (hs : s ≤ 64) (hp : p.length = w * h) (hq : q.length = w * h) (ep : picErr (w : Int) (h : Int) p = 0) (eq : picErr (w : Int) (h : Int) q = 0) :
    pix_Apart N ((w : Int), (h : Int), p) ((w : Int), (h : Int), q) (s : Int) = some (compactInts (sortInts (diffKeys w s p q (w * h))), 0) := by
  have hwh : w * h ≤ 4096 := Nat.mul_le_mul hw hh
  have hA := across_le (s := s) hw1 hw
  have hsn : ¬ (s : Int) = 0 := by omega
  have hwn : ¬ (w : Int) = 0 := by omega
  unfold pix_Apart
  rw [two_checks N hN]
  simp only
  rw [if_neg (by simp [ep]), if_neg (by simp [eq])]
  simp only [decide_eq_true_eq]
  have hb : (if (s : Int) < 1 then some true else if (s : Int) > 64 then some true else if (!true) = true then some true else some (!true)) = some false := by
    rw [if_neg (by omega), if_neg (by omega)]; rfl
  simp only [decide_true]
  rw [bindO_of hb, if_neg (by simp), gate_pos (by simpa using hsn)]
  have ew : IntKind.wrap .i64 (Int.tdiv (IntKind.wrap .i64 (IntKind.wrap .i64 ((w : Int) + (s : Int)) - 1)) (s : Int)) = (across w s : Int) := by
    have e1 : (w : Int) + (s : Int) - 1 = ((w + s - 1 : Nat) : Int) := by omega
    rw [w64 (x := (w : Int) + (s : Int)) (by omega) (by omega), e1, w64 (x := ((w + s - 1 : Nat) : Int)) (by omega) (by omega), tdiv_nat, across_tdiv hw1 hs1]
    exact w64 (by omega) (by omega)
  rw [ew]
  refine iter_rule (fun z => ∃ i : Nat, z = (diffKeys w s p q i, (i : Int), (w : Int), (h : Int), p, (w : Int), (h : Int), q, ()) ∧ i ≤ w * h) (fun z => w * h - z.2.1.toNat) (fun r => r = some (compactInts (sortInts (diffKeys w s p q (w * h))), (0 : Int))) ?_ N _ ⟨0, rfl, Nat.zero_le _⟩ (by simp; omega)
  rintro z again ⟨i, rfl, h1⟩ hag
  unfold pix_Apart.s1
  simp only [decide_eq_true_eq]
  by_cases hlt : i < w * h
  · have hql : sq w s i ≤ 100000 := by
      have h2 := sq_lt (s := s) hw1 hs1 hh1 hlt
      have h3 : across w s * across h s ≤ 64 * 64 := Nat.mul_le_mul hA (across_le hh1 hh)
      omega
    rw [if_pos (by rw [hp]; omega), gate_pos (by simpa using hwn), gate_pos (by simpa using hsn), gate_pos (by simpa using hwn), gate_pos (by simpa using hsn), sq_int hs1 (by omega) hql]
    rw [gate_pos (inR_of (by omega) (by rw [hp]; omega)), gate_pos (inR_of (by omega) (by rw [hq]; omega)), getI_get (xs := p) (by omega), getI_get (xs := q) (by omega), w64 (x := (i : Int) + 1) (by omega) (by omega)]
    have hdl := diffKeys_len w s p q i
    have hdiff : differ p q i = (!decide (p[i]'(by omega) = q[i]'(by omega))) := by
      unfold differ
      rw [getD_get (by omega), getD_get (by omega)]
      simp
    have hstep : diffKeys w s p q (i + 1) = diffKeys w s p q i ++ (if differ p q i = true then [(sq w s i : Int)] else []) := rfl
    by_cases hpq : p[i]'(by omega) = q[i]'(by omega)
    · rw [if_neg (by simp [hpq])]
      refine hag _ ⟨i + 1, ?_, by omega⟩ (by simp; omega)
      rw [hstep, hdiff, if_neg (by simp [hpq])]
      simp
    · rw [if_pos (by simp [hpq]), gate_pos (room_of (by simp; omega) (by simp; omega))]
      refine hag _ ⟨i + 1, ?_, by omega⟩ (by simp; omega)
      rw [hstep, hdiff, if_pos (by simp [hpq])]
      simp
  · have hi : i = w * h := by omega
    subst hi
    have hdl := diffKeys_len w s p q (w * h)
    rw [if_neg (by rw [hp]; omega), gate_pos (by simp; omega), gate_pos (by rw [sort_len]; simp; omega), compact_cut]

end Go.Proofs.Yteekijpcdcpjkaa
