/-
  PLAIN LAW: Small: the loops over the squares of a picture come to the sums dot by dot.
-/
import Derived.Test.YteekijpcdcpjkaaPuPixSq
import Derived.Test.YteekijpcdcpjkaaPuPix
set_option linter.unusedVariables false
set_option linter.unusedSimpArgs false
namespace Go.Proofs.Yteekijpcdcpjkaa
open Go Go.Ab

def fd (dots : List Int) (i : Nat) : Int := dots.getD i 0
def f1 (n : Nat) (i : Nat) : Int := if i < n then 1 else 0
/-- the dot of a square -/
def sqVal (w h s : Nat) (dots : List Int) (k : Nat) : Int := IntKind.wrap .u8 (IntKind.wrap .i64 (Int.tdiv (acc w s (fd dots) k (w * h)) (acc w s (f1 (w * h)) k (w * h))))
def smallDots (w h s : Nat) (dots : List Int) : List Int := (List.range (across w s * across h s)).map (sqVal w h s dots)

theorem minI_nat (a b : Nat) : minI (a : Int) (b : Int) = ((min a b : Nat) : Int) := by
  unfold minI
  split <;> omega

theorem small_u {R : Type} (N n : Nat) (sk : R) (k6 : (Int × Int × Int × Int × List Int × Int × Int × Int × Int × List Int × Unit) → R) (w h s y x v : Nat) (dots : List Int) (a1 a2 o1 o2 : Int) (out : List Int) (t c : Nat → Int) (hs : s ≤ 64) (hw : w ≤ 64) (hx : x < w)
    (hvw : v * w + w ≤ dots.length) (hl : dots.length ≤ 4096) (ht : ∀ m, 0 ≤ t m ∧ t m ≤ 1000000000) (hc : ∀ m, 0 ≤ c m ∧ c m ≤ 1000000000) (hd : ∀ y ∈ dots, 0 ≤ y ∧ y < 16)
    (step : ∀ u, x ≤ u → u < min (x + s) w → t (v * w + u + 1) = t (v * w + u) + dots.getD (v * w + u) 0 ∧ c (v * w + u + 1) = c (v * w + u) + 1) (Q : R → Prop)
    (hQ : Q (k6 (t (v * w + min (x + s) w), c (v * w + min (x + s) w), (w : Int), (h : Int), dots, a1, a2, o1, o2, out, ()))) (hn : 64 < n) :
    Q (iter (pix_Small.s3 N sk k6 ((s : Int), (y : Int), (x : Int), (v : Int), ())) sk n (t (v * w + x), c (v * w + x), (x : Int), (w : Int), (h : Int), dots, a1, a2, o1, o2, out, ())) := by
  refine iter_rule (fun z => ∃ u : Nat, z = (t (v * w + u), c (v * w + u), (u : Int), (w : Int), (h : Int), dots, a1, a2, o1, o2, out, ()) ∧ x ≤ u ∧ u ≤ min (x + s) w) (fun z => 64 - z.2.2.1.toNat) Q ?_ n _ ⟨x, rfl, Nat.le_refl _, by omega⟩ (by simp; omega)
  rintro z again ⟨u, rfl, h1, h2⟩ hag
  unfold pix_Small.s3
  simp only [decide_eq_true_eq]
  have e1 : (x : Int) + (s : Int) = ((x + s : Nat) : Int) := by omega
  rw [e1, w64 (x := ((x + s : Nat) : Int)) (by omega) (by omega), minI_nat]
  by_cases hlt : u < min (x + s) w
  · rw [if_pos (by omega)]
    have e2 : (v : Int) * (w : Int) = ((v * w : Nat) : Int) := by simp
    have hi : v * w + u < dots.length := by omega
    rw [e2, w64 (x := ((v * w : Nat) : Int)) (by omega) (by omega)]
    have e3 : ((v * w : Nat) : Int) + (u : Int) = ((v * w + u : Nat) : Int) := by omega
    rw [e3, w64 (x := ((v * w + u : Nat) : Int)) (by omega) (by omega), gate_pos (inR_of (by omega) (by omega)), getI_get hi]
    have hdi := hd _ (List.getElem_mem hi)
    obtain ⟨s1, s2⟩ := step u h1 hlt
    have g : dots.getD (v * w + u) 0 = dots[v * w + u] := by simp [hi]
    rw [g] at s1
    have b1 := ht (v * w + u)
    have b2 := hc (v * w + u)
    rw [w64 (x := dots[v * w + u]) (by omega) (by omega), w64 (x := t (v * w + u) + dots[v * w + u]) (by omega) (by omega), w64 (x := c (v * w + u) + 1) (by omega) (by omega), w64 (x := (u : Int) + 1) (by omega) (by omega)]
    refine hag _ ⟨u + 1, ?_, by omega, by omega⟩ (by simp; omega)
    rw [← Nat.add_assoc, s1, s2]
    simp
  · rw [if_neg (by omega)]
    have : u = min (x + s) w := by omega
    subst this
    exact hQ

theorem small_v {R : Type} (N n : Nat) (sk : R) (k4 : (Int × Int × Int × Int × List Int × Int × Int × Int × Int × List Int × Unit) → R) (w h s y x : Nat) (dots : List Int) (a1 a2 o1 o2 : Int) (out : List Int) (t c : Nat → Int) (hs : s ≤ 64) (hw : w ≤ 64) (hh : h ≤ 64) (hx : x < w) (hy : y < h)
    (hl : dots.length = w * h) (ht : ∀ m, 0 ≤ t m ∧ t m ≤ 1000000000) (hc : ∀ m, 0 ≤ c m ∧ c m ≤ 1000000000) (hd : ∀ y ∈ dots, 0 ≤ y ∧ y < 16)
    (step : ∀ v u, y ≤ v → v < min (y + s) h → x ≤ u → u < min (x + s) w → t (v * w + u + 1) = t (v * w + u) + dots.getD (v * w + u) 0 ∧ c (v * w + u + 1) = c (v * w + u) + 1)
    (next : ∀ v, y ≤ v → v < min (y + s) h → t ((v + 1) * w + x) = t (v * w + min (x + s) w) ∧ c ((v + 1) * w + x) = c (v * w + min (x + s) w)) (Q : R → Prop)
    (hQ : Q (k4 (t (min (y + s) h * w + x), c (min (y + s) h * w + x), (w : Int), (h : Int), dots, a1, a2, o1, o2, out, ()))) (hn : 64 < n) (hN : 64 < N) :
    Q (iter (pix_Small.s2 N sk k4 ((s : Int), (y : Int), (x : Int), ())) sk n (t (y * w + x), c (y * w + x), (y : Int), (w : Int), (h : Int), dots, a1, a2, o1, o2, out, ())) := by
  have hwh : w * h ≤ 4096 := Nat.mul_le_mul hw hh
  refine iter_rule (fun z => ∃ v : Nat, z = (t (v * w + x), c (v * w + x), (v : Int), (w : Int), (h : Int), dots, a1, a2, o1, o2, out, ()) ∧ y ≤ v ∧ v ≤ min (y + s) h) (fun z => 64 - z.2.2.1.toNat) Q ?_ n _ ⟨y, rfl, Nat.le_refl _, by omega⟩ (by simp; omega)
  rintro z again ⟨v, rfl, h1, h2⟩ hag
  unfold pix_Small.s2
  simp only [decide_eq_true_eq]
  have e1 : (y : Int) + (s : Int) = ((y + s : Nat) : Int) := by omega
  rw [e1, w64 (x := ((y + s : Nat) : Int)) (by omega) (by omega), minI_nat]
  by_cases hlt : v < min (y + s) h
  · rw [if_pos (by omega)]
    have hvw : v * w + w ≤ dots.length := by
      have : (v + 1) * w ≤ h * w := Nat.mul_le_mul_right _ (by omega)
      rw [Nat.add_mul, Nat.mul_comm h] at this
      omega
    refine small_u N N sk _ w h s y x v dots a1 a2 o1 o2 out t c hs hw hx hvw (by omega) ht hc hd (fun u g1 g2 => step v u h1 hlt g1 g2) Q ?_ hN
    simp only
    rw [w64 (x := (v : Int) + 1) (by omega) (by omega)]
    obtain ⟨n1, n2⟩ := next v h1 hlt
    refine hag _ ⟨v + 1, ?_, by omega, by omega⟩ (by simp; omega)
    rw [n1, n2]
    simp
  · rw [if_neg (by omega)]
    have : v = min (y + s) h := by omega
    subst this
    exact hQ

theorem tdiv_nat (a b : Nat) : Int.tdiv (a : Int) (b : Int) = ((a / b : Nat) : Int) := by
  rw [Int.tdiv_eq_ediv_of_nonneg (by omega)]; simp

theorem across_tdiv {w s : Nat} (hw : 1 ≤ w) (hs : 1 ≤ s) : (w + s - 1) / s = across w s := by
  unfold across
  have e : w + s - 1 = (w - 1) + s := by omega
  rw [e, Nat.add_div_right _ (by omega)]

section
variable {w h s : Nat} {dots : List Int} (hw1 : 1 ≤ w) (hw : w ≤ 64) (hh1 : 1 ≤ h) (hh : h ≤ 64) (hs1 : 1 ≤ s) (hs : s ≤ 64) (hl : dots.length = w * h) (hd : ∀ y ∈ dots, 0 ≤ y ∧ y < 16)
include hw1 hw hh1 hh hs1 hs hl hd

omit hw1 hw hh1 hh hs1 hs hl in
theorem fd_bound (i : Nat) : 0 ≤ fd dots i ∧ fd dots i ≤ 15 := by
  unfold fd
  rw [List.getD_eq_getElem?_getD]
  by_cases hi : i < dots.length
  · have := hd _ (List.getElem_mem hi)
    simp only [List.getElem?_eq_getElem hi, Option.getD_some]
    omega
  · simp [List.getElem?_eq_none (Nat.le_of_not_lt hi)]

omit hw1 hw hh1 hh hs1 hs hl hd in
theorem f1_bound (n i : Nat) : 0 ≤ f1 n i ∧ f1 n i ≤ 1 := by
  unfold f1
  split <;> omega

/-- One square. -/
theorem small_sq {R : Type} (N n : Nat) (sk : R) (k4 : (Int × Int × Int × Int × List Int × Int × Int × Int × Int × List Int × Unit) → R) (ky kx : Nat) (hky : ky < across h s) (hkx : kx < across w s) (a1 a2 o1 o2 : Int) (out : List Int) (Q : R → Prop)
    (hQ : ∀ tt cc : Nat, (tt : Int) = acc w s (fd dots) (ky * across w s + kx) (w * h) → (cc : Int) = acc w s (f1 (w * h)) (ky * across w s + kx) (w * h) → tt ≤ 100000 → 1 ≤ cc → cc ≤ 100000 → Q (k4 ((tt : Int), (cc : Int), (w : Int), (h : Int), dots, a1, a2, o1, o2, out, ()))) (hn : 64 < n) (hN : 64 < N) :
    Q (iter (pix_Small.s2 N sk k4 ((s : Int), ((ky * s : Nat) : Int), ((kx * s : Nat) : Int), ())) sk n ((0 : Int), (0 : Int), ((ky * s : Nat) : Int), (w : Int), (h : Int), dots, a1, a2, o1, o2, out, ())) := by
  have hwh : w * h ≤ 4096 := Nat.mul_le_mul hw hh
  have hx : kx * s < w := across_in hw1 hs1 hkx
  have hy : ky * s < h := across_in hh1 hs1 hky
  have hxw : kx * s + s ≤ kx * s + 64 := by omega
  obtain ⟨k, hk⟩ : ∃ k, k = ky * across w s + kx := ⟨_, rfl⟩
  rw [← hk] at hQ
  -- sums over dots that come before a place; past some place they stay
  have tb : ∀ m, m ≤ 10000000 → 0 ≤ acc w s (fd dots) k m ∧ acc w s (fd dots) k m ≤ 15 * m := fun m _ => acc_bound w s _ k 15 (by omega) (fd_bound hd) m
  have cb : ∀ m, m ≤ 10000000 → 0 ≤ acc w s (f1 (w * h)) k m ∧ acc w s (f1 (w * h)) k m ≤ 1 * m := fun m _ => acc_bound w s _ k 1 (by omega) (f1_bound _) m
  have fd0 : ∀ i, w * h ≤ i → fd dots i = 0 := fun i hi => by
    unfold fd
    rw [List.getD_eq_getElem?_getD, List.getElem?_eq_none (by omega)]; rfl
  have f10 : ∀ i, w * h ≤ i → f1 (w * h) i = 0 := fun i hi => by unfold f1; rw [if_neg (by omega)]
  have past : ∀ (f : Nat → Int), (∀ i, w * h ≤ i → f i = 0) → ∀ m, w * h ≤ m → acc w s f k m = acc w s f k (w * h) := fun f hf m hm => acc_const w s f k _ _ hm fun i h1 _ _ => hf i h1
  have ht : ∀ m, 0 ≤ acc w s (fd dots) k m ∧ acc w s (fd dots) k m ≤ 1000000000 := by
    intro m
    rcases Nat.le_total m (w * h) with hm | hm
    · have := tb m (by omega); omega
    · rw [past _ fd0 m hm]; have := tb (w * h) (by omega); omega
  have hc : ∀ m, 0 ≤ acc w s (f1 (w * h)) k m ∧ acc w s (f1 (w * h)) k m ≤ 1000000000 := by
    intro m
    rcases Nat.le_total m (w * h) with hm | hm
    · have := cb m (by omega); omega
    · rw [past _ f10 m hm]; have := cb (w * h) (by omega); omega
  -- nothing before the first dot
  have start : ∀ f, acc w s f k (ky * s * w + kx * s) = 0 := fun f => by
    have := acc_const w s f k 0 (ky * s * w + kx * s) (Nat.zero_le _) fun i _ h2 h3 => absurd h3 (by rw [hk]; exact sq_before hw1 hs1 hkx h2)
    rw [this]; rfl
  have inside : ∀ v u, ky * s ≤ v → v < min (ky * s + s) h → kx * s ≤ u → u < min (kx * s + s) w → sq w s (v * w + u) = k ∧ v * w + u < w * h := fun v u g1 g2 g3 g4 => by
    have hvw : (v + 1) * w ≤ h * w := Nat.mul_le_mul_right _ (by omega)
    rw [Nat.add_mul, Nat.mul_comm h] at hvw
    refine ⟨?_, by omega⟩
    rw [hk]
    exact (sq_iff hw1 hs1 (by omega) hkx).2 ⟨box_div hw1 hs1 g1 (by omega), box_div hw1 hs1 g3 (by omega)⟩
  have last : ∀ f, (∀ i, w * h ≤ i → f i = 0) → acc w s f k (min (ky * s + s) h * w + kx * s) = acc w s f k (w * h) := fun f hf => by
    rcases Nat.lt_or_ge (ky * s + s) h with hlt | hge
    · rw [Nat.min_eq_left (by omega)]
      have h1 : (ky * s + s + 1) * w ≤ h * w := Nat.mul_le_mul_right _ hlt
      rw [Nat.add_mul, Nat.mul_comm h] at h1
      refine (acc_const w s f k _ _ (by omega) fun i g1 _ g3 => absurd g3 ?_).symm
      rw [hk]
      exact sq_behind hw1 hs1 hkx (by omega)
    · rw [Nat.min_eq_right hge]
      exact past f hf _ (by rw [Nat.mul_comm h]; omega)
  have e0 := start (fd dots)
  have e1 := start (f1 (w * h))
  have main := small_v N n sk k4 w h s (ky * s) (kx * s) dots a1 a2 o1 o2 out (acc w s (fd dots) k) (acc w s (f1 (w * h)) k) hs hw hh hx hy hl ht hc hd (fun v u g1 g2 g3 g4 => by
      obtain ⟨i1, i2⟩ := inside v u g1 g2 g3 g4
      rw [acc_succ, acc_succ, if_pos i1, if_pos i1]
      refine ⟨rfl, ?_⟩
      unfold f1
      rw [if_pos i2]) (fun v g1 g2 => by
      have hb : ∀ i, v * w + min (kx * s + s) w ≤ i → i < (v + 1) * w + kx * s → sq w s i ≠ k := fun i h1 h2 => by rw [hk]; exact sq_between hw1 hs1 hkx h1 h2
      have hle : v * w + min (kx * s + s) w ≤ (v + 1) * w + kx * s := by rw [Nat.add_mul]; omega
      exact ⟨acc_const w s _ k _ _ hle fun i h1 h2 h3 => absurd h3 (hb i h1 h2), acc_const w s _ k _ _ hle fun i h1 h2 h3 => absurd h3 (hb i h1 h2)⟩) Q ?_ hn hN
  · rw [e0, e1] at main
    exact main
  · rw [last _ fd0, last _ f10]
    have b1 := tb (w * h) (by omega)
    have b2 := cb (w * h) (by omega)
    -- the first dot counts
    have one : 1 ≤ acc w s (f1 (w * h)) k (w * h) := by
      obtain ⟨i1, i2⟩ := inside (ky * s) (kx * s) (Nat.le_refl _) (by omega) (Nat.le_refl _) (by omega)
      obtain ⟨d, hd2⟩ := Nat.exists_eq_add_of_le (show ky * s * w + kx * s + 1 ≤ w * h by omega)
      have := acc_mono w s (f1 (w * h)) k (fun i => (f1_bound _ i).1) (ky * s * w + kx * s + 1) d
      rw [← hd2, acc_succ, if_pos i1, e1] at this
      unfold f1 at this
      rw [if_pos i2] at this
      exact this
    obtain ⟨tt, htt⟩ := Int.eq_ofNat_of_zero_le b1.1
    obtain ⟨cc, hcc⟩ := Int.eq_ofNat_of_zero_le b2.1
    have htt' : acc w s (fd dots) k (w * h) = (tt : Int) := htt
    have hcc' : acc w s (f1 (w * h)) k (w * h) = (cc : Int) := hcc
    rw [htt', hcc']
    rw [hcc'] at one
    rw [htt'] at b1
    rw [hcc'] at b2
    exact hQ tt cc htt'.symm hcc'.symm (by omega) (by omega) (by omega)

/-- A row of squares. -/
theorem small_x {R : Type} (N n : Nat) (sk : R) (k2 : (Int × Int × List Int × Int × Int × Int × Int × List Int × Unit) → R) (ky : Nat) (hky : ky < across h s) (a1 a2 o1 o2 : Int) (Q : R → Prop)
    (hQ : Q (k2 ((w : Int), (h : Int), dots, a1, a2, o1, o2, (List.range ((ky + 1) * across w s)).map (sqVal w h s dots), ()))) (hn : 64 < n) (hN : 64 < N) :
    Q (iter (pix_Small.s1 N sk k2 ((s : Int), ((ky * s : Nat) : Int), ())) sk n ((0 : Int), (w : Int), (h : Int), dots, a1, a2, o1, o2, (List.range (ky * across w s)).map (sqVal w h s dots), ())) := by
  have hA : across w s ≤ 64 := by
    unfold across
    have := Nat.div_le_self (w - 1) s
    omega
  have hB : across h s ≤ 64 := by
    unfold across
    have := Nat.div_le_self (h - 1) s
    omega
  have up := across_up hw1 hs1
  refine iter_rule (fun z => ∃ kx : Nat, z = (((kx * s : Nat) : Int), (w : Int), (h : Int), dots, a1, a2, o1, o2, (List.range (ky * across w s + kx)).map (sqVal w h s dots), ()) ∧ kx ≤ across w s) (fun z => across w s - (z.1 / (s : Int)).toNat) Q ?_ n _ ⟨0, by simp, Nat.zero_le _⟩ (by simp; omega)
  rintro z again ⟨kx, rfl, h1⟩ hag
  unfold pix_Small.s1
  simp only [decide_eq_true_eq]
  by_cases hlt : kx < across w s
  · have hx : kx * s < w := across_in hw1 hs1 hlt
    rw [if_pos (by omega)]
    refine small_sq hw1 hw hh1 hh hs1 hs hl hd N N sk _ ky kx hky hlt a1 a2 o1 o2 _ Q (fun tt cc ht hc b1 b2 b3 => ?_) hN hN
    have hnz : ¬ (cc : Int) = 0 := by omega
    simp only
    rw [gate_pos (by simpa using hnz)]
    have hlen : ky * across w s + kx ≤ 4096 := by
      have : (ky + 1) * across w s ≤ 64 * 64 := Nat.mul_le_mul (by omega) hA
      rw [Nat.add_mul] at this
      omega
    rw [gate_pos (room_of (by simp; omega) (by simp; omega))]
    have e1 : ((kx * s : Nat) : Int) + (s : Int) = (((kx + 1) * s : Nat) : Int) := by
      rw [Nat.add_mul]; omega
    have hx2 : (kx + 1) * s ≤ 128 := by rw [Nat.add_mul]; omega
    rw [e1, w64 (x := (((kx + 1) * s : Nat) : Int)) (by omega) (by omega)]
    refine hag _ ⟨kx + 1, ?_, by omega⟩ ?_
    · rw [← Nat.add_assoc, List.range_succ, List.map_append, List.map_cons, List.map_nil]
      unfold sqVal
      rw [← ht, ← hc]
    · have hdiv : ∀ q : Nat, (((q * s : Nat) : Int) / (s : Int)).toNat = q := fun q => by
        have : ((q * s : Nat) : Int) / (s : Int) = ((q * s / s : Nat) : Int) := by simp
        rw [this, Nat.mul_div_cancel _ (by omega)]; simp
      simp only [hdiv]
      omega
  · have hk : kx = across w s := by omega
    subst hk
    rw [if_neg (by omega)]
    have e2 : ky * across w s + across w s = (ky + 1) * across w s := by rw [Nat.add_mul]; omega
    rw [e2]
    exact hQ

theorem small_eq (N : Nat) (hN : 1048577 < N) : pix_Small N ((w : Int), (h : Int), dots) (s : Int) = some (((across w s : Int), ((across h s : Int), smallDots w h s dots)), 0) := by
  have hA : across w s ≤ 64 := by
    unfold across
    have := Nat.div_le_self (w - 1) s
    omega
  have hB : across h s ≤ 64 := by
    unfold across
    have := Nat.div_le_self (h - 1) s
    omega
  have up := across_up hh1 hs1
  have hz : picErr (w : Int) (h : Int) dots = 0 := by
    unfold picErr
    rw [if_neg (by omega), if_neg (by rw [hl]; simp), if_neg]
    simp only [List.any_eq_true, decide_eq_true_eq, not_exists, not_and]
    intro y hy
    have := hd y hy
    omega
  unfold pix_Small
  rw [bindO_of (check_eq N _ _ _ hN), hz]
  simp only [decide_eq_true_eq, Bool.not_eq_true', decide_true, Bool.not_true, Bool.false_eq_true, if_false]
  rw [if_neg (by omega), bindO_of rfl, if_neg (by simpa using (by omega : ¬ (s : Int) > 64))]
  have hsn : ¬ (s : Int) = 0 := by omega
  rw [gate_pos (by simpa using hsn), gate_pos (by simpa using hsn)]
  have ew : ∀ q : Nat, 1 ≤ q → q ≤ 64 → IntKind.wrap .i64 (Int.tdiv (IntKind.wrap .i64 (IntKind.wrap .i64 ((q : Int) + (s : Int)) - 1)) (s : Int)) = (across q s : Int) := fun q q1 q2 => by
    have e1 : (q : Int) + (s : Int) - 1 = ((q + s - 1 : Nat) : Int) := by omega
    rw [w64 (x := (q : Int) + (s : Int)) (by omega) (by omega), e1, w64 (x := ((q + s - 1 : Nat) : Int)) (by omega) (by omega), tdiv_nat, across_tdiv q1 hs1]
    have : across q s ≤ 64 := by
      unfold across
      have := Nat.div_le_self (q - 1) s
      omega
    exact w64 (by omega) (by omega)
  rw [ew w hw1 hw, ew h hh1 hh]
  refine iter_rule (fun z => ∃ ky : Nat, z = (((ky * s : Nat) : Int), (w : Int), (h : Int), dots, (0 : Int), (0 : Int), (across w s : Int), (across h s : Int), (List.range (ky * across w s)).map (sqVal w h s dots), ()) ∧ ky ≤ across h s) (fun z => across h s - (z.1 / (s : Int)).toNat) (fun r => r = some (((across w s : Int), ((across h s : Int), smallDots w h s dots)), (0 : Int))) ?_ N _ ⟨0, by simp, Nat.zero_le _⟩ (by simp; omega)
  rintro z again ⟨ky, rfl, h1⟩ hag
  unfold pix_Small.s0
  simp only [decide_eq_true_eq]
  by_cases hlt : ky < across h s
  · have hy : ky * s < h := across_in hh1 hs1 hlt
    rw [if_pos (by omega)]
    refine small_x hw1 hw hh1 hh hs1 hs hl hd N N none _ ky hlt 0 0 _ _ (fun r => r = some (((across w s : Int), ((across h s : Int), smallDots w h s dots)), (0 : Int))) ?_ (by omega) (by omega)
    simp only
    have e1 : ((ky * s : Nat) : Int) + (s : Int) = (((ky + 1) * s : Nat) : Int) := by
      rw [Nat.add_mul]; omega
    have hy2 : (ky + 1) * s ≤ 128 := by rw [Nat.add_mul]; omega
    rw [e1, w64 (x := (((ky + 1) * s : Nat) : Int)) (by omega) (by omega)]
    refine hag _ ⟨ky + 1, rfl, by omega⟩ ?_
    have hdiv : ∀ q : Nat, (((q * s : Nat) : Int) / (s : Int)).toNat = q := fun q => by
      have : ((q * s : Nat) : Int) / (s : Int) = ((q * s / s : Nat) : Int) := by simp
      rw [this, Nat.mul_div_cancel _ (by omega)]; simp
    simp only [hdiv]
    omega
  · have hk : ky = across h s := by omega
    subst hk
    rw [if_neg (by omega)]
    unfold smallDots
    rw [Nat.mul_comm (across w s)]
end

end Go.Proofs.Yteekijpcdcpjkaa
