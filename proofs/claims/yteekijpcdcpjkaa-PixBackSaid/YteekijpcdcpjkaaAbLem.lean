/-
  LEMMAS: lookups, cells and data, what is read out of cells, runs of loads and stores.
-/
import Derived.Test.YteekijpcdcpjkaaAbRel
import Derived.Laws.Cells
import Derived.Laws.Rows
import Derived.Laws.Append
import Derived.Laws.MakeOwn
set_option linter.unusedVariables false
namespace Go.Ab
open Go.RowKit (Below)

/-! ### lookups -/
theorem hget_hrem (hp : Hp) (n m : Nat) : hget (hrem hp n) m = if m = n then none else hget hp m := by
  induction hp with
  | nil => simp [hrem, hget]
  | cons a r ih =>
    obtain ⟨q, b⟩ := a
    simp only [hrem]
    by_cases h : q = n
    · subst h
      simp only [if_true, ih, hget]
      by_cases h2 : m = q
      · simp [h2]
      · simp [h2, Ne.symm h2]
    · simp only [h, if_false, hget, ih]
      by_cases h2 : q = m
      · subst h2; simp [h]
      · simp [h2]

theorem hget_hput (hp : Hp) (n m : Nat) (b : Blk) : hget (hput hp n b) m = if m = n then some b else hget hp m := by
  induction hp with
  | nil =>
    simp only [hput, hget]
    by_cases h : n = m
    · subst h; simp
    · simp [h, Ne.symm h]
  | cons a r ih =>
    obtain ⟨q, c⟩ := a
    simp only [hput]
    by_cases h : q = n
    · subst h
      simp only [if_true, hget, hget_hrem]
      by_cases h2 : q = m
      · subst h2; simp
      · simp [h2, Ne.symm h2]
    · simp only [h, if_false, hget, ih]
      by_cases h2 : q = m
      · subst h2; simp [h]
      · simp [h2]

/-! ### lengths -/
theorem VRel.len {w : World} {O : Nat → Prop} : ∀ (t : Ty) (x : t.den) (cs : List Value), VRel w O t x cs → cs.length = t.size := by
  intro t
  induction t with
  | int k => intro x cs h; rw [h.1]; rfl
  | bool => intro x cs h; have h : cs = _ := h; rw [h]; rfl
  | str => intro x cs h; obtain ⟨ba, e, _⟩ := h; rw [e]; rfl
  | unit => intro x cs h; have h : cs = _ := h; rw [h]; rfl
  | slice e ih => intro x cs h; obtain ⟨a, cap, e, _⟩ := h; rw [e]; rfl
  | pair a b iha ihb =>
    intro x cs h
    obtain ⟨c1, c2, e, h1, h2⟩ := h
    rw [e, List.length_append, iha _ _ h1, ihb _ _ h2]; rfl

theorem CRels.len {k : Kx} : ∀ {cs : List Cell} {vs : List Value}, CRels k cs vs → cs.length = vs.length := by
  intro cs
  induction cs with
  | nil => intro vs h; have h : vs = [] := h; rw [h]; rfl
  | cons c cs ih =>
    intro vs h
    obtain ⟨v, r, e, _, h2⟩ := h
    rw [e]; simp [ih h2]

theorem CRels.append {k : Kx} : ∀ {cs ds : List Cell} {vs us : List Value}, CRels k cs vs → CRels k ds us → CRels k (cs ++ ds) (vs ++ us) := by
  intro cs
  induction cs with
  | nil => intro ds vs us h h'; have h : vs = [] := h; rw [h]; exact h'
  | cons c cs ih =>
    intro ds vs us h h'
    obtain ⟨v, r, e, h1, h2⟩ := h
    exact ⟨v, r ++ us, by rw [e]; rfl, h1, ih h2 h'⟩

theorem CRels.split {k : Kx} : ∀ {cs ds : List Cell} {vs : List Value}, CRels k (cs ++ ds) vs → ∃ us ws, vs = us ++ ws ∧ CRels k cs us ∧ CRels k ds ws := by
  intro cs
  induction cs with
  | nil => intro ds vs h; exact ⟨[], vs, rfl, rfl, h⟩
  | cons c cs ih =>
    intro ds vs h
    obtain ⟨v, r, e, h1, h2⟩ := h
    obtain ⟨us, ws, e2, h3, h4⟩ := ih h2
    exact ⟨v :: us, ws, by rw [e, e2]; rfl, ⟨v, us, rfl, h1, h3⟩, h4⟩

theorem CRels.take {k : Kx} {cs : List Cell} {vs : List Value} (n : Nat) (h : CRels k cs vs) : CRels k (cs.take n) (vs.take n) := by
  induction cs generalizing vs n with
  | nil => have h : vs = [] := h; subst h; simp; rfl
  | cons c cs ih =>
    obtain ⟨v, r, e, h1, h2⟩ := h
    subst e
    cases n with
    | zero => simp; rfl
    | succ n => exact ⟨v, r.take n, rfl, h1, ih n h2⟩

theorem CRels.drop {k : Kx} {cs : List Cell} {vs : List Value} (n : Nat) (h : CRels k cs vs) : CRels k (cs.drop n) (vs.drop n) := by
  induction cs generalizing vs n with
  | nil => have h : vs = [] := h; subst h; simp; rfl
  | cons c cs ih =>
    obtain ⟨v, r, e, h1, h2⟩ := h
    subst e
    cases n with
    | zero => exact ⟨v, r, rfl, h1, h2⟩
    | succ n => exact ih n h2

theorem CRels.get {k : Kx} {cs : List Cell} {vs : List Value} (h : CRels k cs vs) (j : Nat) (c : Cell) (hc : cs[j]? = some c) : ∃ v, vs[j]? = some v ∧ CRel k c v := by
  induction cs generalizing vs j with
  | nil => simp at hc
  | cons d cs ih =>
    obtain ⟨v, r, e, h1, h2⟩ := h
    subst e
    cases j with
    | zero => simp at hc; subst hc; exact ⟨v, rfl, h1⟩
    | succ j => simp at hc; simpa using ih h2 j hc

theorem CRels.splice {k : Kx} {cs new : List Cell} {vs us : List Value} (h : CRels k cs vs) (h' : CRels k new us) (off : Nat) : CRels k (splice cs off new) (vs.take off ++ us ++ vs.drop (off + us.length)) := by
  unfold Go.Ab.splice
  rw [← h'.len]
  exact ((h.take off).append h').append (h.drop _)

/-! ### a value's cells are its data's -/
theorem flat_len : ∀ (t : Ty) (x : t.den), (flat t x).length = t.size := by
  intro t
  induction t with
  | pair a b iha ihb => intro x; simp [flat, Ty.size, iha, ihb]
  | unit => intro x; rfl
  | _ => intro x; rfl

theorem flat_own : ∀ (t : Ty) (x : t.den), ∀ c ∈ flat t x, ownOf c = [] := by
  intro t
  induction t with
  | pair a b iha ihb =>
    intro x c hc
    rcases List.mem_append.1 hc with h | h
    · exact iha _ c h
    · exact ihb _ c h
  | unit => intro x c hc; cases hc
  | int q => intro x c hc; simp [flat] at hc; subst hc; rfl
  | bool => intro x c hc; simp [flat] at hc; subst hc; rfl
  | str => intro x c hc; simp [flat] at hc; subst hc; rfl
  | slice e _ => intro x c hc; simp [flat] at hc; subst hc; rfl

theorem flat_rel {k : Kx} : ∀ (t : Ty) (x : t.den) (cs : List Value), VRel k.w k.O t x cs ↔ CRels k (flat t x) cs := by
  intro t
  induction t with
  | pair a b iha ihb =>
    intro x cs
    constructor
    · rintro ⟨c1, c2, e, h1, h2⟩
      rw [e]; exact ((iha _ _).1 h1).append ((ihb _ _).1 h2)
    · intro h
      obtain ⟨us, ws, e, h1, h2⟩ := CRels.split h
      exact ⟨us, ws, e, (iha _ _).2 h1, (ihb _ _).2 h2⟩
  | unit => intro x cs; exact Iff.rfl
  | int q =>
    intro x cs
    constructor
    · intro h; obtain ⟨e, h1⟩ := h; exact ⟨_, [], e, ⟨rfl, h1⟩, rfl⟩
    · rintro ⟨v, r, e, ⟨h1, h2⟩, h3⟩
      have h3 : r = [] := h3
      subst h3; simp at h1; subst h1; exact ⟨e, h2⟩
  | bool =>
    intro x cs
    constructor
    · intro h; exact ⟨_, [], h, rfl, rfl⟩
    · rintro ⟨v, r, e, h1, h3⟩
      have h3 : r = [] := h3
      have h1 : [v] = [.bool x] := h1
      subst h3; simp at h1; subst h1; exact e
  | str =>
    intro x cs
    constructor
    · intro h; obtain ⟨ba, e, h1⟩ := h; exact ⟨_, [], e, ⟨ba, rfl, h1⟩, rfl⟩
    · rintro ⟨v, r, e, ⟨ba, h1, h2⟩, h3⟩
      have h3 : r = [] := h3
      subst h3; simp at h1; subst h1; exact ⟨ba, e, h2⟩
  | slice q ih =>
    intro x cs
    constructor
    · intro h; obtain ⟨a, cap, e, h1⟩ := h; exact ⟨_, [], e, ⟨a, cap, rfl, h1⟩, rfl⟩
    · rintro ⟨v, r, e, ⟨a, cap, h1, h2⟩, h3⟩
      have h3 : r = [] := h3
      subst h3; simp at h1; subst h1; exact ⟨a, cap, e, h2⟩

/-- Data without slices lead nowhere. -/
theorem VRel.anyO {w : World} {O O' : Nat → Prop} : ∀ (t : Ty) (x : t.den) (cs : List Value), t.flatOnly = true → VRel w O t x cs → VRel w O' t x cs := by
  intro t
  induction t with
  | pair a b iha ihb =>
    intro x cs hf h
    simp only [Ty.flatOnly, Bool.and_eq_true] at hf
    obtain ⟨c1, c2, e, h1, h2⟩ := h
    exact ⟨c1, c2, e, iha _ _ hf.1 h1, ihb _ _ hf.2 h2⟩
  | slice e ih => intro x cs hf h; simp [Ty.flatOnly] at hf
  | int k => intro x cs _ h; exact h
  | bool => intro x cs _ h; exact h
  | str => intro x cs _ h; exact h
  | unit => intro x cs _ h; exact h

theorem VRel.anyW {w w' : World} {O O' : Nat → Prop} : ∀ (t : Ty) (x : t.den) (cs : List Value), t.flatOnly = true → VRel w O t x cs → VRel w' O' t x cs := by
  intro t
  induction t with
  | pair a b iha ihb =>
    intro x cs hf h
    simp only [Ty.flatOnly, Bool.and_eq_true] at hf
    obtain ⟨c1, c2, e, h1, h2⟩ := h
    exact ⟨c1, c2, e, iha _ _ hf.1 h1, ihb _ _ hf.2 h2⟩
  | slice e ih => intro x cs hf h; simp [Ty.flatOnly] at hf
  | int k => intro x cs _ h; exact h
  | bool => intro x cs _ h; exact h
  | str => intro x cs _ h; exact h
  | unit => intro x cs _ h; exact h

/-! ### parts of rows -/
theorem part_len {row : Array Value} {o n : Nat} (h : o + n ≤ row.size) : (part_ row o n).length = n := by
  simp [part_]; omega

theorem part_get {row : Array Value} {o n j : Nat} (hj : j < n) : (part_ row o n)[j]? = row[o + j]? := by
  simp [part_, hj]

theorem part_part {row : Array Value} {o n a b : Nat} (h : a + b ≤ n) : ((part_ row o n).drop a).take b = part_ row (o + a) b := by
  simp only [part_, List.drop_take, List.drop_drop, List.take_take]
  rw [Nat.min_eq_left (by omega)]

theorem part_all {row : Array Value} : part_ row 0 row.size = row.toList := by
  unfold part_
  rw [List.drop_zero]
  exact List.take_of_length_le (by simp)

/-! ### data out of cells -/
/-- the blocks whose content a cell stands for -/
theorem asTy_eq {t t' : Ty} {x : t.den} {y : t'.den} (h : asTy t' t x = some y) : ∃ e : t = t', y = e ▸ x := by
  unfold asTy at h
  split at h
  · rename_i e; simp at h; exact ⟨e, h.symm⟩
  · cases h

theorem arrAs_eq {e : Ty} {b : Option Blk} {xs : List e.den} (h : arrAs e b = some xs) : b = some (.arr e xs) := by
  unfold arrAs at h
  split at h
  · split at h
    · rename_i heq
      subst heq
      simp at h
      subst h
      rfl
    · cases h
  · cases h

/-- What lies in a block of the call's own, as data: it may lie nowhere where O2 is true. -/
theorem own_data {k : Kx} {n : Nat} {e : Ty} {xs : List e.den} {lo len : Nat} {v : Value} {O2 : Nat → Prop} (hb : BRel k n (.arr e xs)) (hv : Hdr (k.μ n) e lo len v) (hle : lo + len ≤ xs.length)
    (hO : ∀ B, O2 B → k.O B) (hn : ∀ B, (k.μ n).block = some B → ¬ O2 B) : VRel k.w O2 (.slice e) ((xs.drop lo).take len) [v] := by
  unfold BRel at hb
  cases hm : k.μ n with
  | none =>
    rw [hm] at hv hb
    obtain ⟨a, e1, e2⟩ := hv
    subst e2
    refine ⟨a, 0, by simp [e1], by simp, by simp [MAXL], fun h => absurd (by simp) h⟩
  | at_ B o cap =>
    rw [hm] at hv hb
    obtain ⟨a, c, e1, h1, h2, h3⟩ := hv
    obtain ⟨row, E, fz, hrow, hfz, h4, h5, h6, h7⟩ := hb
    have hlen : ((xs.drop lo).take len).length = len := by simp; omega
    refine ⟨a, c, by rw [e1, hlen], by rw [hlen]; exact h1, by omega, fun hx => ?_⟩
    have hpos : 0 < len := by
      rcases Nat.eq_zero_or_pos len with h | h
      · exact absurd (List.eq_nil_of_length_eq_zero (hlen.trans h)) hx
      · exact h
    have ha : a = some ⟨B, o + lo * e.size, none⟩ := by
      rcases h3 with h | h
      · exact h
      · omega
    refine ⟨B, o + lo * e.size, row, E, fz, ha, hn B (by rw [hm]; rfl), hrow, ?_, fun i hi => ?_⟩
    · rw [hlen]
      have : (lo + len) * e.size ≤ cap * e.size := Nat.mul_le_mul_right _ (by omega)
      rw [Nat.add_mul] at this
      omega
    · have hi' : lo + i < xs.length := by rw [hlen] at hi; omega
      have := h7 (lo + i) hi'
      have e3 : ((xs.drop lo).take len)[i] = xs[lo + i] := by simp
      rw [e3]
      have e4 : o + (lo + i) * e.size = o + lo * e.size + i * e.size := by rw [Nat.add_mul]; omega
      rw [e4] at this
      exact VRel.mono (fun _ _ _ => rfl) (fun B h _ => hO B h) _ _ _ this

theorem cellAs_sound {N : Nat} {k : Kx} (hk : HRel N k) {t : Ty} {c : Cell} {v : Value} {x : t.den} {O2 : Nat → Prop} (hc : CRel k c v) (h : cellAs (hget k.hp) t c = some x)
    (hO : ∀ B, O2 B → k.O B) (hn : ∀ n, n ∈ ownOf c → (∃ e xs, hget k.hp n = some (.arr e xs)) → ∀ B, (k.μ n).block = some B → ¬ O2 B) : VRel k.w O2 t x [v] := by
  have hval : ∀ (t' : Ty) (y : t'.den), c = .val t' y → asTy t t' y = some x → VRel k.w O2 t x [v] := by
    intro t' y hcv ha
    obtain ⟨e, rfl⟩ := asTy_eq ha
    subst e; subst hcv
    exact VRel.mono (fun _ _ _ => rfl) (fun B h _ => hO B h) _ _ _ hc
  cases t with
  | slice e =>
    cases c with
    | nilS =>
      simp only [cellAs, Option.some.injEq] at h
      subst h
      have hc : v = _ := hc
      exact ⟨none, 0, by rw [hc]; rfl, by simp, by simp [MAXL], fun h => absurd rfl h⟩
    | own n e' =>
      simp only [cellAs] at h
      split at h
      · rename_i he
        subst he
        have hb := arrAs_eq h
        have := own_data (O2 := O2) (hk.blk n _ hb) (hc.2 x hb) (by simp) hO (hn n (by simp [ownOf]) ⟨_, _, hb⟩)
        simpa using this
      · cases h
    | sub n e' lo hi =>
      simp only [cellAs] at h
      split at h
      · rename_i he
        subst he
        cases hl : arrAs e' (hget k.hp n) with
        | none => rw [hl] at h; cases h
        | some xs =>
          rw [hl] at h
          simp only [Option.map_some, Option.some.injEq] at h
          subst h
          have hb := arrAs_eq hl
          obtain ⟨h0, h1, h2, h3⟩ := hc.2 xs hb
          exact own_data (O2 := O2) (hk.blk n _ hb) h3 (by omega) hO (hn n (by simp [ownOf]) ⟨_, _, hb⟩)
      · cases h
    | val t' y => exact hval t' y rfl (by simpa [cellAs] using h)
    | clip e' xs =>
      simp only [cellAs] at h
      split at h
      · rename_i he
        subst he
        simp at h
        subst h
        obtain ⟨a, e1, hv⟩ := hc
        exact VRel.mono (fun _ _ _ => rfl) (fun B h _ => hO B h) _ _ _ hv
      · cases h
    | _ => simp [cellAs] at h
  | int q =>
    cases c with
    | val t' y => exact hval t' y rfl (by simpa [cellAs] using h)
    | _ => simp [cellAs] at h
  | bool =>
    cases c with
    | val t' y => exact hval t' y rfl (by simpa [cellAs] using h)
    | _ => simp [cellAs] at h
  | str =>
    cases c with
    | val t' y => exact hval t' y rfl (by simpa [cellAs] using h)
    | _ => simp [cellAs] at h
  | unit =>
    cases c with
    | val t' y => exact hval t' y rfl (by simpa [cellAs] using h)
    | _ => simp [cellAs] at h
  | pair a b =>
    cases c with
    | val t' y => exact hval t' y rfl (by simpa [cellAs] using h)
    | _ => simp [cellAs] at h

end Go.Ab
