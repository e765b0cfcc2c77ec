/-
  LEMMAS: lookups, cells and data, what is read out of cells, runs of loads and stores.
-/
import Derived.Test.YtnklmlnkiepdiaaGreatDoorAbRel
import Derived.Laws.Cells
import Derived.Laws.Rows
import Derived.Laws.Append
import Derived.Laws.MakeOwn
import Derived.Laws.CopyRow
set_option linter.unusedVariables false
set_option linter.unusedSectionVars false
namespace Go.Ab
variable [Tabs]
open Go.RowKit (Below)

/-! ### lookups -/
theorem hget_hrem (hp : Hp) (n m : Nat) : hget (hrem hp n) m = if m = n then none else hget hp m := by
  induction hp with
  | nil => simp [hrem, hget]
  | cons a r ih =>
    obtain ⟨q, b⟩ := a
    simp only [hrem]
    by_cases h : q = n
    · subst h
      simp only [if_true, ih, hget]
      by_cases h2 : m = q
      · simp [h2]
      · simp [h2, Ne.symm h2]
    · simp only [h, if_false, hget, ih]
      by_cases h2 : q = m
      · subst h2; simp [h]
      · simp [h2]

theorem hget_hput (hp : Hp) (n m : Nat) (b : Blk) : hget (hput hp n b) m = if m = n then some b else hget hp m := by
  induction hp with
  | nil =>
    simp only [hput, hget]
    by_cases h : n = m
    · subst h; simp
    · simp [h, Ne.symm h]
  | cons a r ih =>
    obtain ⟨q, c⟩ := a
    simp only [hput]
    by_cases h : q = n
    · subst h
      simp only [if_true, hget, hget_hrem]
      by_cases h2 : q = m
      · subst h2; simp
      · simp [h2, Ne.symm h2]
    · simp only [h, if_false, hget, ih]
      by_cases h2 : q = m
      · subst h2; simp [h]
      · simp [h2]

/-! ### lengths -/
theorem VRel.len {w : World} {O : Nat → Prop} : ∀ (t : Ty) (x : t.den) (cs : List Value), VRel w O t x cs → cs.length = t.size := by
  intro t
  induction t with
  | int k => intro x cs h; rw [h.1]; rfl
  | bool => intro x cs h; have h : cs = _ := h; rw [h]; rfl
  | str => intro x cs h; obtain ⟨ba, e, _⟩ := h; rw [e]; rfl
  | unit => intro x cs h; have h : cs = _ := h; rw [h]; rfl
  | slice e ih => intro x cs h; obtain ⟨a, cap, e, _⟩ := h; rw [e]; rfl
  | map k v _ _ => intro x cs h; rcases h with ⟨e, _⟩ | ⟨B, es, clk, e, _⟩ <;> (rw [e]; rfl)
  | pair a b iha ihb =>
    intro x cs h
    obtain ⟨c1, c2, e, h1, h2⟩ := h
    rw [e, List.length_append, iha _ _ h1, ihb _ _ h2]; rfl

theorem CRels.len {k : Kx} : ∀ {cs : List Cell} {vs : List Value}, CRels k cs vs → cs.length = vs.length := by
  intro cs
  induction cs with
  | nil => intro vs h; have h : vs = [] := h; rw [h]; rfl
  | cons c cs ih =>
    intro vs h
    obtain ⟨v, r, e, _, h2⟩ := h
    rw [e]; simp [ih h2]

theorem CRels.append {k : Kx} : ∀ {cs ds : List Cell} {vs us : List Value}, CRels k cs vs → CRels k ds us → CRels k (cs ++ ds) (vs ++ us) := by
  intro cs
  induction cs with
  | nil => intro ds vs us h h'; have h : vs = [] := h; rw [h]; exact h'
  | cons c cs ih =>
    intro ds vs us h h'
    obtain ⟨v, r, e, h1, h2⟩ := h
    exact ⟨v, r ++ us, by rw [e]; rfl, h1, ih h2 h'⟩

theorem CRels.split {k : Kx} : ∀ {cs ds : List Cell} {vs : List Value}, CRels k (cs ++ ds) vs → ∃ us ws, vs = us ++ ws ∧ CRels k cs us ∧ CRels k ds ws := by
  intro cs
  induction cs with
  | nil => intro ds vs h; exact ⟨[], vs, rfl, rfl, h⟩
  | cons c cs ih =>
    intro ds vs h
    obtain ⟨v, r, e, h1, h2⟩ := h
    obtain ⟨us, ws, e2, h3, h4⟩ := ih h2
    exact ⟨v :: us, ws, by rw [e, e2]; rfl, ⟨v, us, rfl, h1, h3⟩, h4⟩

theorem CRels.take {k : Kx} {cs : List Cell} {vs : List Value} (n : Nat) (h : CRels k cs vs) : CRels k (cs.take n) (vs.take n) := by
  induction cs generalizing vs n with
  | nil => have h : vs = [] := h; subst h; simp; rfl
  | cons c cs ih =>
    obtain ⟨v, r, e, h1, h2⟩ := h
    subst e
    cases n with
    | zero => simp; rfl
    | succ n => exact ⟨v, r.take n, rfl, h1, ih n h2⟩

theorem CRels.drop {k : Kx} {cs : List Cell} {vs : List Value} (n : Nat) (h : CRels k cs vs) : CRels k (cs.drop n) (vs.drop n) := by
  induction cs generalizing vs n with
  | nil => have h : vs = [] := h; subst h; simp; rfl
  | cons c cs ih =>
    obtain ⟨v, r, e, h1, h2⟩ := h
    subst e
    cases n with
    | zero => exact ⟨v, r, rfl, h1, h2⟩
    | succ n => exact ih n h2

theorem CRels.get {k : Kx} {cs : List Cell} {vs : List Value} (h : CRels k cs vs) (j : Nat) (c : Cell) (hc : cs[j]? = some c) : ∃ v, vs[j]? = some v ∧ CRel k c v := by
  induction cs generalizing vs j with
  | nil => simp at hc
  | cons d cs ih =>
    obtain ⟨v, r, e, h1, h2⟩ := h
    subst e
    cases j with
    | zero => simp at hc; subst hc; exact ⟨v, rfl, h1⟩
    | succ j => simp at hc; simpa using ih h2 j hc

theorem CRels.splice {k : Kx} {cs new : List Cell} {vs us : List Value} (h : CRels k cs vs) (h' : CRels k new us) (off : Nat) : CRels k (splice cs off new) (vs.take off ++ us ++ vs.drop (off + us.length)) := by
  unfold Go.Ab.splice
  rw [← h'.len]
  exact ((h.take off).append h').append (h.drop _)

/-! ### a value's cells are its data's -/
theorem flat_len : ∀ (t : Ty) (x : t.den), (flat t x).length = t.size := by
  intro t
  induction t with
  | pair a b iha ihb => intro x; simp [flat, Ty.size, iha, ihb]
  | unit => intro x; rfl
  | _ => intro x; rfl

theorem flat_own : ∀ (t : Ty) (x : t.den), ∀ c ∈ flat t x, ownOf c = [] := by
  intro t
  induction t with
  | pair a b iha ihb =>
    intro x c hc
    rcases List.mem_append.1 hc with h | h
    · exact iha _ c h
    · exact ihb _ c h
  | unit => intro x c hc; cases hc
  | int q => intro x c hc; simp [flat] at hc; subst hc; rfl
  | bool => intro x c hc; simp [flat] at hc; subst hc; rfl
  | str => intro x c hc; simp [flat] at hc; subst hc; rfl
  | slice e _ => intro x c hc; simp [flat] at hc; subst hc; rfl
  | map k v _ _ => intro x c hc; simp [flat] at hc; subst hc; rfl

theorem flat_rel {k : Kx} : ∀ (t : Ty) (x : t.den) (cs : List Value), VRel k.w k.O t x cs ↔ CRels k (flat t x) cs := by
  intro t
  induction t with
  | pair a b iha ihb =>
    intro x cs
    constructor
    · rintro ⟨c1, c2, e, h1, h2⟩
      rw [e]; exact ((iha _ _).1 h1).append ((ihb _ _).1 h2)
    · intro h
      obtain ⟨us, ws, e, h1, h2⟩ := CRels.split h
      exact ⟨us, ws, e, (iha _ _).2 h1, (ihb _ _).2 h2⟩
  | unit => intro x cs; exact Iff.rfl
  | int q =>
    intro x cs
    constructor
    · intro h; obtain ⟨e, h1⟩ := h; exact ⟨_, [], e, ⟨rfl, h1⟩, rfl⟩
    · rintro ⟨v, r, e, ⟨h1, h2⟩, h3⟩
      have h3 : r = [] := h3
      subst h3; simp at h1; subst h1; exact ⟨e, h2⟩
  | bool =>
    intro x cs
    constructor
    · intro h; exact ⟨_, [], h, rfl, rfl⟩
    · rintro ⟨v, r, e, h1, h3⟩
      have h3 : r = [] := h3
      have h1 : [v] = [.bool x] := h1
      subst h3; simp at h1; subst h1; exact e
  | str =>
    intro x cs
    constructor
    · intro h; obtain ⟨ba, e, h1⟩ := h; exact ⟨_, [], e, ⟨ba, rfl, h1⟩, rfl⟩
    · rintro ⟨v, r, e, ⟨ba, h1, h2⟩, h3⟩
      have h3 : r = [] := h3
      subst h3; simp at h1; subst h1; exact ⟨ba, e, h2⟩
  | slice q ih =>
    intro x cs
    constructor
    · intro h; obtain ⟨a, cap, e, h1⟩ := h; exact ⟨_, [], e, ⟨a, cap, rfl, h1⟩, rfl⟩
    · rintro ⟨v, r, e, ⟨a, cap, h1, h2⟩, h3⟩
      have h3 : r = [] := h3
      subst h3; simp at h1; subst h1; exact ⟨a, cap, e, h2⟩
  | map q r _ _ =>
    intro x cs
    constructor
    · intro h
      have h' := h
      rcases h with ⟨e, _⟩ | ⟨B, es, clk, e, _⟩
      · subst e; exact ⟨_, [], rfl, h', rfl⟩
      · subst e; exact ⟨_, [], rfl, h', rfl⟩
    · rintro ⟨v, r, e, h1, h3⟩
      have h3 : r = [] := h3
      subst h3
      rw [e]; exact h1

/-- Data without slices lead nowhere. -/
theorem VRel.anyO {w : World} {O O' : Nat → Prop} : ∀ (t : Ty) (x : t.den) (cs : List Value), t.flatOnly = true → VRel w O t x cs → VRel w O' t x cs := by
  intro t
  induction t with
  | pair a b iha ihb =>
    intro x cs hf h
    simp only [Ty.flatOnly, Bool.and_eq_true] at hf
    obtain ⟨c1, c2, e, h1, h2⟩ := h
    exact ⟨c1, c2, e, iha _ _ hf.1 h1, ihb _ _ hf.2 h2⟩
  | slice e ih => intro x cs hf h; simp [Ty.flatOnly] at hf
  | map k v _ _ => intro x cs hf h; simp [Ty.flatOnly] at hf
  | int k => intro x cs _ h; exact h
  | bool => intro x cs _ h; exact h
  | str => intro x cs _ h; exact h
  | unit => intro x cs _ h; exact h

theorem VRel.anyW {w w' : World} {O O' : Nat → Prop} : ∀ (t : Ty) (x : t.den) (cs : List Value), t.flatOnly = true → VRel w O t x cs → VRel w' O' t x cs := by
  intro t
  induction t with
  | pair a b iha ihb =>
    intro x cs hf h
    simp only [Ty.flatOnly, Bool.and_eq_true] at hf
    obtain ⟨c1, c2, e, h1, h2⟩ := h
    exact ⟨c1, c2, e, iha _ _ hf.1 h1, ihb _ _ hf.2 h2⟩
  | slice e ih => intro x cs hf h; simp [Ty.flatOnly] at hf
  | map k v _ _ => intro x cs hf h; simp [Ty.flatOnly] at hf
  | int k => intro x cs _ h; exact h
  | bool => intro x cs _ h; exact h
  | str => intro x cs _ h; exact h
  | unit => intro x cs _ h; exact h

/-! ### parts of rows -/
theorem part_len {row : Array Value} {o n : Nat} (h : o + n ≤ row.size) : (part_ row o n).length = n := by
  simp [part_]; omega

theorem part_get {row : Array Value} {o n j : Nat} (hj : j < n) : (part_ row o n)[j]? = row[o + j]? := by
  simp [part_, hj]

theorem part_part {row : Array Value} {o n a b : Nat} (h : a + b ≤ n) : ((part_ row o n).drop a).take b = part_ row (o + a) b := by
  simp only [part_, List.drop_take, List.drop_drop, List.take_take]
  rw [Nat.min_eq_left (by omega)]

theorem part_all {row : Array Value} : part_ row 0 row.size = row.toList := by
  unfold part_
  rw [List.drop_zero]
  exact List.take_of_length_le (by simp)

/-! ### data out of cells -/
/-- the blocks whose content a cell stands for -/
theorem asTy_eq {t t' : Ty} {x : t.den} {y : t'.den} (h : asTy t' t x = some y) : ∃ e : t = t', y = e ▸ x := by
  unfold asTy at h
  split at h
  · rename_i e; simp at h; exact ⟨e, h.symm⟩
  · cases h

theorem arrAs_eq {e : Ty} {b : Option Blk} {xs : List e.den} (h : arrAs e b = some xs) : b = some (.arr e xs) := by
  unfold arrAs at h
  split at h
  · split at h
    · rename_i heq
      subst heq
      simp at h
      subst h
      rfl
    · cases h
  · cases h

theorem mapAs_eq {k v : Ty} {b : Option Blk} {xs : List (k.den × v.den)} (h : mapAs k v b = some xs) : b = some (.map k v xs) := by
  unfold mapAs at h
  split at h
  · split at h
    · rename_i heq
      obtain ⟨h1, h2⟩ := heq
      subst h1; subst h2
      simp at h
      subst h
      rfl
    · cases h
  · cases h

theorem EntRel.mono {R R' : (t : Ty) → t.den → List Value → Prop} {k v : Ty} {xs : List (k.den × v.den)} {es : Array MapEntry} (h : EntRel R k v xs es) (hR : ∀ t x cs, R t x cs → R' t x cs) : EntRel R' k v xs es :=
  ⟨h.1, fun i h1 h2 => ⟨hR _ _ _ (h.2 i h1 h2).1, (h.2 i h1 h2).2.1, hR _ _ _ (h.2 i h1 h2).2.2⟩⟩

/-- What a map of the call's own holds, as data. -/
theorem map_data {k : Kx} {n : Nat} {kt vt : Ty} {xs : List (kt.den × vt.den)} {v : Value} {O2 : Nat → Prop} (hb : BRel k n (.map kt vt xs)) (hv : ∃ B, k.μ n = .at_ B 0 0 ∧ v = .map (some B))
    (hO : ∀ B, O2 B → k.O B) (hn : ∀ B, (k.μ n).block = some B → ¬ O2 B) : VRel k.w O2 (.map kt vt) xs [v] := by
  obtain ⟨B, es, clk, h1, h2, h3⟩ := hb
  obtain ⟨B', h4, h5⟩ := hv
  rw [h1] at h4
  simp only [Loc.at_.injEq] at h4
  obtain ⟨h4, _⟩ := h4
  subst h4
  have h6 := h3.mono (R' := VRel k.w O2) (fun t x cs h => VRel.mono (fun _ _ _ => rfl) (fun B h _ => hO B h) _ _ _ h)
  exact Or.inr ⟨B, es, clk, by rw [h5], hn B (by rw [h1]; rfl), h2, h6.1, h6.2⟩

/-- What lies in a block of the call's own, as data: it may lie nowhere where O2 is true. -/
theorem own_data {k : Kx} {n : Nat} {e : Ty} {xs : List e.den} {lo len : Nat} {v : Value} {O2 : Nat → Prop} (hb : BRel k n (.arr e xs)) (hv : Hdr (k.μ n) e lo len v) (hle : lo + len ≤ xs.length)
    (hO : ∀ B, O2 B → k.O B) (hn : ∀ B, (k.μ n).block = some B → ¬ O2 B) : VRel k.w O2 (.slice e) ((xs.drop lo).take len) [v] := by
  unfold BRel at hb
  cases hm : k.μ n with
  | none =>
    rw [hm] at hv hb
    obtain ⟨a, e1, e2, _⟩ := hv
    subst e2
    refine ⟨a, 0, by simp [e1], by simp, by simp [MAXL], fun h => absurd (by simp) h⟩
  | at_ B o cap =>
    rw [hm] at hv hb
    obtain ⟨a, c, e1, h1, h2, h3⟩ := hv
    obtain ⟨row, E, fz, hrow, hfz, h4, h5, h6, h7⟩ := hb
    have hlen : ((xs.drop lo).take len).length = len := by simp; omega
    refine ⟨a, c, by rw [e1, hlen], by rw [hlen]; exact h1, by omega, fun hx => ?_⟩
    have hpos : 0 < len := by
      rcases Nat.eq_zero_or_pos len with h | h
      · exact absurd (List.eq_nil_of_length_eq_zero (hlen.trans h)) hx
      · exact h
    have ha : a = some ⟨B, o + lo * e.size, none⟩ := by
      rcases h3 with h | h
      · exact h
      · omega
    refine ⟨B, o + lo * e.size, row, _, fz, ha, hn B (by rw [hm]; rfl), hrow, ?_, fun i hi => ?_⟩
    · rw [hlen]
      have : (lo + len) * e.size ≤ cap * e.size := Nat.mul_le_mul_right _ (by omega)
      rw [Nat.add_mul] at this
      omega
    · have hi' : lo + i < xs.length := by rw [hlen] at hi; omega
      have := h7 (lo + i) hi'
      have e3 : ((xs.drop lo).take len)[i] = xs[lo + i] := by simp
      rw [e3]
      have e4 : o + (lo + i) * e.size = o + lo * e.size + i * e.size := by rw [Nat.add_mul]; omega
      rw [e4] at this
      exact VRel.mono (fun _ _ _ => rfl) (fun B h _ => hO B h) _ _ _ this

/-- elements, or a map -/
def ArrMap (b : Option Blk) : Prop := (∃ e xs, b = some (.arr e xs)) ∨ ∃ k v xs, b = some (.map k v xs)

theorem cellAs_sound {N : Nat} {k : Kx} (hk : HRel N k) {t : Ty} {c : Cell} {v : Value} {x : t.den} {O2 : Nat → Prop} (hc : CRel k c v) (h : cellAs (hget k.hp) t c = some x)
    (hO : ∀ B, O2 B → k.O B) (hn : ∀ n, n ∈ ownOf c → ArrMap (hget k.hp n) → ∀ B, (k.μ n).block = some B → ¬ O2 B) : VRel k.w O2 t x [v] := by
  have hval : ∀ (t' : Ty) (y : t'.den), c = .val t' y → asTy t t' y = some x → VRel k.w O2 t x [v] := by
    intro t' y hcv ha
    obtain ⟨e, rfl⟩ := asTy_eq ha
    subst e; subst hcv
    exact VRel.mono (fun _ _ _ => rfl) (fun B h _ => hO B h) _ _ _ hc
  cases t with
  | slice e =>
    cases c with
    | nilS =>
      simp only [cellAs, Option.some.injEq] at h
      subst h
      have hc : v = _ := hc
      exact ⟨none, 0, by rw [hc]; rfl, by simp, by simp [MAXL], fun h => absurd rfl h⟩
    | own n e' =>
      simp only [cellAs] at h
      split at h
      · rename_i he
        subst he
        have hb := arrAs_eq h
        have := own_data (O2 := O2) (hk.blk n _ hb) (hc.2 x hb) (by simp) hO (hn n (by simp [ownOf]) (Or.inl ⟨_, _, hb⟩))
        simpa using this
      · cases h
    | sub n e' lo hi =>
      simp only [cellAs] at h
      split at h
      · rename_i he
        subst he
        cases hl : arrAs e' (hget k.hp n) with
        | none => rw [hl] at h; cases h
        | some xs =>
          rw [hl] at h
          simp only [Option.map_some, Option.some.injEq] at h
          subst h
          have hb := arrAs_eq hl
          obtain ⟨h0, h1, h2, h3⟩ := hc.2 xs hb
          exact own_data (O2 := O2) (hk.blk n _ hb) h3 (by omega) hO (hn n (by simp [ownOf]) (Or.inl ⟨_, _, hb⟩))
      · cases h
    | clp n e' lo hi =>
      simp only [cellAs] at h
      split at h
      · rename_i he
        subst he
        cases hl : arrAs e' (hget k.hp n) with
        | none => rw [hl] at h; cases h
        | some xs =>
          rw [hl] at h
          simp only [Option.map_some, Option.some.injEq] at h
          subst h
          have hb := arrAs_eq hl
          obtain ⟨h0, h1, h2, _, h3⟩ := hc.2 xs hb
          exact own_data (O2 := O2) (hk.blk n _ hb) h3 (by omega) hO (hn n (by simp [ownOf]) (Or.inl ⟨_, _, hb⟩))
      · cases h
    | val t' y => exact hval t' y rfl (by simpa [cellAs] using h)
    | clip e' xs =>
      simp only [cellAs] at h
      split at h
      · rename_i he
        subst he
        simp at h
        subst h
        obtain ⟨a, e1, hv⟩ := hc
        exact VRel.mono (fun _ _ _ => rfl) (fun B h _ => hO B h) _ _ _ hv
      · cases h
    | nq b e' xs =>
      simp only [cellAs] at h
      split at h
      · rename_i he
        subst he
        simp at h
        subst h
        exact VRel.mono (fun _ _ _ => rfl) (fun B h _ => hO B h) _ _ _ hc.1
      · cases h
    | _ => simp [cellAs] at h
  | map kt vt =>
    cases c with
    | mp n k' v' =>
      simp only [cellAs] at h
      split at h
      · rename_i he
        obtain ⟨h1, h2⟩ := he
        subst h1; subst h2
        have hb := mapAs_eq h
        exact map_data (hk.blk n _ hb) (hc.2 x hb) hO (hn n (by simp [ownOf]) (Or.inr ⟨_, _, _, hb⟩))
      · cases h
    | val t' y => exact hval t' y rfl (by simpa [cellAs] using h)
    | _ => simp [cellAs] at h
  | int q =>
    cases c with
    | val t' y => exact hval t' y rfl (by simpa [cellAs] using h)
    | _ => simp [cellAs] at h
  | bool =>
    cases c with
    | val t' y => exact hval t' y rfl (by simpa [cellAs] using h)
    | _ => simp [cellAs] at h
  | str =>
    cases c with
    | val t' y => exact hval t' y rfl (by simpa [cellAs] using h)
    | _ => simp [cellAs] at h
  | unit =>
    cases c with
    | val t' y => exact hval t' y rfl (by simpa [cellAs] using h)
    | _ => simp [cellAs] at h
  | pair a b =>
    cases c with
    | val t' y => exact hval t' y rfl (by simpa [cellAs] using h)
    | _ => simp [cellAs] at h

end Go.Ab

/-
  LEMMAS: cells read as data; freezing; runs of loads, stores, new rows.
-/
set_option linter.unusedVariables false
namespace Go.Ab
variable [Tabs]
open Go.RowKit (Below)

/-- 'O2' is true of no block that one of these cells stands for. -/
def Clear (k : Kx) (O2 : Nat → Prop) (cs : List Cell) : Prop := ∀ c ∈ cs, ∀ n ∈ ownOf c, ArrMap (hget k.hp n) → ∀ B, (k.μ n).block = some B → ¬ O2 B

theorem parse_sound {N : Nat} {k : Kx} (hk : HRel N k) {O2 : Nat → Prop} (hO : ∀ B, O2 B → k.O B) : ∀ (t : Ty) (cs : List Cell) (vs : List Value) (x : t.den) (rest : List Cell),
    CRels k cs vs → parse (hget k.hp) t cs = some (x, rest) → Clear k O2 cs → ∃ pre us ws, cs = pre ++ rest ∧ vs = us ++ ws ∧ VRel k.w O2 t x us ∧ CRels k rest ws := by
  have single : ∀ (t : Ty) (c : Cell) (r : List Cell) (vs : List Value) (x : t.den) (rest : List Cell), CRels k (c :: r) vs → (cellAs (hget k.hp) t c).map (fun y => (y, r)) = some (x, rest) → Clear k O2 (c :: r) →
      (∀ y v, VRel k.w O2 t y [v] → VRel k.w O2 t y [v]) → ∃ pre us ws, c :: r = pre ++ rest ∧ vs = us ++ ws ∧ VRel k.w O2 t x us ∧ CRels k rest ws := by
    intro t c r vs x rest h hp hc _
    cases hy : cellAs (hget k.hp) t c with
    | none => rw [hy] at hp; cases hp
    | some y =>
      rw [hy] at hp
      simp only [Option.map_some, Option.some.injEq, Prod.mk.injEq] at hp
      obtain ⟨rfl, rfl⟩ := hp
      obtain ⟨v, ws, e, h1, h2⟩ := h
      exact ⟨[c], [v], ws, rfl, e, cellAs_sound hk h1 hy hO (fun n hn => hc c (by simp) n hn), h2⟩
  intro t
  induction t with
  | unit =>
    intro cs vs x rest h hp hc
    simp only [parse, Option.some.injEq, Prod.mk.injEq] at hp
    obtain ⟨_, rfl⟩ := hp
    exact ⟨[], [], vs, rfl, rfl, rfl, h⟩
  | pair a b iha ihb =>
    intro cs vs x rest h hp hc
    simp only [parse] at hp
    cases h1 : parse (hget k.hp) a cs with
    | none => rw [h1] at hp; cases hp
    | some p =>
      obtain ⟨y, r⟩ := p
      rw [h1] at hp
      simp only at hp
      cases h2 : parse (hget k.hp) b r with
      | none => rw [h2] at hp; cases hp
      | some q =>
        obtain ⟨z, r'⟩ := q
        rw [h2] at hp
        simp only [Option.some.injEq, Prod.mk.injEq] at hp
        obtain ⟨rfl, rfl⟩ := hp
        obtain ⟨pre, us, ws, e1, e2, hv, hr⟩ := iha cs vs y r h h1 hc
        obtain ⟨pre', us', ws', e3, e4, hv', hr'⟩ := ihb r ws z r' hr h2 (fun c hm => hc c (by rw [e1]; simp [hm]))
        exact ⟨pre ++ pre', us ++ us', ws', by rw [e1, e3, List.append_assoc], by rw [e2, e4, List.append_assoc], ⟨us, us', rfl, hv, hv'⟩, hr'⟩
  | int q =>
    intro cs vs x rest h hp hc
    cases cs with
    | nil => simp [parse] at hp
    | cons c r => exact single _ c r vs x rest h hp hc (fun _ _ h => h)
  | bool =>
    intro cs vs x rest h hp hc
    cases cs with
    | nil => simp [parse] at hp
    | cons c r => exact single _ c r vs x rest h hp hc (fun _ _ h => h)
  | str =>
    intro cs vs x rest h hp hc
    cases cs with
    | nil => simp [parse] at hp
    | cons c r => exact single _ c r vs x rest h hp hc (fun _ _ h => h)
  | slice e _ =>
    intro cs vs x rest h hp hc
    cases cs with
    | nil => simp [parse] at hp
    | cons c r => exact single _ c r vs x rest h hp hc (fun _ _ h => h)
  | map k v _ _ =>
    intro cs vs x rest h hp hc
    cases cs with
    | nil => simp [parse] at hp
    | cons c r => exact single _ c r vs x rest h hp hc (fun _ _ h => h)

theorem parseAll_sound {N : Nat} {k : Kx} (hk : HRel N k) {O2 : Nat → Prop} (hO : ∀ B, O2 B → k.O B) {t : Ty} {cs : List Cell} {vs : List Value} {x : t.den}
    (h : CRels k cs vs) (hp : parseAll (hget k.hp) t cs = some x) (hc : Clear k O2 cs) : VRel k.w O2 t x vs := by
  unfold parseAll at hp
  split at hp
  · rename_i y hy
    simp only [Option.some.injEq] at hp
    subst hp
    obtain ⟨pre, us, ws, e1, e2, hv, hr⟩ := parse_sound hk hO t cs vs y [] h hy hc
    have hr : ws = [] := hr
    rw [e2, hr, List.append_nil]; exact hv
  · cases hp

theorem zeros_len : ∀ t : Ty, (zeros t).length = t.size := by
  intro t
  induction t with
  | pair a b iha ihb => simp [zeros, Ty.size, iha, ihb]
  | _ => rfl

/-- the cells of a zero value -/
def zeroVals : Ty → List Value
  | .unit => []
  | .pair a b => zeroVals a ++ zeroVals b
  | .int k => [.int k 0]
  | .bool => [.bool false]
  | .str => [.string ⟨#[]⟩]
  | .slice _ => [.slice none 0 0]
  | .map _ _ => [.map none]

theorem wrap_zero (k : IntKind) : k.wrap 0 = 0 := by cases k <;> decide

theorem zeros_rel (k : Kx) : ∀ t : Ty, CRels k (zeros t) (zeroVals t) := by
  intro t
  induction t with
  | pair a b iha ihb => exact iha.append ihb
  | unit => rfl
  | int q => exact ⟨_, [], rfl, ⟨rfl, wrap_zero q⟩, rfl⟩
  | bool => exact ⟨_, [], rfl, rfl, rfl⟩
  | str => exact ⟨_, [], rfl, ⟨⟨#[]⟩, rfl, rfl, Nat.zero_le _⟩, rfl⟩
  | slice e _ => exact ⟨_, [], rfl, rfl, rfl⟩
  | map k v _ _ => exact ⟨_, [], rfl, Or.inl ⟨rfl, rfl⟩, rfl⟩

theorem dflt_rel (w : World) (O : Nat → Prop) : ∀ t : Ty, VRel w O t t.dflt (zeroVals t) := by
  intro t
  induction t with
  | pair a b iha ihb => exact ⟨_, _, rfl, iha, ihb⟩
  | unit => rfl
  | int q => exact ⟨rfl, wrap_zero q⟩
  | bool => rfl
  | str => exact ⟨⟨#[]⟩, rfl, rfl, Nat.zero_le _⟩
  | slice e _ => exact ⟨none, 0, rfl, by simp [Ty.dflt], by simp [MAXL], fun h => absurd rfl h⟩
  | map k v _ _ => exact Or.inl ⟨rfl, rfl⟩

/-! ### the types -/
/-- What is asked of the table of pure types. -/
def EnvOK (E : Env) : Prop := ∀ t ty, E.ty t = some ty → ∃ i z, E.P.info? t = some i ∧ i.zero = some z ∧ z.cells.toList = zeroVals ty ∧ ty.size = i.size ∧ ty.isAgg = aggT E.P t ∧ tagOf ty t = t

theorem cellsOf_info {P : Program} {t : TypeId} {i : TypeInfo} (h : P.info? t = some i) : P.cellsOf t = i.size := by simp [Program.cellsOf, h]
theorem bytesOf_info {P : Program} {t : TypeId} {i : TypeInfo} (h : P.info? t = some i) : P.bytesOf t = i.bytes := by simp [Program.bytesOf, h]
theorem info_of_cells {P : Program} {t : TypeId} (h : P.cellsOf t ≠ 0) : ∃ i, P.info? t = some i := by
  cases hi : P.info? t with
  | none => simp [Program.cellsOf, hi] at h
  | some i => exact ⟨i, rfl⟩
theorem info_of_under {P : Program} {t : TypeId} {d : TypeDesc} (h : P.underlying t = some d) : ∃ i, P.info? t = some i := by
  cases hi : P.info? t with
  | some i => exact ⟨i, rfl⟩
  | none => simp [Program.underlying, hi] at h

theorem run_under {P : Program} {t : TypeId} {d : TypeDesc} (w : World) (h : P.underlying t = some d) : (underlying t).run P w = .ok d w := by
  simp [underlying, program, Sem.run, bind, Sem.bind, h, pure]
theorem run_info {P : Program} {t : TypeId} {i : TypeInfo} (w : World) (h : P.info? t = some i) : (typeInfo t).run P w = .ok i w := by
  simp [typeInfo, program, Sem.run, bind, Sem.bind, h, pure]
theorem run_sizeOf' {P : Program} {t : TypeId} {i : TypeInfo} (w : World) (h : P.info? t = some i) : (sizeOf t).run P w = .ok i.size w := by
  simp [sizeOf, typeInfo, program, Sem.run, bind, Sem.bind, h, pure]
theorem run_zero {P : Program} {t : TypeId} {i : TypeInfo} {z : Value} (w : World) (h : P.info? t = some i) (hz : i.zero = some z) : (zeroValue t).run P w = .ok z w := by
  simp [zeroValue, typeInfo, program, Sem.run, bind, Sem.bind, h, hz, pure]
theorem run_isAgg {P : Program} {t : TypeId} {d : TypeDesc} (w : World) (h : P.underlying t = some d) : (isAgg t).run P w = .ok (aggT P t) w := by
  simp only [isAgg, aggT, h, Sem.run_bind, run_under w h, Result.andThen_ok]
  cases d <;> rfl

/-! ### one cell each -/
theorem VRel.one {w : World} {O : Nat → Prop} : ∀ (t : Ty) (x : t.den) (cs : List Value), VRel w O t x cs → ∀ v ∈ cs, v.oneCell' = true := by
  intro t
  induction t with
  | int k => intro x cs h v hv; rw [h.1] at hv; simp at hv; subst hv; rfl
  | bool => intro x cs h v hv; have h : cs = _ := h; rw [h] at hv; simp at hv; subst hv; rfl
  | str => intro x cs h v hv; obtain ⟨ba, e, _⟩ := h; rw [e] at hv; simp at hv; subst hv; rfl
  | unit => intro x cs h v hv; have h : cs = _ := h; rw [h] at hv; cases hv
  | slice e ih => intro x cs h v hv; obtain ⟨a, cap, e, _⟩ := h; rw [e] at hv; simp at hv; subst hv; rfl
  | map k t _ _ => intro x cs h v hv; rcases h with ⟨e, _⟩ | ⟨B, es, clk, e, _⟩ <;> (rw [e] at hv; simp at hv; subst hv; rfl)
  | pair a b iha ihb =>
    intro x cs h v hv
    obtain ⟨c1, c2, e, h1, h2⟩ := h
    rw [e] at hv
    rcases List.mem_append.1 hv with hv | hv
    · exact iha _ _ h1 v hv
    · exact ihb _ _ h2 v hv

theorem CRel.one {k : Kx} {c : Cell} {v : Value} (h : CRel k c v) : v.oneCell' = true := by
  cases c with
  | undef => exact h
  | val t x => exact VRel.one t x [v] h v (by simp)
  | nilS => have h : v = _ := h; subst h; rfl
  | pptr t x off => obtain ⟨B, o, row, E, fz, e, _⟩ := h; subst e; rfl
  | fn f caps => obtain ⟨vs, e, _⟩ := h; subst e; rfl
  | clip e xs => obtain ⟨a, e, _⟩ := h; subst e; rfl
  | own n e => exact h.1.2
  | mp n kt vt => exact h.1.2
  | nq b e xs => obtain ⟨_, a, n, c, e, _⟩ := h; subst e; rfl
  | ifc b => rcases h with ⟨_, e⟩ | ⟨_, t, p, e⟩ <;> subst e <;> rfl
  | sub n e lo hi => exact h.1.2
  | clp n e lo hi => exact h.1.2
  | self n t => exact h.1.2
  | ptr n off => obtain ⟨a, e⟩ := h.1.2; subst e; rfl
  | eptr n e i off => obtain ⟨a, e⟩ := h.1.2; subst e; rfl

theorem CRels.one {k : Kx} : ∀ {cs : List Cell} {vs : List Value}, CRels k cs vs → ∀ v ∈ vs, v.oneCell' = true := by
  intro cs
  induction cs with
  | nil => intro vs h v hv; have h : vs = [] := h; rw [h] at hv; cases hv
  | cons c cs ih =>
    intro vs h v hv
    obtain ⟨u, r, e, h1, h2⟩ := h
    rw [e] at hv
    rcases List.mem_cons.1 hv with hv | hv
    · rw [hv]; exact h1.one
    · exact ih h2 v hv

theorem cells_one {v : Value} (h : v.oneCell' = true) : v.cells = #[v] := by cases v <;> first | rfl | (simp [Value.oneCell'] at h)

/-- the cells of a value whose make is known -/
theorem ARel.cells {k : Kx} {a : AVal} {v : Value} (h : ARel k a v) (hk : known a = true) : CRels k (cellsOf a) v.cells.toList := by
  cases a with
  | one c =>
    rcases h with h | h
    · subst h; simp [known] at hk
    · rw [cells_one h.one]; exact ⟨v, [], rfl, h, rfl⟩
  | pure t x =>
    obtain ⟨_, vs, e, hv⟩ := h
    subst e
    exact (flat_rel t x _).1 hv
  | agg cs => obtain ⟨vs, e, hv⟩ := h; subst e; exact hv
  | tup ps => simp [known] at hk

/-! ### reading a row -/
theorem add0 (B o j : Nat) : (⟨B, o, none⟩ : Addr).add j = ⟨B, o + j, none⟩ := by unfold Addr.add; split <;> simp_all

theorem run_cells_row {P : Program} (w : World) (B o n : Nat) (row : Array Value) (E : TypeId) (fz : Nat × Nat) (h : w.heap[B]? = some (.cells row E fz)) (hn : o + n ≤ row.size) :
    (loadCells ⟨B, o, none⟩ n).run P w = .ok (part_ row o n).toArray w := by
  have hl : (part_ row o n).length = n := part_len hn
  have := run_loadCells_list (P := P) w ⟨B, o, none⟩ (part_ row o n) (fun j v hj => by
    have hj' : j < n := by
      have := (List.getElem?_eq_some_iff.1 hj).1
      omega
    rw [add0, cell_of_row w B (o + j) row E fz h, ← part_get hj']; exact hj)
  rw [hl] at this
  exact this

/-- What is loaded from a row: a value of the type's make. -/
theorem run_loadVar {P : Program} (w : World) (t : TypeId) (d : TypeDesc) (B o : Nat) (row : Array Value) (E : TypeId) (fz : Nat × Nat) (hd : P.underlying t = some d)
    (h : w.heap[B]? = some (.cells row E fz)) (hn : o + P.cellsOf t ≤ row.size) (h1 : aggT P t = false → P.cellsOf t = 1) :
    ∃ v, (loadVar t ⟨B, o, none⟩).run P w = .ok v w ∧ v = (if aggT P t then .agg (part_ row o (P.cellsOf t)).toArray else (part_ row o (P.cellsOf t)).getD 0 undef) := by
  obtain ⟨i, hi⟩ := info_of_under hd
  have hs : P.cellsOf t = i.size := cellsOf_info hi
  cases ha : aggT P t with
  | true =>
    refine ⟨_, ?_, rfl⟩
    simp only [loadVar, Sem.run_bind, run_isAgg w hd, ha, Result.andThen_ok, if_true, run_sizeOf' w hi, ← hs, run_cells_row (P := P) w B o (P.cellsOf t) row E fz h hn]
    rfl
  | false =>
    refine ⟨_, ?_, rfl⟩
    have h1 := h1 ha
    have hlt : o < row.size := by omega
    simp only [loadVar, Sem.run_bind, run_isAgg w hd, ha, Result.andThen_ok, Bool.false_eq_true, if_false, run_load, cell_of_row w B o row E fz h]
    have e : (part_ row o (P.cellsOf t)).getD 0 undef = row[o] := by
      rw [List.getD_eq_getElem?_getD, part_get (by omega)]
      simp [hlt]
    rw [e]
    simp [hlt]

/-- A value that was loaded is of the cells that lie there. -/
theorem loaded_rel {k : Kx} {P : Program} {t : TypeId} {cs : List Cell} {us : List Value} (h : CRels k cs us) (hw : wf1 P t = true) (hl : cs.length = P.cellsOf t) :
    ARel k (mkV (aggT P t) cs) (if aggT P t then .agg us.toArray else us.getD 0 undef) := by
  cases ha : aggT P t with
  | true => exact ⟨us.toArray, rfl, by simpa using h⟩
  | false =>
    simp only [wf1, ha, Bool.false_or, Bool.and_eq_true, decide_eq_true_eq] at hw
    match cs, us, h with
    | [c], us, h =>
      obtain ⟨v, r, e, h1, h2⟩ := h
      subst e
      exact Or.inr h1
    | [], _, _ => simp at hl; omega
    | _ :: _ :: _, _, _ => simp at hl; omega

/-! ### writing a row -/
def putRow (w : World) (B : Nat) (row : Array Value) : World := w.setRow B row

theorem run_storeCells' (P : Program) (g o : Nat) (t : TypeId) (fz : Nat × Nat) : ∀ (vs : List Value) (i : Nat) (cur : Array Value) (w : World), w.heap[g]? = some (.cells cur t fz) → Unfrozen cur fz → o + i + vs.length ≤ cur.size → (∀ v ∈ vs, v.oneCell' = true) →
    (storeCells ⟨g, o, none⟩ vs i).run P w = .ok () (w.setRow g (cur.toList.take (o + i) ++ vs ++ cur.toList.drop (o + i + vs.length)).toArray)
  | [], i, cur, w, hg, _, _, _ => by
    simp only [storeCells, List.append_nil, List.length_nil, Nat.add_zero, List.take_append_drop, Array.toArray_toList]
    rw [setRow_self w g cur t fz hg]
    rfl
  | v :: rest, i, cur, w, hg, hf, hl, h1 => by
    have hi : o + i < cur.size := by simp at hl; omega
    have hadd : (⟨g, o, none⟩ : Addr).add i = ⟨g, o + i, none⟩ := add0 g o i
    have hcell : w.cell? ⟨g, o + i, none⟩ = some cur[o + i] := by simp [World.cell?, hg, hi]
    have hfro : w.frozen? ⟨g, o + i, none⟩ = false := by
      have := hf (o + i) hi
      simp only [World.frozen?, hg]
      simpa using this
    have hst : (store ((⟨g, o, none⟩ : Addr).add i) v).run P w = .ok () (w.setRow g (cur.setIfInBounds (o + i) v)) := by
      rw [hadd, run_store P w _ v _ (h1 v (by simp)), hcell]
      simp [hfro, setCell_eq_setRow w g (o + i) cur t fz v hg]
    have ih := run_storeCells' P g o t fz rest (i + 1) (cur.setIfInBounds (o + i) v) (w.setRow g (cur.setIfInBounds (o + i) v)) (setRow_heap w g cur _ t _ hg) (by simpa [Unfrozen] using hf) (by simp at hl ⊢; omega) (fun x hx => h1 x (by simp [hx]))
    simp only [storeCells, Sem.run_bind, hst, Result.andThen_ok, ih, setRow_setRow]
    congr 3
    have e := list_seg_step cur.toList (o + i) v rest (by simp at hl ⊢; omega)
    simpa [Array.toList_setIfInBounds, Nat.add_assoc] using e

/-- the row behind a store -/
def rowPut (row : Array Value) (o : Nat) (us : List Value) : Array Value := (row.toList.take o ++ us ++ row.toList.drop (o + us.length)).toArray

theorem rowPut_size {row : Array Value} {o : Nat} {us : List Value} (h : o + us.length ≤ row.size) : (rowPut row o us).size = row.size := by
  simp [rowPut]; omega

theorem run_storeVar {P : Program} (w : World) (t : TypeId) (d : TypeDesc) (B o : Nat) (row : Array Value) (E : TypeId) (fz : Nat × Nat) (v : Value) (hd : P.underlying t = some d)
    (h : w.heap[B]? = some (.cells row E fz)) (hf : Unfrozen row fz) (hn : o + v.cells.size ≤ row.size) (hs : v.cells.size = P.cellsOf t) (h1 : ∀ u ∈ v.cells.toList, u.oneCell' = true) :
    (storeVar t ⟨B, o, none⟩ v).run P w = .ok () (w.setRow B (rowPut row o v.cells.toList)) := by
  obtain ⟨i, hi⟩ := info_of_under hd
  have hs' : P.cellsOf t = i.size := cellsOf_info hi
  have := run_storeCells' P B o E fz v.cells.toList 0 row w h hf (by simpa using hn) h1
  simp only [storeVar, Sem.run_bind, run_sizeOf' w hi, Result.andThen_ok]
  rw [if_neg (by omega), this]
  rfl

end Go.Ab

/-
  LEMMAS: a new name; a block written; a block frozen.
-/
set_option linter.unusedVariables false
namespace Go.Ab
variable [Tabs]
open Go.RowKit (Below)

def upd (μ : Nat → Loc) (n : Nat) (l : Loc) : Nat → Loc := fun m => if m = n then l else μ m

theorem upd_same (μ : Nat → Loc) (n : Nat) (l : Loc) : upd μ n l n = l := by simp [upd]
theorem upd_other (μ : Nat → Loc) {n m : Nat} (l : Loc) (h : m ≠ n) : upd μ n l m = μ m := by simp [upd, h]

/-- the blocks without one that is given up -/
def without (hp : Hp) : Option Nat → Hp
  | none => hp
  | some n => hrem hp n

theorem hget_without {hp : Hp} {rm : Option Nat} {m : Nat} {b : Blk} (h : hget (without hp rm) m = some b) : hget hp m = some b ∧ rm ≠ some m := by
  cases rm with
  | none => exact ⟨h, by simp⟩
  | some n =>
    simp only [without, hget_hrem] at h
    split at h
    · cases h
    · rename_i hne; exact ⟨h, by simpa using fun e => hne e.symm⟩

/-- What a new name makes of the state. -/
structure NewName (N : Nat) (k : Kx) (w' : World) (rm : Option Nat) (l : Loc) : Prop where
  low : N ≤ k.w.heap.size
  size : k.w.heap.size ≤ w'.heap.size
  same : ∀ B, B < k.w.heap.size → (∀ n, rm = some n → (k.μ n).block ≠ some B) → w'.heap[B]? = k.w.heap[B]?
  live : ∀ n, rm = some n → ∃ b, hget k.hp n = some b
  place : ∀ B, l.block = some B → (k.w.heap.size ≤ B ∧ B < w'.heap.size) ∨ (∃ n, rm = some n ∧ (k.μ n).block = some B)

def newK (k : Kx) (w' : World) (rm : Option Nat) (l : Loc) (b : Blk) : Kx := ⟨w', hput (without k.hp rm) k.nx b, upd k.μ k.nx l, k.nx + 1, k.X, fun n => k.U n ∨ n = k.nx⟩

theorem NewName.ext {N : Nat} {k : Kx} {w' : World} {rm : Option Nat} {l : Loc} (h : NewName N k w' rm l) (hk : HRel N k) (hf : ¬ k.U k.nx) (b : Blk) : Ext k (newK k w' rm l b) where
  same := by
    intro B hB hlt
    refine h.same B hlt fun n hn he => hB ?_
    obtain ⟨c, hc⟩ := h.live n hn
    exact ⟨n, c, hc, he⟩
  own := by
    rintro B ⟨n, c, hc, he⟩ hlt
    simp only [newK, hget_hput] at hc he
    by_cases hn : n = k.nx
    · subst hn
      rw [upd_same] at he
      rcases h.place B he with h1 | ⟨m, hm, h2⟩
      · omega
      · obtain ⟨c', hc'⟩ := h.live m hm
        exact ⟨m, c', hc', h2⟩
    · rw [if_neg hn] at hc
      rw [upd_other _ _ hn] at he
      exact ⟨n, c, (hget_without hc).1, he⟩
  size := h.size
  u := fun n hn => Or.inl hn
  arr := by
    intro n e xs hn hc
    simp only [newK, hget_hput] at hc ⊢
    have hne : n ≠ k.nx := fun e => hf (e ▸ hn)
    rw [if_neg hne] at hc
    exact ⟨xs, (hget_without hc).1, rfl, upd_other _ _ hne⟩
  var := by
    intro n cs hn hc
    simp only [newK, hget_hput] at hc ⊢
    have hne : n ≠ k.nx := fun e => hf (e ▸ hn)
    rw [if_neg hne] at hc
    exact ⟨cs, (hget_without hc).1, upd_other _ _ hne⟩
  map := by
    intro n kt vt xs hn hc
    simp only [newK, hget_hput] at hc ⊢
    have hne : n ≠ k.nx := fun e => hf (e ▸ hn)
    rw [if_neg hne] at hc
    exact ⟨xs, (hget_without hc).1, upd_other _ _ hne⟩
  x := rfl

theorem BRel.move {k k' : Kx} (hx : Ext k k') {n : Nat} {b : Blk} (hμ : k'.μ n = k.μ n) (hs : ∀ B, (k.μ n).block = some B → k'.w.heap[B]? = k.w.heap[B]?) (h : BRel k n b) : BRel k' n b := by
  cases b with
  | arr e xs =>
    unfold BRel at h ⊢
    rw [hμ]
    cases hm : k.μ n with
    | none => rw [hm] at h; exact h
    | at_ B o cap =>
      rw [hm] at h
      obtain ⟨row, E, fz, h1, h2, h3, h4, h5, h6⟩ := h
      exact ⟨row, E, fz, (hs B (by rw [hm]; rfl)).trans h1, h2, h3, h4, h5, fun i hi => hx.v (h6 i hi)⟩
  | var cs =>
    obtain ⟨B, row, E, fz, h0, h1, h2, h3⟩ := h
    exact ⟨B, row, E, fz, hμ.trans h0, (hs B (by rw [h0]; rfl)).trans h1, h2, hx.cs h3.1, h3.2⟩
  | map kt vt xs =>
    obtain ⟨B, es, clk, h0, h1, h2⟩ := h
    exact ⟨B, es, clk, hμ.trans h0, (hs B (by rw [h0]; rfl)).trans h1, h2.mono fun _ _ _ h => hx.v h⟩

theorem NewName.hrel {N : Nat} {k : Kx} {w' : World} {rm : Option Nat} {l : Loc} (h : NewName N k w' rm l) (hk : HRel N k) (hf : ¬ k.U k.nx) (b : Blk) (hb : BRel (newK k w' rm l b) k.nx b) : HRel N (newK k w' rm l b) := by
  have hx := h.ext hk hf b
  have old : ∀ n c, n ≠ k.nx → hget (newK k w' rm l b).hp n = some c → hget k.hp n = some c ∧ rm ≠ some n := by
    intro n c hn hc
    simp only [newK, hget_hput, if_neg hn] at hc
    exact hget_without hc
  have oldμ : ∀ n, n ≠ k.nx → (newK k w' rm l b).μ n = k.μ n := fun n hn => upd_other _ _ hn
  have newμ : (newK k w' rm l b).μ k.nx = l := upd_same _ _ _
  -- an old name that stays has another block than the new one
  have apart : ∀ n c B, n ≠ k.nx → hget (newK k w' rm l b).hp n = some c → (k.μ n).block = some B → l.block ≠ some B := by
    intro n c B hn hc hB hl
    obtain ⟨h1, h2⟩ := old n c hn hc
    rcases h.place B hl with h3 | ⟨m, hm, h4⟩
    · have := (hk.low B ⟨n, c, h1, hB⟩).2; omega
    · obtain ⟨c', hc'⟩ := h.live m hm
      have := hk.inj n m c c' B h1 hc' hB h4
      subst this
      exact h2 hm
  refine ⟨fun n c hc => ?_, fun n m c d B hc hd h1 h2 => ?_, fun B hB => ?_, hx.xlow hk, hx.xown hk, fun n c hc => ?_⟩
  · by_cases hn : n = k.nx
    · subst hn
      simp only [newK, hget_hput, if_true, Option.some.injEq] at hc
      subst hc
      exact hb
    · obtain ⟨h1, h2⟩ := old n c hn hc
      refine BRel.move hx (oldμ n hn) (fun B hB => ?_) (hk.blk n c h1)
      refine h.same B (hk.low B ⟨n, c, h1, hB⟩).2 fun m hm he => ?_
      obtain ⟨c', hc'⟩ := h.live m hm
      have := hk.inj n m c c' B h1 hc' hB he
      subst this
      exact h2 hm
  · by_cases hn : n = k.nx
    · by_cases hm : m = k.nx
      · rw [hn, hm]
      · subst hn
        rw [newμ] at h1
        rw [oldμ m hm] at h2
        exact absurd h1 (apart m d B hm hd h2)
    · rw [oldμ n hn] at h1
      by_cases hm : m = k.nx
      · subst hm
        rw [newμ] at h2
        exact absurd h2 (apart n c B hn hc h1)
      · rw [oldμ m hm] at h2
        exact hk.inj n m c d B (old n c hn hc).1 (old m d hm hd).1 h1 h2
  · obtain ⟨n, c, hc, he⟩ := hB
    by_cases hn : n = k.nx
    · subst hn
      rw [newμ] at he
      rcases h.place B he with h1 | ⟨m, hm, h2⟩
      · exact ⟨by have := h.low; omega, h1.2⟩
      · obtain ⟨c', hc'⟩ := h.live m hm
        have := hk.low B ⟨m, c', hc', h2⟩
        exact ⟨this.1, Nat.lt_of_lt_of_le this.2 h.size⟩
    · rw [oldμ n hn] at he
      have := hk.low B ⟨n, c, (old n c hn hc).1, he⟩
      exact ⟨this.1, Nat.lt_of_lt_of_le this.2 h.size⟩
  · by_cases hn : n = k.nx
    · exact Or.inr hn
    · exact Or.inl (hk.names n c (old n c hn hc).1)

/-! ### a block written -/
/-- the same make -/
def Alike : Blk → Blk → Prop
  | .arr e xs, .arr e' xs' => e = e' ∧ xs.length = xs'.length
  | .var _, .var _ => True
  | .map k v _, .map k' v' _ => k = k' ∧ v = v'
  | _, _ => False

structure Write (k : Kx) (w' : World) (n : Nat) (b b' : Blk) : Prop where
  live : hget k.hp n = some b
  alike : Alike b b'
  size : w'.heap.size = k.w.heap.size
  same : ∀ B, (k.μ n).block ≠ some B → w'.heap[B]? = k.w.heap[B]?

def putK (k : Kx) (w' : World) (n : Nat) (b' : Blk) : Kx := ⟨w', hput k.hp n b', k.μ, k.nx, k.X, k.U⟩

theorem Write.Own {k : Kx} {w' : World} {n : Nat} {b b' : Blk} (h : Write k w' n b b') (B : Nat) : (putK k w' n b').Own B ↔ k.Own B := by
  constructor
  · rintro ⟨m, c, hc, he⟩
    simp only [putK, hget_hput] at hc he
    by_cases hm : m = n
    · subst hm; exact ⟨m, b, h.live, he⟩
    · rw [if_neg hm] at hc; exact ⟨m, c, hc, he⟩
  · rintro ⟨m, c, hc, he⟩
    by_cases hm : m = n
    · subst hm; exact ⟨m, b', by simp [putK, hget_hput], he⟩
    · exact ⟨m, c, by simp [putK, hget_hput, hm, hc], he⟩

theorem Write.O {k : Kx} {w' : World} {n : Nat} {b b' : Blk} (h : Write k w' n b b') (B : Nat) : (putK k w' n b').O B ↔ k.O B := by
  unfold Kx.O
  rw [h.Own]
  exact Iff.rfl

theorem Write.ext {k : Kx} {w' : World} {n : Nat} {b b' : Blk} (h : Write k w' n b b') : Ext k (putK k w' n b') where
  same := by
    intro B hB hlt
    exact h.same B fun he => hB ⟨n, b, h.live, he⟩
  own := fun B hB _ => (h.Own B).1 hB
  size := Nat.le_of_eq h.size.symm
  u := fun _ h => h
  arr := by
    intro m e xs' hm hc
    simp only [putK, hget_hput] at hc ⊢
    by_cases he : m = n
    · subst he
      rw [if_pos rfl, Option.some.injEq] at hc
      subst hc
      have ha := h.alike
      cases b with
      | arr e0 xs0 => obtain ⟨h1, h2⟩ := ha; subst h1; exact ⟨xs0, h.live, h2, trivial⟩
      | var cs => exact absurd ha (by simp [Alike])
      | map kt vt xs => exact absurd ha (by simp [Alike])
    · rw [if_neg he] at hc; exact ⟨xs', hc, rfl, trivial⟩
  var := by
    intro m cs hm hc
    simp only [putK, hget_hput] at hc ⊢
    by_cases he : m = n
    · subst he
      rw [if_pos rfl, Option.some.injEq] at hc
      subst hc
      have ha := h.alike
      cases b with
      | arr e0 xs0 => exact absurd ha (by simp [Alike])
      | var cs0 => exact ⟨cs0, h.live, trivial⟩
      | map kt vt xs => exact absurd ha (by simp [Alike])
    · rw [if_neg he] at hc; exact ⟨cs, hc, trivial⟩
  map := by
    intro m kt vt xs hm hc
    simp only [putK, hget_hput] at hc ⊢
    by_cases he : m = n
    · subst he
      rw [if_pos rfl, Option.some.injEq] at hc
      subst hc
      have ha := h.alike
      cases b with
      | arr e0 xs0 => exact absurd ha (by simp [Alike])
      | var cs0 => exact absurd ha (by simp [Alike])
      | map k0 v0 xs0 => obtain ⟨h1, h2⟩ := ha; subst h1; subst h2; exact ⟨xs0, h.live, trivial⟩
    · rw [if_neg he] at hc; exact ⟨xs, hc, trivial⟩
  x := rfl

theorem Write.hrel {N : Nat} {k : Kx} {w' : World} {n : Nat} {b b' : Blk} (h : Write k w' n b b') (hk : HRel N k) (hb : BRel (putK k w' n b') n b') : HRel N (putK k w' n b') := by
  have hx := h.ext
  have old : ∀ m c, hget (putK k w' n b').hp m = some c → ∃ c0, hget k.hp m = some c0 ∧ (m ≠ n → c0 = c) := by
    intro m c hc
    simp only [putK, hget_hput] at hc
    by_cases hm : m = n
    · subst hm; exact ⟨b, h.live, fun h => absurd rfl h⟩
    · rw [if_neg hm] at hc; exact ⟨c, hc, fun _ => rfl⟩
  refine ⟨fun m c hc => ?_, fun m q c d B hc hd h1 h2 => ?_, fun B hB => ?_, hx.xlow hk, hx.xown hk, fun m c hc => ?_⟩
  · by_cases hm : m = n
    · subst hm
      simp only [putK, hget_hput, if_true, Option.some.injEq] at hc
      subst hc; exact hb
    · obtain ⟨c0, h0, he⟩ := old m c hc
      have := he hm
      subst this
      refine BRel.move hx rfl (fun B hB => h.same B fun he' => hm ?_) (hk.blk m c0 h0)
      exact hk.inj m n c0 b B h0 h.live hB he'
  · obtain ⟨c0, h0, _⟩ := old m c hc
    obtain ⟨d0, h0', _⟩ := old q d hd
    exact hk.inj m q c0 d0 B h0 h0' h1 h2
  · have := hk.low B ((h.Own B).1 hB)
    exact ⟨this.1, by show B < w'.heap.size; rw [h.size]; exact this.2⟩
  · obtain ⟨c0, h0, _⟩ := old m c hc
    exact hk.names m c0 h0

/-! ### a block frozen -/
theorem hget_map (f : Blk → Blk) (hp : Hp) (m : Nat) : hget (hp.map fun e => (e.1, f e.2)) m = (hget hp m).map f := by
  induction hp with
  | nil => rfl
  | cons a r ih =>
    obtain ⟨q, b⟩ := a
    simp only [List.map_cons, hget]
    by_cases h : q = m
    · simp [h]
    · simp [h, ih]

def frzK (k : Kx) (n : Nat) (b : Blk) : Kx := ⟨k.w, (hrem k.hp n).map fun e => (e.1, frzB n b e.2), k.μ, k.nx, k.X, k.U⟩

theorem frzK_get {k : Kx} {n : Nat} {b : Blk} {m : Nat} {c : Blk} (h : hget (frzK k n b).hp m = some c) : m ≠ n ∧ ∃ c0, hget k.hp m = some c0 ∧ c = frzB n b c0 := by
  simp only [frzK, hget_map, hget_hrem] at h
  by_cases hm : m = n
  · rw [if_pos hm] at h; cases h
  · rw [if_neg hm] at h
    cases hc : hget k.hp m with
    | none => rw [hc] at h; cases h
    | some c0 => rw [hc] at h; exact ⟨hm, c0, rfl, by simpa using h.symm⟩

theorem frzK_Own {k : Kx} {n : Nat} {b : Blk} {B : Nat} (h : (frzK k n b).Own B) : k.Own B := by
  obtain ⟨m, c, hc, he⟩ := h
  obtain ⟨_, c0, h0, _⟩ := frzK_get hc
  exact ⟨m, c0, h0, he⟩

theorem frzK_O {k : Kx} {n : Nat} {b : Blk} {B : Nat} (h : (frzK k n b).O B) : k.O B := h.imp id frzK_Own

theorem frzK_not {N : Nat} {k : Kx} (hk : HRel N k) {n : Nat} {b : Blk} (hb : hget k.hp n = some b) (B : Nat) (h : (k.μ n).block = some B) : ¬ (frzK k n b).O B := by
  rintro (hX | ⟨m, c, hc, he⟩)
  · exact hk.xown B hX ⟨n, b, hb, h⟩
  obtain ⟨hm, c0, h0, _⟩ := frzK_get hc
  exact hm (hk.inj m n c0 b B h0 hb he h)

theorem frzK_ext {k : Kx} {n : Nat} {b : Blk} : Ext k (frzK k n b) where
  same := fun _ _ _ => rfl
  own := fun B h _ => frzK_Own h
  size := Nat.le_refl _
  u := fun _ h => h
  arr := by
    intro m e xs hm hc
    obtain ⟨_, c0, h0, he⟩ := frzK_get hc
    cases c0 with
    | arr e0 xs0 => simp only [frzB, Blk.arr.injEq] at he; obtain ⟨h1, h2⟩ := he; subst h1; have h2 := eq_of_heq h2; subst h2; exact ⟨xs, h0, rfl, rfl⟩
    | var cs => simp [frzB] at he
    | map kt vt xs => simp [frzB] at he
  var := by
    intro m cs hm hc
    obtain ⟨_, c0, h0, he⟩ := frzK_get hc
    cases c0 with
    | arr e0 xs0 => simp [frzB] at he
    | var cs0 => exact ⟨cs0, h0, rfl⟩
    | map kt vt xs => simp [frzB] at he
  map := by
    intro m kt vt xs hm hc
    obtain ⟨_, c0, h0, he⟩ := frzK_get hc
    cases c0 with
    | arr e0 xs0 => simp [frzB] at he
    | var cs0 => simp [frzB] at he
    | map k0 v0 xs0 => simp only [frzB, Blk.map.injEq] at he; obtain ⟨h1, h2, h3⟩ := he; subst h1; subst h2; have h3 := eq_of_heq h3; subst h3; exact ⟨xs, h0, rfl⟩
  x := rfl

theorem frzCell_rel {N : Nat} {k : Kx} (hk : HRel N k) {n : Nat} {b : Blk} (hb : hget k.hp n = some b) {c : Cell} {v : Value} (h : CRel k c v) : CRel (frzK k n b) (frzCell n b c) v := by
  have hx := frzK_ext (k := k) (n := n) (b := b)
  cases c with
  | own m e =>
    simp only [frzCell]
    by_cases hm : m = n
    · subst hm
      rw [if_pos rfl]
      cases b with
      | var cs => exact h.1.2
      | map kt vt xs => exact h.1.2
      | arr e' xs =>
        by_cases he : e' = e
        · subst he
          have := own_data (O2 := (frzK k m (.arr e' xs)).O) (hk.blk m _ hb) (h.2 xs hb) (by simp) (fun B => frzK_O) (frzK_not hk hb)
          simpa [CRel, frzK] using this
        · simp only [he, if_false]; exact h.1.2
    · rw [if_neg hm]; exact hx.c h
  | sub m e lo hi =>
    simp only [frzCell]
    by_cases hm : m = n
    · subst hm
      rw [if_pos rfl]
      cases b with
      | var cs => exact h.1.2
      | map kt vt xs => exact h.1.2
      | arr e' xs =>
        by_cases he : e' = e
        · subst he
          obtain ⟨h0, h1, h2, h3⟩ := h.2 xs hb
          have := own_data (O2 := (frzK k m (.arr e' xs)).O) (hk.blk m _ hb) h3 (by omega) (fun B => frzK_O) (frzK_not hk hb)
          simpa [CRel, frzK, cut] using this
        · simp only [he, if_false]; exact h.1.2
    · rw [if_neg hm]; exact hx.c h
  | clp m e lo hi =>
    simp only [frzCell]
    by_cases hm : m = n
    · rw [if_pos hm]; exact h.1.2
    · rw [if_neg hm]; exact hx.c h
  | mp m kt vt =>
    simp only [frzCell]
    by_cases hm : m = n
    · subst hm
      rw [if_pos rfl]
      cases b with
      | var cs => exact h.1.2
      | arr e' xs => exact h.1.2
      | map k' v' xs =>
        by_cases he : k' = kt ∧ v' = vt
        · obtain ⟨h1, h2⟩ := he
          subst h1; subst h2
          have := map_data (O2 := (frzK k m (.map k' v' xs)).O) (hk.blk m _ hb) (h.2 xs hb) (fun B => frzK_O) (frzK_not hk hb)
          simpa [CRel, frzK] using this
        · simp only [he, if_false]; exact h.1.2
    · rw [if_neg hm]; exact hx.c h
  | _ => exact hx.c h

theorem frzCells_rel {N : Nat} {k : Kx} (hk : HRel N k) {n : Nat} {b : Blk} (hb : hget k.hp n = some b) : ∀ {cs : List Cell} {vs : List Value}, CRels k cs vs → CRels (frzK k n b) (cs.map (frzCell n b)) vs := by
  intro cs
  induction cs with
  | nil => intro vs h; exact h
  | cons c cs ih =>
    intro vs h
    obtain ⟨v, r, e, h1, h2⟩ := h
    exact ⟨v, r, e, frzCell_rel hk hb h1, ih h2⟩

theorem frzParts_rel {N : Nat} {k : Kx} (hk : HRel N k) {n : Nat} {b : Blk} (hb : hget k.hp n = some b) : ∀ {ps : List (Bool × List Cell)} {vs : List Value}, PRels k ps vs → PRels (frzK k n b) (ps.map fun p => (p.1, p.2.map (frzCell n b))) vs := by
  intro ps
  induction ps with
  | nil => intro vs h; exact h
  | cons p ps ih =>
    intro vs h
    obtain ⟨v, r, e, h1, h2⟩ := h
    refine ⟨v, r, e, ?_, ih h2⟩
    unfold PRel at *
    cases hp : p.1 with
    | true => rw [hp] at h1; obtain ⟨us, e1, h3⟩ := h1; exact ⟨us, e1, frzCells_rel hk hb h3⟩
    | false =>
      rw [hp] at h1
      obtain ⟨c, e1, h3⟩ := h1
      refine ⟨frzCell n b c, by simp [e1], ?_⟩
      rcases h3 with h3 | h3
      · subst h3; exact Or.inl rfl
      · exact Or.inr ⟨frzCell_rel hk hb h3.1, h3.2⟩

theorem frzV_rel {N : Nat} {k : Kx} (hk : HRel N k) {n : Nat} {b : Blk} (hb : hget k.hp n = some b) {a : AVal} {v : Value} (h : ARel k a v) : ARel (frzK k n b) (frzV n b a) v := by
  cases a with
  | one c =>
    rcases h with h | h
    · subst h; exact Or.inl rfl
    · exact Or.inr (frzCell_rel hk hb h)
  | pure t x => exact (frzK_ext (k := k) (n := n) (b := b)).a h
  | agg cs => obtain ⟨vs, e, hv⟩ := h; exact ⟨vs, e, frzCells_rel hk hb hv⟩
  | tup ps => obtain ⟨vs, e, hv⟩ := h; exact ⟨vs, e, frzParts_rel hk hb hv⟩

theorem TagOK.of {cs : List Cell} {E : TypeId} (h : noSelf cs = true) : TagOK cs E := by
  intro n t r e
  subst e
  cases h
theorem TagOK.splice {cs new : List Cell} {E : TypeId} {off : Nat} (h : TagOK cs E) (hn : noSelf new = true) : TagOK (splice cs off new) E := by
  intro n t r e
  unfold Go.Ab.splice at e
  cases off with
  | zero =>
    cases new with
    | nil =>
      simp only [List.take_zero, List.append_nil, List.nil_append, List.length_nil, List.drop_zero, Nat.add_zero] at e
      exact h n t r e
    | cons c new =>
      simp only [List.take_zero, List.nil_append, List.cons_append, List.cons.injEq] at e
      rw [e.1] at hn
      cases hn
  | succ off =>
    cases cs with
    | nil =>
      cases new with
      | nil => simp at e
      | cons c new =>
        simp only [List.take_nil, List.nil_append, List.cons_append, List.cons.injEq] at e
        rw [e.1] at hn
        cases hn
    | cons c cs =>
      simp only [List.take_succ_cons, List.cons_append, List.cons.injEq] at e
      exact h n t cs (by rw [e.1])
theorem noSelf_app : ∀ {xs ys : List Cell}, noSelf xs = true → noSelf ys = true → noSelf (xs ++ ys) = true
  | [], _, _, h => h
  | c :: r, ys, h1, h2 => by
    cases c <;> simp only [noSelf, List.cons_append] at h1 ⊢ <;> first | (cases h1; done) | exact noSelf_app h1 h2
theorem noSelf_zeros : ∀ t : Ty, noSelf (zeros t) = true
  | .unit => rfl
  | .int _ => rfl
  | .bool => rfl
  | .str => rfl
  | .slice _ => rfl
  | .map _ _ => rfl
  | .pair a b => noSelf_app (noSelf_zeros a) (noSelf_zeros b)

theorem noSelf_flat : ∀ (t : Ty) (x : t.den), noSelf (flat t x) = true
  | .unit, _ => rfl
  | .int _, _ => rfl
  | .bool, _ => rfl
  | .str, _ => rfl
  | .slice _, _ => rfl
  | .map _ _, _ => rfl
  | .pair a b, x => noSelf_app (noSelf_flat a x.1) (noSelf_flat b x.2)

theorem TagOK.frz {cs : List Cell} {E : TypeId} {n : Nat} {b : Blk} (h : TagOK cs E) : TagOK (cs.map (frzCell n b)) E := by
  intro m t r e
  cases cs with
  | nil => cases e
  | cons c cs =>
    simp only [List.map_cons, List.cons.injEq] at e
    have hc : c = .self m t := by
      have h1 := e.1
      cases c <;> simp only [frzCell] at h1 <;> (repeat' split at h1) <;> first | (cases h1; done) | exact h1
    exact h m t cs (by rw [hc])

theorem frz_hrel {N : Nat} {k : Kx} (hk : HRel N k) {n : Nat} {b : Blk} (hb : hget k.hp n = some b) : HRel N (frzK k n b) := by
  have hx := frzK_ext (k := k) (n := n) (b := b)
  refine ⟨fun m c hc => ?_, fun m q c d B hc hd h1 h2 => ?_, fun B hB => ?_, hx.xlow hk, hx.xown hk, fun m c hc => ?_⟩
  · obtain ⟨hm, c0, h0, he⟩ := frzK_get hc
    subst he
    have := hk.blk m c0 h0
    cases c0 with
    | arr e xs => exact BRel.move hx rfl (fun _ _ => rfl) this
    | var cs =>
      obtain ⟨B, row, E, fz, h1, h2, h3, h4⟩ := this
      exact ⟨B, row, E, fz, h1, h2, h3, frzCells_rel hk hb h4.1, h4.2.frz⟩
    | map kt vt xs => exact BRel.move hx rfl (fun _ _ => rfl) this
  · obtain ⟨_, c0, h0, _⟩ := frzK_get hc
    obtain ⟨_, d0, h0', _⟩ := frzK_get hd
    exact hk.inj m q c0 d0 B h0 h0' h1 h2
  · exact hk.low B (frzK_Own hB)
  · obtain ⟨_, c0, h0, _⟩ := frzK_get hc
    exact hk.names m c0 h0

/-- Several blocks frozen, one behind the other. -/
def frzKs (k : Kx) : List Nat → Kx
  | [] => k
  | n :: r => match hget k.hp n with
    | some b => frzKs (frzK k n b) r
    | none => frzKs k r

theorem frzAll_rel {N : Nat} : ∀ (ns : List Nat) (k : Kx) (fr : Fr) (tmps : Array Value), HRel N k → FRel k fr tmps →
    HRel N (frzKs k ns) ∧ FRel (frzKs k ns) (frzAll fr k.hp ns).1 tmps ∧ (frzKs k ns).hp = (frzAll fr k.hp ns).2 ∧ (frzKs k ns).w = k.w ∧ (frzKs k ns).nx = k.nx ∧ (frzKs k ns).μ = k.μ := by
  intro ns
  induction ns with
  | nil => intro k fr tmps hk hf; exact ⟨hk, hf, rfl, rfl, rfl, rfl⟩
  | cons n r ih =>
    intro k fr tmps hk hf
    simp only [frzKs, frzAll, frz1]
    cases hb : hget k.hp n with
    | none => exact ih k fr tmps hk hf
    | some b =>
      have hf' : FRel (frzK k n b) (fr.map (frzV n b)) tmps := by
        refine ⟨by simpa using hf.1, fun i => ?_⟩
        have := frzV_rel hk hb (hf.2 i)
        have e : rdT (fr.map (frzV n b)) i = frzV n b (rdT fr i) := by
          simp only [rdT, List.getD_eq_getElem?_getD, List.getElem?_map]
          cases fr[i]? <;> rfl
        rw [e]; exact this
      exact ih (frzK k n b) _ tmps (frz_hrel hk hb) hf'

theorem frzKs_U : ∀ (ns : List Nat) (k : Kx), (frzKs k ns).U = k.U := by
  intro ns
  induction ns with
  | nil => intro k; rfl
  | cons n r ih =>
    intro k
    simp only [frzKs]
    cases hb : hget k.hp n with
    | none => exact ih k
    | some b => exact (ih (frzK k n b)).trans rfl

theorem frzKs_O {N : Nat} : ∀ (ns : List Nat) (k : Kx) (B : Nat), HRel N k → (frzKs k ns).O B → k.O B ∧ ∀ n ∈ ns, (k.μ n).block ≠ some B ∨ hget k.hp n = none := by
  intro ns
  induction ns with
  | nil => intro k B hk h; exact ⟨h, by simp⟩
  | cons n r ih =>
    intro k B hk h
    simp only [frzKs] at h
    cases hb : hget k.hp n with
    | none =>
      rw [hb] at h
      obtain ⟨h1, h2⟩ := ih k B hk h
      refine ⟨h1, fun m hm => ?_⟩
      rcases List.mem_cons.1 hm with hm | hm
      · subst hm; exact Or.inr hb
      · exact h2 m hm
    | some b =>
      rw [hb] at h
      obtain ⟨h1, h2⟩ := ih (frzK k n b) B (frz_hrel hk hb) h
      refine ⟨frzK_O h1, fun m hm => ?_⟩
      rcases List.mem_cons.1 hm with hm | hm
      · subst hm; exact Or.inl fun he => frzK_not hk hb B he h1
      · rcases h2 m hm with h3 | h3
        · exact Or.inl h3
        · by_cases hmn : m = n
          · subst hmn; exact Or.inl fun he => frzK_not hk hb B he h1
          · refine Or.inr ?_
            simp only [frzK, hget_map, hget_hrem, if_neg hmn] at h3
            cases hq : hget k.hp m with
            | none => rfl
            | some c => rw [hq] at h3; simp at h3

/-- A block of elements that is not frozen stays as it is. -/
theorem frzKs_keep : ∀ (ns : List Nat) (k : Kx) (n : Nat) (e : Ty) (xs : List e.den), hget k.hp n = some (.arr e xs) → n ∉ ns → hget (frzKs k ns).hp n = some (.arr e xs) := by
  intro ns
  induction ns with
  | nil => intro k n e xs h _; exact h
  | cons m r ih =>
    intro k n e xs h hn
    simp only [frzKs]
    cases hb : hget k.hp m with
    | none => exact ih k n e xs h (fun h => hn (by simp [h]))
    | some b =>
      refine ih (frzK k m b) n e xs ?_ (fun h => hn (by simp [h]))
      simp only [frzK, hget_map, hget_hrem]
      rw [if_neg (fun e => hn (by simp [e])), h]
      rfl

/-- A variable that is not frozen stays one. -/
theorem frzKs_var : ∀ (ns : List Nat) (k : Kx) (n : Nat) (cs : List Cell), hget k.hp n = some (.var cs) → n ∉ ns → ∃ cs', hget (frzKs k ns).hp n = some (.var cs') := by
  intro ns
  induction ns with
  | nil => intro k n cs h _; exact ⟨cs, h⟩
  | cons m r ih =>
    intro k n cs h hn
    simp only [frzKs]
    cases hb : hget k.hp m with
    | none => exact ih k n cs h (fun h => hn (by simp [h]))
    | some b =>
      refine ih (frzK k m b) n (cs.map (frzCell m b)) ?_ (fun h => hn (by simp [h]))
      simp only [frzK, hget_map, hget_hrem]
      rw [if_neg (fun e => hn (by simp [e])), h]
      rfl

theorem frzKs_ext : ∀ (ns : List Nat) (k : Kx), Ext k (frzKs k ns) := by
  intro ns
  induction ns with
  | nil => intro k; exact Ext.refl k
  | cons n r ih =>
    intro k
    simp only [frzKs]
    cases hb : hget k.hp n with
    | none => exact ih k
    | some b =>
      have h1 := frzK_ext (k := k) (n := n) (b := b)
      have h2 := ih (frzK k n b)
      refine ⟨fun B hB hlt => (h2.same B (fun h => hB (frzK_Own h)) hlt).trans rfl, fun B hB hlt => frzK_Own (h2.own B hB hlt), h2.size, h2.u, fun m e xs hm hc => ?_, fun m cs hm hc => ?_, fun m kt vt xs hm hc => ?_, h2.x⟩
      · obtain ⟨ys, h3, h4, h5⟩ := h2.arr m e xs hm hc
        obtain ⟨zs, h6, h7, h8⟩ := h1.arr m e ys hm h3
        exact ⟨zs, h6, h7.trans h4, h5.trans h8⟩
      · obtain ⟨ys, h3, h5⟩ := h2.var m cs hm hc
        obtain ⟨zs, h6, h8⟩ := h1.var m ys hm h3
        exact ⟨zs, h6, h5.trans h8⟩
      · obtain ⟨ys, h3, h5⟩ := h2.map m kt vt xs hm hc
        obtain ⟨zs, h6, h8⟩ := h1.map m kt vt ys hm h3
        exact ⟨zs, h6, h5.trans h8⟩

end Go.Ab
