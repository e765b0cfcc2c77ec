/-
  LEMMAS: a new name; a block written; a block frozen.
-/
import Derived.Test.YteekijpcdcpjkaaAbLem2
set_option linter.unusedVariables false
namespace Go.Ab
open Go.RowKit (Below)

def upd (μ : Nat → Loc) (n : Nat) (l : Loc) : Nat → Loc := fun m => if m = n then l else μ m

theorem upd_same (μ : Nat → Loc) (n : Nat) (l : Loc) : upd μ n l n = l := by simp [upd]
theorem upd_other (μ : Nat → Loc) {n m : Nat} (l : Loc) (h : m ≠ n) : upd μ n l m = μ m := by simp [upd, h]

/-- the blocks without one that is given up -/
def without (hp : Hp) : Option Nat → Hp
  | none => hp
  | some n => hrem hp n

theorem hget_without {hp : Hp} {rm : Option Nat} {m : Nat} {b : Blk} (h : hget (without hp rm) m = some b) : hget hp m = some b ∧ rm ≠ some m := by
  cases rm with
  | none => exact ⟨h, by simp⟩
  | some n =>
    simp only [without, hget_hrem] at h
    split at h
    · cases h
    · rename_i hne; exact ⟨h, by simpa using fun e => hne e.symm⟩

/-- What a new name makes of the state. -/
structure NewName (N : Nat) (k : Kx) (w' : World) (rm : Option Nat) (l : Loc) : Prop where
  low : N ≤ k.w.heap.size
  size : k.w.heap.size ≤ w'.heap.size
  same : ∀ B, B < k.w.heap.size → (∀ n, rm = some n → (k.μ n).block ≠ some B) → w'.heap[B]? = k.w.heap[B]?
  live : ∀ n, rm = some n → ∃ b, hget k.hp n = some b
  place : ∀ B, l.block = some B → (k.w.heap.size ≤ B ∧ B < w'.heap.size) ∨ (∃ n, rm = some n ∧ (k.μ n).block = some B)

def newK (k : Kx) (w' : World) (rm : Option Nat) (l : Loc) (b : Blk) : Kx := ⟨w', hput (without k.hp rm) k.nx b, upd k.μ k.nx l, k.nx + 1, k.X, fun n => k.U n ∨ n = k.nx⟩

theorem NewName.ext {N : Nat} {k : Kx} {w' : World} {rm : Option Nat} {l : Loc} (h : NewName N k w' rm l) (hk : HRel N k) (hf : ¬ k.U k.nx) (b : Blk) : Ext k (newK k w' rm l b) where
  same := by
    intro B hB hlt
    refine h.same B hlt fun n hn he => hB ?_
    obtain ⟨c, hc⟩ := h.live n hn
    exact ⟨n, c, hc, he⟩
  own := by
    rintro B ⟨n, c, hc, he⟩ hlt
    simp only [newK, hget_hput] at hc he
    by_cases hn : n = k.nx
    · subst hn
      rw [upd_same] at he
      rcases h.place B he with h1 | ⟨m, hm, h2⟩
      · omega
      · obtain ⟨c', hc'⟩ := h.live m hm
        exact ⟨m, c', hc', h2⟩
    · rw [if_neg hn] at hc
      rw [upd_other _ _ hn] at he
      exact ⟨n, c, (hget_without hc).1, he⟩
  size := h.size
  u := fun n hn => Or.inl hn
  arr := by
    intro n e xs hn hc
    simp only [newK, hget_hput] at hc ⊢
    have hne : n ≠ k.nx := fun e => hf (e ▸ hn)
    rw [if_neg hne] at hc
    exact ⟨xs, (hget_without hc).1, rfl, upd_other _ _ hne⟩
  var := by
    intro n cs hn hc
    simp only [newK, hget_hput] at hc ⊢
    have hne : n ≠ k.nx := fun e => hf (e ▸ hn)
    rw [if_neg hne] at hc
    exact ⟨cs, (hget_without hc).1, upd_other _ _ hne⟩
  x := rfl

theorem BRel.move {k k' : Kx} (hx : Ext k k') {n : Nat} {b : Blk} (hμ : k'.μ n = k.μ n) (hs : ∀ B, (k.μ n).block = some B → k'.w.heap[B]? = k.w.heap[B]?) (h : BRel k n b) : BRel k' n b := by
  cases b with
  | arr e xs =>
    unfold BRel at h ⊢
    rw [hμ]
    cases hm : k.μ n with
    | none => rw [hm] at h; exact h
    | at_ B o cap =>
      rw [hm] at h
      obtain ⟨row, E, fz, h1, h2, h3, h4, h5, h6⟩ := h
      exact ⟨row, E, fz, (hs B (by rw [hm]; rfl)).trans h1, h2, h3, h4, h5, fun i hi => hx.v (h6 i hi)⟩
  | var cs =>
    obtain ⟨B, row, E, fz, h0, h1, h2, h3⟩ := h
    exact ⟨B, row, E, fz, hμ.trans h0, (hs B (by rw [h0]; rfl)).trans h1, h2, hx.cs h3⟩

theorem NewName.hrel {N : Nat} {k : Kx} {w' : World} {rm : Option Nat} {l : Loc} (h : NewName N k w' rm l) (hk : HRel N k) (hf : ¬ k.U k.nx) (b : Blk) (hb : BRel (newK k w' rm l b) k.nx b) : HRel N (newK k w' rm l b) := by
  have hx := h.ext hk hf b
  have old : ∀ n c, n ≠ k.nx → hget (newK k w' rm l b).hp n = some c → hget k.hp n = some c ∧ rm ≠ some n := by
    intro n c hn hc
    simp only [newK, hget_hput, if_neg hn] at hc
    exact hget_without hc
  have oldμ : ∀ n, n ≠ k.nx → (newK k w' rm l b).μ n = k.μ n := fun n hn => upd_other _ _ hn
  have newμ : (newK k w' rm l b).μ k.nx = l := upd_same _ _ _
  -- an old name that stays has another block than the new one
  have apart : ∀ n c B, n ≠ k.nx → hget (newK k w' rm l b).hp n = some c → (k.μ n).block = some B → l.block ≠ some B := by
    intro n c B hn hc hB hl
    obtain ⟨h1, h2⟩ := old n c hn hc
    rcases h.place B hl with h3 | ⟨m, hm, h4⟩
    · have := (hk.low B ⟨n, c, h1, hB⟩).2; omega
    · obtain ⟨c', hc'⟩ := h.live m hm
      have := hk.inj n m c c' B h1 hc' hB h4
      subst this
      exact h2 hm
  refine ⟨fun n c hc => ?_, fun n m c d B hc hd h1 h2 => ?_, fun B hB => ?_, hx.xlow hk, hx.xown hk, fun n c hc => ?_⟩
  · by_cases hn : n = k.nx
    · subst hn
      simp only [newK, hget_hput, if_true, Option.some.injEq] at hc
      subst hc
      exact hb
    · obtain ⟨h1, h2⟩ := old n c hn hc
      refine BRel.move hx (oldμ n hn) (fun B hB => ?_) (hk.blk n c h1)
      refine h.same B (hk.low B ⟨n, c, h1, hB⟩).2 fun m hm he => ?_
      obtain ⟨c', hc'⟩ := h.live m hm
      have := hk.inj n m c c' B h1 hc' hB he
      subst this
      exact h2 hm
  · by_cases hn : n = k.nx
    · by_cases hm : m = k.nx
      · rw [hn, hm]
      · subst hn
        rw [newμ] at h1
        rw [oldμ m hm] at h2
        exact absurd h1 (apart m d B hm hd h2)
    · rw [oldμ n hn] at h1
      by_cases hm : m = k.nx
      · subst hm
        rw [newμ] at h2
        exact absurd h2 (apart n c B hn hc h1)
      · rw [oldμ m hm] at h2
        exact hk.inj n m c d B (old n c hn hc).1 (old m d hm hd).1 h1 h2
  · obtain ⟨n, c, hc, he⟩ := hB
    by_cases hn : n = k.nx
    · subst hn
      rw [newμ] at he
      rcases h.place B he with h1 | ⟨m, hm, h2⟩
      · exact ⟨by have := h.low; omega, h1.2⟩
      · obtain ⟨c', hc'⟩ := h.live m hm
        have := hk.low B ⟨m, c', hc', h2⟩
        exact ⟨this.1, Nat.lt_of_lt_of_le this.2 h.size⟩
    · rw [oldμ n hn] at he
      have := hk.low B ⟨n, c, (old n c hn hc).1, he⟩
      exact ⟨this.1, Nat.lt_of_lt_of_le this.2 h.size⟩
  · by_cases hn : n = k.nx
    · exact Or.inr hn
    · exact Or.inl (hk.names n c (old n c hn hc).1)

/-! ### a block written -/
/-- the same make -/
def Alike : Blk → Blk → Prop
  | .arr e xs, .arr e' xs' => e = e' ∧ xs.length = xs'.length
  | .var _, .var _ => True
  | _, _ => False

structure Write (k : Kx) (w' : World) (n : Nat) (b b' : Blk) : Prop where
  live : hget k.hp n = some b
  alike : Alike b b'
  size : w'.heap.size = k.w.heap.size
  same : ∀ B, (k.μ n).block ≠ some B → w'.heap[B]? = k.w.heap[B]?

def putK (k : Kx) (w' : World) (n : Nat) (b' : Blk) : Kx := ⟨w', hput k.hp n b', k.μ, k.nx, k.X, k.U⟩

theorem Write.Own {k : Kx} {w' : World} {n : Nat} {b b' : Blk} (h : Write k w' n b b') (B : Nat) : (putK k w' n b').Own B ↔ k.Own B := by
  constructor
  · rintro ⟨m, c, hc, he⟩
    simp only [putK, hget_hput] at hc he
    by_cases hm : m = n
    · subst hm; exact ⟨m, b, h.live, he⟩
    · rw [if_neg hm] at hc; exact ⟨m, c, hc, he⟩
  · rintro ⟨m, c, hc, he⟩
    by_cases hm : m = n
    · subst hm; exact ⟨m, b', by simp [putK, hget_hput], he⟩
    · exact ⟨m, c, by simp [putK, hget_hput, hm, hc], he⟩

theorem Write.O {k : Kx} {w' : World} {n : Nat} {b b' : Blk} (h : Write k w' n b b') (B : Nat) : (putK k w' n b').O B ↔ k.O B := by
  unfold Kx.O
  rw [h.Own]
  exact Iff.rfl

theorem Write.ext {k : Kx} {w' : World} {n : Nat} {b b' : Blk} (h : Write k w' n b b') : Ext k (putK k w' n b') where
  same := by
    intro B hB hlt
    exact h.same B fun he => hB ⟨n, b, h.live, he⟩
  own := fun B hB _ => (h.Own B).1 hB
  size := Nat.le_of_eq h.size.symm
  u := fun _ h => h
  arr := by
    intro m e xs' hm hc
    simp only [putK, hget_hput] at hc ⊢
    by_cases he : m = n
    · subst he
      rw [if_pos rfl, Option.some.injEq] at hc
      subst hc
      have ha := h.alike
      cases b with
      | arr e0 xs0 => obtain ⟨h1, h2⟩ := ha; subst h1; exact ⟨xs0, h.live, h2, trivial⟩
      | var cs => exact absurd ha (by simp [Alike])
    · rw [if_neg he] at hc; exact ⟨xs', hc, rfl, trivial⟩
  var := by
    intro m cs hm hc
    simp only [putK, hget_hput] at hc ⊢
    by_cases he : m = n
    · subst he
      rw [if_pos rfl, Option.some.injEq] at hc
      subst hc
      have ha := h.alike
      cases b with
      | arr e0 xs0 => exact absurd ha (by simp [Alike])
      | var cs0 => exact ⟨cs0, h.live, trivial⟩
    · rw [if_neg he] at hc; exact ⟨cs, hc, trivial⟩
  x := rfl

theorem Write.hrel {N : Nat} {k : Kx} {w' : World} {n : Nat} {b b' : Blk} (h : Write k w' n b b') (hk : HRel N k) (hb : BRel (putK k w' n b') n b') : HRel N (putK k w' n b') := by
  have hx := h.ext
  have old : ∀ m c, hget (putK k w' n b').hp m = some c → ∃ c0, hget k.hp m = some c0 ∧ (m ≠ n → c0 = c) := by
    intro m c hc
    simp only [putK, hget_hput] at hc
    by_cases hm : m = n
    · subst hm; exact ⟨b, h.live, fun h => absurd rfl h⟩
    · rw [if_neg hm] at hc; exact ⟨c, hc, fun _ => rfl⟩
  refine ⟨fun m c hc => ?_, fun m q c d B hc hd h1 h2 => ?_, fun B hB => ?_, hx.xlow hk, hx.xown hk, fun m c hc => ?_⟩
  · by_cases hm : m = n
    · subst hm
      simp only [putK, hget_hput, if_true, Option.some.injEq] at hc
      subst hc; exact hb
    · obtain ⟨c0, h0, he⟩ := old m c hc
      have := he hm
      subst this
      refine BRel.move hx rfl (fun B hB => h.same B fun he' => hm ?_) (hk.blk m c0 h0)
      exact hk.inj m n c0 b B h0 h.live hB he'
  · obtain ⟨c0, h0, _⟩ := old m c hc
    obtain ⟨d0, h0', _⟩ := old q d hd
    exact hk.inj m q c0 d0 B h0 h0' h1 h2
  · have := hk.low B ((h.Own B).1 hB)
    exact ⟨this.1, by show B < w'.heap.size; rw [h.size]; exact this.2⟩
  · obtain ⟨c0, h0, _⟩ := old m c hc
    exact hk.names m c0 h0

/-! ### a block frozen -/
theorem hget_map (f : Blk → Blk) (hp : Hp) (m : Nat) : hget (hp.map fun e => (e.1, f e.2)) m = (hget hp m).map f := by
  induction hp with
  | nil => rfl
  | cons a r ih =>
    obtain ⟨q, b⟩ := a
    simp only [List.map_cons, hget]
    by_cases h : q = m
    · simp [h]
    · simp [h, ih]

def frzK (k : Kx) (n : Nat) (b : Blk) : Kx := ⟨k.w, (hrem k.hp n).map fun e => (e.1, frzB n b e.2), k.μ, k.nx, k.X, k.U⟩

theorem frzK_get {k : Kx} {n : Nat} {b : Blk} {m : Nat} {c : Blk} (h : hget (frzK k n b).hp m = some c) : m ≠ n ∧ ∃ c0, hget k.hp m = some c0 ∧ c = frzB n b c0 := by
  simp only [frzK, hget_map, hget_hrem] at h
  by_cases hm : m = n
  · rw [if_pos hm] at h; cases h
  · rw [if_neg hm] at h
    cases hc : hget k.hp m with
    | none => rw [hc] at h; cases h
    | some c0 => rw [hc] at h; exact ⟨hm, c0, rfl, by simpa using h.symm⟩

theorem frzK_Own {k : Kx} {n : Nat} {b : Blk} {B : Nat} (h : (frzK k n b).Own B) : k.Own B := by
  obtain ⟨m, c, hc, he⟩ := h
  obtain ⟨_, c0, h0, _⟩ := frzK_get hc
  exact ⟨m, c0, h0, he⟩

theorem frzK_O {k : Kx} {n : Nat} {b : Blk} {B : Nat} (h : (frzK k n b).O B) : k.O B := h.imp id frzK_Own

theorem frzK_not {N : Nat} {k : Kx} (hk : HRel N k) {n : Nat} {b : Blk} (hb : hget k.hp n = some b) (B : Nat) (h : (k.μ n).block = some B) : ¬ (frzK k n b).O B := by
  rintro (hX | ⟨m, c, hc, he⟩)
  · exact hk.xown B hX ⟨n, b, hb, h⟩
  obtain ⟨hm, c0, h0, _⟩ := frzK_get hc
  exact hm (hk.inj m n c0 b B h0 hb he h)

theorem frzK_ext {k : Kx} {n : Nat} {b : Blk} : Ext k (frzK k n b) where
  same := fun _ _ _ => rfl
  own := fun B h _ => frzK_Own h
  size := Nat.le_refl _
  u := fun _ h => h
  arr := by
    intro m e xs hm hc
    obtain ⟨_, c0, h0, he⟩ := frzK_get hc
    cases c0 with
    | arr e0 xs0 => simp only [frzB, Blk.arr.injEq] at he; obtain ⟨h1, h2⟩ := he; subst h1; have h2 := eq_of_heq h2; subst h2; exact ⟨xs, h0, rfl, rfl⟩
    | var cs => simp [frzB] at he
  var := by
    intro m cs hm hc
    obtain ⟨_, c0, h0, he⟩ := frzK_get hc
    cases c0 with
    | arr e0 xs0 => simp [frzB] at he
    | var cs0 => exact ⟨cs0, h0, rfl⟩
  x := rfl

theorem frzCell_rel {N : Nat} {k : Kx} (hk : HRel N k) {n : Nat} {b : Blk} (hb : hget k.hp n = some b) {c : Cell} {v : Value} (h : CRel k c v) : CRel (frzK k n b) (frzCell n b c) v := by
  have hx := frzK_ext (k := k) (n := n) (b := b)
  cases c with
  | own m e =>
    simp only [frzCell]
    by_cases hm : m = n
    · subst hm
      rw [if_pos rfl]
      cases b with
      | var cs => exact h.1.2
      | arr e' xs =>
        by_cases he : e' = e
        · subst he
          have := own_data (O2 := (frzK k m (.arr e' xs)).O) (hk.blk m _ hb) (h.2 xs hb) (by simp) (fun B => frzK_O) (frzK_not hk hb)
          simpa [CRel, frzK] using this
        · simp only [he, if_false]; exact h.1.2
    · rw [if_neg hm]; exact hx.c h
  | sub m e lo hi =>
    simp only [frzCell]
    by_cases hm : m = n
    · subst hm
      rw [if_pos rfl]
      cases b with
      | var cs => exact h.1.2
      | arr e' xs =>
        by_cases he : e' = e
        · subst he
          obtain ⟨h0, h1, h2, h3⟩ := h.2 xs hb
          have := own_data (O2 := (frzK k m (.arr e' xs)).O) (hk.blk m _ hb) h3 (by omega) (fun B => frzK_O) (frzK_not hk hb)
          simpa [CRel, frzK, cut] using this
        · simp only [he, if_false]; exact h.1.2
    · rw [if_neg hm]; exact hx.c h
  | _ => exact hx.c h

theorem frzCells_rel {N : Nat} {k : Kx} (hk : HRel N k) {n : Nat} {b : Blk} (hb : hget k.hp n = some b) : ∀ {cs : List Cell} {vs : List Value}, CRels k cs vs → CRels (frzK k n b) (cs.map (frzCell n b)) vs := by
  intro cs
  induction cs with
  | nil => intro vs h; exact h
  | cons c cs ih =>
    intro vs h
    obtain ⟨v, r, e, h1, h2⟩ := h
    exact ⟨v, r, e, frzCell_rel hk hb h1, ih h2⟩

theorem frzParts_rel {N : Nat} {k : Kx} (hk : HRel N k) {n : Nat} {b : Blk} (hb : hget k.hp n = some b) : ∀ {ps : List (Bool × List Cell)} {vs : List Value}, PRels k ps vs → PRels (frzK k n b) (ps.map fun p => (p.1, p.2.map (frzCell n b))) vs := by
  intro ps
  induction ps with
  | nil => intro vs h; exact h
  | cons p ps ih =>
    intro vs h
    obtain ⟨v, r, e, h1, h2⟩ := h
    refine ⟨v, r, e, ?_, ih h2⟩
    unfold PRel at *
    cases hp : p.1 with
    | true => rw [hp] at h1; obtain ⟨us, e1, h3⟩ := h1; exact ⟨us, e1, frzCells_rel hk hb h3⟩
    | false =>
      rw [hp] at h1
      obtain ⟨c, e1, h3⟩ := h1
      refine ⟨frzCell n b c, by simp [e1], ?_⟩
      rcases h3 with h3 | h3
      · subst h3; exact Or.inl rfl
      · exact Or.inr ⟨frzCell_rel hk hb h3.1, h3.2⟩

theorem frzV_rel {N : Nat} {k : Kx} (hk : HRel N k) {n : Nat} {b : Blk} (hb : hget k.hp n = some b) {a : AVal} {v : Value} (h : ARel k a v) : ARel (frzK k n b) (frzV n b a) v := by
  cases a with
  | one c =>
    rcases h with h | h
    · subst h; exact Or.inl rfl
    · exact Or.inr (frzCell_rel hk hb h)
  | pure t x => exact (frzK_ext (k := k) (n := n) (b := b)).a h
  | agg cs => obtain ⟨vs, e, hv⟩ := h; exact ⟨vs, e, frzCells_rel hk hb hv⟩
  | tup ps => obtain ⟨vs, e, hv⟩ := h; exact ⟨vs, e, frzParts_rel hk hb hv⟩

theorem frz_hrel {N : Nat} {k : Kx} (hk : HRel N k) {n : Nat} {b : Blk} (hb : hget k.hp n = some b) : HRel N (frzK k n b) := by
  have hx := frzK_ext (k := k) (n := n) (b := b)
  refine ⟨fun m c hc => ?_, fun m q c d B hc hd h1 h2 => ?_, fun B hB => ?_, hx.xlow hk, hx.xown hk, fun m c hc => ?_⟩
  · obtain ⟨hm, c0, h0, he⟩ := frzK_get hc
    subst he
    have := hk.blk m c0 h0
    cases c0 with
    | arr e xs => exact BRel.move hx rfl (fun _ _ => rfl) this
    | var cs =>
      obtain ⟨B, row, E, fz, h1, h2, h3, h4⟩ := this
      exact ⟨B, row, E, fz, h1, h2, h3, frzCells_rel hk hb h4⟩
  · obtain ⟨_, c0, h0, _⟩ := frzK_get hc
    obtain ⟨_, d0, h0', _⟩ := frzK_get hd
    exact hk.inj m q c0 d0 B h0 h0' h1 h2
  · exact hk.low B (frzK_Own hB)
  · obtain ⟨_, c0, h0, _⟩ := frzK_get hc
    exact hk.names m c0 h0

/-- Several blocks frozen, one behind the other. -/
def frzKs (k : Kx) : List Nat → Kx
  | [] => k
  | n :: r => match hget k.hp n with
    | some b => frzKs (frzK k n b) r
    | none => frzKs k r

theorem frzAll_rel {N : Nat} : ∀ (ns : List Nat) (k : Kx) (fr : Fr) (tmps : Array Value), HRel N k → FRel k fr tmps →
    HRel N (frzKs k ns) ∧ FRel (frzKs k ns) (frzAll fr k.hp ns).1 tmps ∧ (frzKs k ns).hp = (frzAll fr k.hp ns).2 ∧ (frzKs k ns).w = k.w ∧ (frzKs k ns).nx = k.nx ∧ (frzKs k ns).μ = k.μ := by
  intro ns
  induction ns with
  | nil => intro k fr tmps hk hf; exact ⟨hk, hf, rfl, rfl, rfl, rfl⟩
  | cons n r ih =>
    intro k fr tmps hk hf
    simp only [frzKs, frzAll, frz1]
    cases hb : hget k.hp n with
    | none => exact ih k fr tmps hk hf
    | some b =>
      have hf' : FRel (frzK k n b) (fr.map (frzV n b)) tmps := by
        refine ⟨by simpa using hf.1, fun i => ?_⟩
        have := frzV_rel hk hb (hf.2 i)
        have e : rdT (fr.map (frzV n b)) i = frzV n b (rdT fr i) := by
          simp only [rdT, List.getD_eq_getElem?_getD, List.getElem?_map]
          cases fr[i]? <;> rfl
        rw [e]; exact this
      exact ih (frzK k n b) _ tmps (frz_hrel hk hb) hf'

theorem frzKs_U : ∀ (ns : List Nat) (k : Kx), (frzKs k ns).U = k.U := by
  intro ns
  induction ns with
  | nil => intro k; rfl
  | cons n r ih =>
    intro k
    simp only [frzKs]
    cases hb : hget k.hp n with
    | none => exact ih k
    | some b => exact (ih (frzK k n b)).trans rfl

theorem frzKs_O {N : Nat} : ∀ (ns : List Nat) (k : Kx) (B : Nat), HRel N k → (frzKs k ns).O B → k.O B ∧ ∀ n ∈ ns, (k.μ n).block ≠ some B ∨ hget k.hp n = none := by
  intro ns
  induction ns with
  | nil => intro k B hk h; exact ⟨h, by simp⟩
  | cons n r ih =>
    intro k B hk h
    simp only [frzKs] at h
    cases hb : hget k.hp n with
    | none =>
      rw [hb] at h
      obtain ⟨h1, h2⟩ := ih k B hk h
      refine ⟨h1, fun m hm => ?_⟩
      rcases List.mem_cons.1 hm with hm | hm
      · subst hm; exact Or.inr hb
      · exact h2 m hm
    | some b =>
      rw [hb] at h
      obtain ⟨h1, h2⟩ := ih (frzK k n b) B (frz_hrel hk hb) h
      refine ⟨frzK_O h1, fun m hm => ?_⟩
      rcases List.mem_cons.1 hm with hm | hm
      · subst hm; exact Or.inl fun he => frzK_not hk hb B he h1
      · rcases h2 m hm with h3 | h3
        · exact Or.inl h3
        · by_cases hmn : m = n
          · subst hmn; exact Or.inl fun he => frzK_not hk hb B he h1
          · refine Or.inr ?_
            simp only [frzK, hget_map, hget_hrem, if_neg hmn] at h3
            cases hq : hget k.hp m with
            | none => rfl
            | some c => rw [hq] at h3; simp at h3

/-- A block of elements that is not frozen stays as it is. -/
theorem frzKs_keep : ∀ (ns : List Nat) (k : Kx) (n : Nat) (e : Ty) (xs : List e.den), hget k.hp n = some (.arr e xs) → n ∉ ns → hget (frzKs k ns).hp n = some (.arr e xs) := by
  intro ns
  induction ns with
  | nil => intro k n e xs h _; exact h
  | cons m r ih =>
    intro k n e xs h hn
    simp only [frzKs]
    cases hb : hget k.hp m with
    | none => exact ih k n e xs h (fun h => hn (by simp [h]))
    | some b =>
      refine ih (frzK k m b) n e xs ?_ (fun h => hn (by simp [h]))
      simp only [frzK, hget_map, hget_hrem]
      rw [if_neg (fun e => hn (by simp [e])), h]
      rfl

/-- A variable that is not frozen stays one. -/
theorem frzKs_var : ∀ (ns : List Nat) (k : Kx) (n : Nat) (cs : List Cell), hget k.hp n = some (.var cs) → n ∉ ns → ∃ cs', hget (frzKs k ns).hp n = some (.var cs') := by
  intro ns
  induction ns with
  | nil => intro k n cs h _; exact ⟨cs, h⟩
  | cons m r ih =>
    intro k n cs h hn
    simp only [frzKs]
    cases hb : hget k.hp m with
    | none => exact ih k n cs h (fun h => hn (by simp [h]))
    | some b =>
      refine ih (frzK k m b) n (cs.map (frzCell m b)) ?_ (fun h => hn (by simp [h]))
      simp only [frzK, hget_map, hget_hrem]
      rw [if_neg (fun e => hn (by simp [e])), h]
      rfl

theorem frzKs_ext : ∀ (ns : List Nat) (k : Kx), Ext k (frzKs k ns) := by
  intro ns
  induction ns with
  | nil => intro k; exact Ext.refl k
  | cons n r ih =>
    intro k
    simp only [frzKs]
    cases hb : hget k.hp n with
    | none => exact ih k
    | some b =>
      have h1 := frzK_ext (k := k) (n := n) (b := b)
      have h2 := ih (frzK k n b)
      refine ⟨fun B hB hlt => (h2.same B (fun h => hB (frzK_Own h)) hlt).trans rfl, fun B hB hlt => frzK_Own (h2.own B hB hlt), h2.size, h2.u, fun m e xs hm hc => ?_, fun m cs hm hc => ?_, h2.x⟩
      · obtain ⟨ys, h3, h4, h5⟩ := h2.arr m e xs hm hc
        obtain ⟨zs, h6, h7, h8⟩ := h1.arr m e ys hm h3
        exact ⟨zs, h6, h7.trans h4, h5.trans h8⟩
      · obtain ⟨ys, h3, h5⟩ := h2.var m cs hm hc
        obtain ⟨zs, h6, h8⟩ := h1.var m ys hm h3
        exact ⟨zs, h6, h5.trans h8⟩

end Go.Ab
