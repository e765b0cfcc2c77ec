/-
  slices.Sort AND slices.Compact OF WHOLE NUMBERS, run in their caller's state: what becomes of the block that they are handed. The contracts are the shelf's.
-/
import Derived.Test.YtnklmlnkiepdiaaGreatDoorAbSound
import Derived.Test.YtnklmlnkiepdiaaGreatDoorAbSortFn
import Derived.Shelf.Sort.Plain
import Derived.Shelf.Slices.In.SortNone
import Derived.Shelf.Slices.CompactI
set_option linter.unusedVariables false
set_option linter.unusedSectionVars false
namespace Go.Ab
variable [Tabs]
open Go.RowKit (Below)

def sortJ : InlSum where
  run := fun {R} args hp nx K s => match args with
    | [.one (.own n (.int .i64))] => match arrAs (.int .i64) (hget hp n) with
      | some xs => gate (decide (List.length xs < 4611686018427387904)) (K (.tup []) (hput hp n (.arr (.int .i64) (sortInts xs))) nx) s
      | none => s
    | [.one .nilS] => K (.tup []) hp nx
    | _ => s

def compactJ : InlSum where
  run := fun {R} args hp nx K s => match args with
    | [.one (.own n (.int .i64))] => match arrAs (.int .i64) (hget hp n) with
      | some xs => gate (decide (List.length xs < 4611686018427387904)) (K (.one (.sub n (.int .i64) 0 ((compactInts xs).length : Int))) (hput hp n (.arr (.int .i64) (compactAll xs))) nx) s
      | none => s
    | [.one .nilS] => K (.one .nilS) hp nx
    | _ => s

theorem sortJ_nat : NatI sortJ := by
  intro R args hp nx K s
  simp only [sortJ]
  split
  · split
    · simp only [gate]
      split <;> rfl
    · rfl
  · rfl
  · rfl

theorem compactJ_nat : NatI compactJ := by
  intro R args hp nx K s
  simp only [compactJ]
  split
  · split
    · simp only [gate]
      split <;> rfl
    · rfl
  · rfl
  · rfl

/-- the same state in a world that has grown -/
def worldK (k : Kx) (w' : World) : Kx := ⟨w', k.hp, k.μ, k.nx, k.X, k.U⟩

theorem worldK_ext {k : Kx} {w' : World} (hs : ∀ B, B < k.w.heap.size → w'.heap[B]? = k.w.heap[B]?) (hz : k.w.heap.size ≤ w'.heap.size) : Ext k (worldK k w') where
  same := fun B _ hlt => hs B hlt
  own := fun B h _ => h
  size := hz
  u := fun _ h => h
  arr := fun n e xs _ h => ⟨xs, h, rfl, rfl⟩
  var := fun n cs _ h => ⟨cs, h, rfl⟩
  map := fun n kt vt xs _ h => ⟨xs, h, rfl⟩
  x := rfl

theorem worldK_hrel {N : Nat} {k : Kx} {w' : World} (hk : HRel N k) (hs : ∀ B, B < k.w.heap.size → w'.heap[B]? = k.w.heap[B]?) (hz : k.w.heap.size ≤ w'.heap.size) : HRel N (worldK k w') := by
  have hx := worldK_ext hs hz
  refine ⟨fun n b h => BRel.move hx rfl (fun B hB => hs B (hk.low B ⟨n, b, h, hB⟩).2) (hk.blk n b h), hk.inj, fun B hB => ?_, hx.xlow hk, hx.xown hk, hk.names⟩
  have := hk.low B hB
  exact ⟨this.1, Nat.lt_of_lt_of_le this.2 hz⟩

theorem putCells_get (xs : List Int) (o : Nat) (row : Array Value) (j : Nat) (hj : j < xs.length) (ho : o + xs.length ≤ row.size) :
    (Go.Sort.putCells (Value.int .i64) o xs.toArray row)[o + j]? = some (.int .i64 xs[j]) := by
  have h1 : o + j < row.size := by omega
  simp only [Go.Sort.putCells, Array.getElem?_mapIdx, Array.getElem?_eq_getElem h1, Option.map_some]
  rw [if_pos ⟨by omega, by simp; omega⟩]
  have h2 : o + j - o = j := by omega
  rw [h2]
  congr 2
  simp [hj]

/-- what the shelf says of a row that is turned -/
def Turned (w w' : World) (B o : Nat) (ys : List Int) : Prop := ∃ n os, w' = Go.Sort.grow (Go.Sort.putRow (Value.int .i64) (Go.Sort.ahead w n) B o ys.toArray) os

/-- A block of whole numbers that is turned in its place. -/
theorem turned_rel {N : Nat} {k : Kx} (hk : HRel N k) (hN : N ≤ k.w.heap.size) {n : Nat} {xs : List Int} (hb : hget k.hp n = some (.arr (.int .i64) xs)) {B o cap : Nat} (hm : k.μ n = .at_ B o cap) :
    Go.Sort.Holds (Value.int .i64) k.w B o xs.toArray ∧ B < k.w.heap.size ∧ xs.length ≤ cap ∧ (∀ x ∈ xs, IntKind.i64.wrap x = x) ∧
      ∀ (ys : List Int) (w' : World), ys.length = xs.length → (∀ y ∈ ys, IntKind.i64.wrap y = y) → Turned k.w w' B o ys →
        ∃ k', k'.w = w' ∧ k'.hp = hput k.hp n (.arr (.int .i64) ys) ∧ k'.nx = k.nx ∧ k'.μ = k.μ ∧ k'.U = k.U ∧ HRel N k' ∧ Ext k k' ∧ Below N k.w w' := by
  have hbr := hk.blk n _ hb
  unfold BRel at hbr
  rw [hm] at hbr
  obtain ⟨row, E, fz, g1, g2, g3, g4, g5, g6⟩ := hbr
  simp only [Ty.size, Nat.mul_one] at g5 g6
  have hB : B < k.w.heap.size := heap_lt g1
  have g3' : xs.length ≤ cap := g3
  have cell : ∀ j (h : j < xs.length), row[o + j]? = some (.int .i64 xs[j]) ∧ IntKind.i64.wrap xs[j] = xs[j] := by
    intro j hj
    obtain ⟨q1, q2⟩ := g6 j hj
    refine ⟨?_, q2⟩
    have := part_get (row := row) (o := o + j) (n := 1) (j := 0) (by omega)
    rw [q1] at this
    simpa using this.symm
  have hold : Go.Sort.Holds (Value.int .i64) k.w B o xs.toArray := by
    intro j hj
    have hj' : j < xs.length := by simpa using hj
    refine ⟨?_, ?_⟩
    · rw [cell_of_row k.w B (o + j) row E fz g1, (cell j hj').1]
      simp [hj']
    · have := g2 (o + j) (by omega)
      simp only [World.frozen?, g1]
      simpa using this
  refine ⟨hold, hB, g3', fun x hx => ?_, fun ys w' hl hw hT => ?_⟩
  · obtain ⟨j, hj, rfl⟩ := List.getElem_of_mem hx
    exact (cell j hj).2
  obtain ⟨m, os, h8⟩ := hT
  have hget : ∀ C, C < k.w.heap.size → w'.heap[C]? = (if C = B then some (.cells (Go.Sort.putCells (Value.int .i64) o ys.toArray row) E fz) else k.w.heap[C]?) := by
    intro C hC
    rw [h8]
    simp only [Go.Sort.grow, Go.Sort.putRow, Go.Sort.mapBlock, Go.Sort.ahead]
    rw [Array.getElem?_append_left (by simpa using hC), Array.getElem?_modify]
    by_cases hCB : B = C
    · subst hCB
      rw [if_pos rfl, if_pos rfl, g1]
      rfl
    · rw [if_neg hCB, if_neg (Ne.symm hCB)]
  have hsize : k.w.heap.size ≤ w'.heap.size := by
    rw [h8]
    simp [Go.Sort.grow, Go.Sort.putRow, Go.Sort.mapBlock, Go.Sort.ahead]
  let w1 : World := k.w.setRow B (Go.Sort.putCells (Value.int .i64) o ys.toArray row)
  have hw1 : ∀ C, w1.heap[C]? = (if C = B then some (.cells (Go.Sort.putCells (Value.int .i64) o ys.toArray row) E fz) else k.w.heap[C]?) := by
    intro C
    by_cases hCB : C = B
    · subst hCB
      rw [if_pos rfl]
      exact setRow_heap k.w C row _ E fz g1
    · rw [if_neg hCB]
      exact setRow_other k.w B C _ hCB
  have hs1 : w1.heap.size = k.w.heap.size := setRow_size _ _ _
  have hW : Write k w1 n (.arr (.int .i64) xs) (.arr (.int .i64) ys) := by
    refine ⟨hb, ⟨rfl, hl.symm⟩, hs1, fun C hC => ?_⟩
    rw [hw1, if_neg]
    intro e
    subst e
    exact hC (by rw [hm]; rfl)
  have hbr1 : BRel (putK k w1 n (.arr (.int .i64) ys)) n (.arr (.int .i64) ys) := by
    have hμ : (putK k w1 n (.arr (.int .i64) ys)).μ n = .at_ B o cap := hm
    unfold BRel
    rw [hμ]
    refine ⟨Go.Sort.putCells (Value.int .i64) o ys.toArray row, E, fz, ?_, ?_, ?_, g4, ?_, fun i hi => ?_⟩
    · show w1.heap[B]? = _
      rw [hw1, if_pos rfl]
      rfl
    · intro j hj
      exact g2 j (by simpa [Go.Sort.putCells] using hj)
    · show ys.length ≤ cap
      rw [hl]; exact g3
    · simp only [Ty.size, Nat.mul_one]
      simpa [Go.Sort.putCells] using g5
    · have hi' : i < ys.length := hi
      have := putCells_get ys o row i hi' (by rw [hl]; omega)
      refine ⟨?_, hw _ (List.getElem_mem hi')⟩
      simp only [Ty.size, Nat.mul_one]
      apply List.ext_getElem?
      intro j
      cases j with
      | zero => rw [part_get (by omega)]; simpa using this
      | succ j =>
        have h9 : (part_ (Go.Sort.putCells (Value.int .i64) o ys.toArray row) (o + i) 1)[j + 1]? = none := by
          simp [part_]
          omega
        rw [h9]
        rfl
  have hk1 := hW.hrel hk hbr1
  have hs2 : ∀ C, C < (putK k w1 n (.arr (.int .i64) ys)).w.heap.size → w'.heap[C]? = (putK k w1 n (.arr (.int .i64) ys)).w.heap[C]? := by
    intro C hC
    have hC' : C < k.w.heap.size := by
      have : C < w1.heap.size := hC
      omega
    rw [hget C hC']
    exact (hw1 C).symm
  have hz2 : (putK k w1 n (.arr (.int .i64) ys)).w.heap.size ≤ w'.heap.size := by
    show w1.heap.size ≤ _
    omega
  refine ⟨worldK (putK k w1 n (.arr (.int .i64) ys)) w', rfl, rfl, rfl, rfl, rfl, worldK_hrel hk1 hs2 hz2, hW.ext.trans (worldK_ext hs2 hz2), ?_⟩
  have hBN : N ≤ B := (hk.low B ⟨n, _, hb, by rw [hm]; rfl⟩).1
  refine ⟨by rw [h8]; rfl, by rw [h8]; rfl, by rw [h8]; rfl, hsize, fun C hC => ?_⟩
  rw [hget C (by omega), if_neg (by omega)]

/-- Such a function, by its contract at no element and at some. -/
theorem turnJ_sound {P : Program} {g : FuncId} {J : InlSum} (he : Enters P g) (f : List Int → List Int) (res : Nat → List Int → AVal) (nilRes : AVal)
    (hJ : ∀ (avs : List AVal) (hp : Hp) (nx : Nat) (r : AVal × Hp × Nat), J.run avs hp nx (fun v h n => some (v, h, n)) none = some r →
      (∃ n xs, avs = [.one (.own n (.int .i64))] ∧ hget hp n = some (.arr (.int .i64) xs) ∧ xs.length < 4611686018427387904 ∧ r = (res n xs, hput hp n (.arr (.int .i64) (f xs)), nx)) ∨ (avs = [.one .nilS] ∧ r = (nilRes, hp, nx)))
    (hf0 : f [] = []) (hfl : ∀ xs, (f xs).length = xs.length) (hfw : ∀ xs : List Int, (∀ x ∈ xs, IntKind.i64.wrap x = x) → ∀ y ∈ f xs, IntKind.i64.wrap y = y)
    (c1 : ∀ (p : Option Addr) (cap : Nat) (w : World), Calls P g #[.slice p 0 cap] w fun e w' => w' = w ∧ ∃ u, e = .returned u ∧ (∀ k, k.w = w → p = none → cap = 0 → ARel k nilRes u) ∧
      ∀ (k : Kx) n, k.U n → (∀ xs, hget k.hp n = some (.arr (.int .i64) xs) → Hdr (k.μ n) (.int .i64) 0 0 (.slice p 0 cap)) → ARel k (res n []) u)
    (c2 : ∀ (blk off cap : Nat) (zs : List Int) (w : World), Go.Sort.Holds (Value.int .i64) w blk off zs.toArray → blk < w.heap.size → zs.length < 4611686018427387904 → zs.length ≤ cap → zs ≠ [] →
      Calls P g #[.slice (some ⟨blk, off, none⟩) zs.length cap] w fun e w' => Turned w w' blk off (f zs) ∧ ∃ u, e = .returned u ∧
        ∀ (k : Kx) n c2, k.U n → hget k.hp n = some (.arr (.int .i64) (f zs)) → k.μ n = .at_ blk off c2 → cap ≤ c2 → ARel k (res n zs) u) : SoundIn P g J where
  enters := he
  calls := by
    intro N k avs vs v hp' nx' hk hN hr hu hj
    rcases hJ avs k.hp k.nx _ hj with ⟨n, xs, h1, hb, hlen, h2⟩ | ⟨h1, h2⟩
    · subst h1
      simp only [Prod.mk.injEq] at h2
      obtain ⟨rfl, rfl, rfl⟩ := h2
      obtain ⟨u, r, e1, h1, e2⟩ := hr
      have e2 : r = [] := e2
      subst e2
      have hvs : vs = #[u] := by
        apply Array.ext'
        rw [e1]
      have h1 : CRel k (.own n (.int .i64)) u := by
        rcases h1 with h1 | h1
        · cases h1
        · exact h1
      have hh := h1.2 xs hb
      have hU : k.U n := h1.1.1
      have hbr := hk.blk n _ hb
      have same_ : ∀ (a : Option Addr) (c : Nat), u = .slice a 0 c → xs = [] → Calls P g vs k.w fun e w' => ∃ u k', e = .returned u ∧ k'.w = w' ∧ k'.hp = hput k.hp n (.arr (.int .i64) (f xs)) ∧ k'.nx = k.nx ∧ HRel N k' ∧ Ext k k' ∧ Below N k.w k'.w ∧ ARel k' (res n xs) u ∧ ∀ n, k'.U n → n < k'.nx := by
        intro a c hu' hxs
        subst hxs
        rw [hvs, hu', hf0]
        refine (c1 a c k.w).mono fun e w' ⟨h5, u', h4, _, h6⟩ => ?_
        subst h5
        have hW : Write k k.w n (.arr (.int .i64) []) (.arr (.int .i64) []) := ⟨hb, ⟨rfl, rfl⟩, rfl, fun _ _ => rfl⟩
        refine ⟨u', putK k k.w n (.arr (.int .i64) []), h4, rfl, rfl, rfl, hW.hrel hk ?_, hW.ext, ⟨rfl, rfl, rfl, Nat.le_refl _, fun _ _ => rfl⟩, h6 _ n hU ?_, hu⟩
        · exact BRel.move hW.ext rfl (fun _ _ => rfl) hbr
        · intro _ _
          rw [hu'] at hh
          exact hh
      unfold BRel at hbr
      cases hm : k.μ n with
      | none =>
        rw [hm] at hh hbr
        obtain ⟨a, h3, h4⟩ := hh
        exact same_ a 0 h3 hbr
      | at_ B o cap =>
        rw [hm] at hh
        obtain ⟨a, c, h3, h4, h5, h6⟩ := hh
        by_cases hx : xs = []
        · exact same_ a c (by rw [h3, hx]; rfl) hx
        · have hpos : 0 < xs.length := List.length_pos_iff.2 hx
          have ha : a = some ⟨B, o, none⟩ := by
            rcases h6 with h6 | h6
            · simpa using h6
            · omega
          obtain ⟨hold, hB, hcap, hwr, turn⟩ := turned_rel hk hN hb hm
          rw [hvs, h3, ha]
          refine (c2 B o c xs k.w hold hB hlen h4 hx).mono fun e w' ⟨hT, u', h7, h8⟩ => ?_
          obtain ⟨k', q1, q2, q3, q4, q5, q6, q7, q8⟩ := turn (f xs) w' (hfl xs) (hfw xs hwr) hT
          refine ⟨u', k', h7, q1, q2, q3, q6, q7, by rw [q1]; exact q8, h8 k' n cap (by rw [q5]; exact hU) (by rw [q2, hget_hput, if_pos rfl]) (by rw [q4, hm]) (by omega), fun m hm => ?_⟩
          rw [q5] at hm
          rw [q3]
          exact hu m hm
    · subst h1
      simp only [Prod.mk.injEq] at h2
      obtain ⟨rfl, rfl, rfl⟩ := h2
      obtain ⟨u, r, e1, h1, e2⟩ := hr
      have e2 : r = [] := e2
      subst e2
      have hvs : vs = #[u] := by
        apply Array.ext'
        rw [e1]
      have h1 : u = .slice none 0 0 := by
        rcases h1 with h1 | h1
        · cases h1
        · exact h1
      rw [hvs, h1]
      refine (c1 none 0 k.w).mono fun e w' ⟨h5, u', h4, h6, _⟩ => ?_
      subst h5
      exact ⟨u', k, h4, rfl, rfl, rfl, hk, Ext.refl k, ⟨rfl, rfl, rfl, Nat.le_refl _, fun _ _ => rfl⟩, h6 k rfl rfl rfl, hu⟩

theorem sortJ_sound {P : Program} {g : FuncId} (he : Enters P g) (c1 : ∀ (p : Option Addr) (cap : Nat) (w : World), Calls P g #[.slice p 0 cap] w fun e w' => e = .returned (.tuple #[]) ∧ w' = w)
    (c2 : ∀ (blk off cap : Nat) (zs : List Int) (w : World), Go.Sort.Holds (Value.int .i64) w blk off zs.toArray → blk < w.heap.size → zs.length < 4611686018427387904 → Calls P g #[.slice (some ⟨blk, off, none⟩) zs.length cap] w fun e w' =>
      e = .returned (.tuple #[]) ∧ ∃ n os, w' = Go.Sort.grow (Go.Sort.putRow (Value.int .i64) (Go.Sort.ahead w n) blk off (zs.mergeSort fun x y => decide (x ≤ y)).toArray) os) : SoundIn P g sortJ := by
  refine turnJ_sound he sortInts (fun _ _ => .tup []) (.tup []) (fun avs hp nx r h => ?_) (by simp [sortInts]) (fun xs => List.length_mergeSort _) (fun xs hx y hy => hx y ((List.mergeSort_perm xs _).mem_iff.1 hy)) (fun p cap w => ?_) (fun blk off cap zs w h1 h2 h3 h4 h5 => ?_)
  · simp only [sortJ] at h
    split at h
    · rename_i n
      cases hl : arrAs (.int .i64) (hget hp n) with
      | none => rw [hl] at h; cases h
      | some xs =>
        rw [hl] at h
        simp only [gate] at h
        split at h
        · rename_i hlen
          simp only [decide_eq_true_eq] at hlen
          simp only [Option.some.injEq] at h
          exact Or.inl ⟨n, xs, rfl, arrAs_eq hl, hlen, h.symm⟩
        · cases h
    · simp only [Option.some.injEq] at h
      exact Or.inr ⟨rfl, h.symm⟩
    · cases h
  · exact (c1 p cap w).mono fun e w' ⟨h1, h2⟩ => ⟨h2, _, h1, fun _ _ _ _ => ⟨#[], rfl, rfl⟩, fun _ _ _ _ => ⟨#[], rfl, rfl⟩⟩
  · exact (c2 blk off cap zs w h1 h2 h3).mono fun e w' ⟨g1, g2⟩ => ⟨g2, _, g1, fun _ _ _ _ _ _ _ => ⟨#[], rfl, rfl⟩⟩

theorem grow_none (w : World) : Go.Sort.grow w #[] = w := by simp [Go.Sort.grow]

theorem compactInts_le (xs : List Int) : (compactInts xs).length ≤ xs.length := by
  simp only [compactInts, Go.Lib.compact, Go.Lib.compactUpTo, List.length_map]
  refine Nat.le_trans (List.length_filter_le _ _) ?_
  simp

theorem compactInts_sub (xs : List Int) : ∀ y ∈ compactInts xs, y ∈ xs := by
  intro y hy
  simp only [compactInts, Go.Lib.compact, Go.Lib.compactUpTo, List.mem_map, List.mem_filter, List.mem_range] at hy
  obtain ⟨j, ⟨hj, _⟩, rfl⟩ := hy
  have : xs.toArray[j]! = xs[j] := by simp [hj]
  rw [this]
  exact List.getElem_mem hj

theorem compactJ_sound {P : Program} {g : FuncId} (he : Enters P g) (c1 : ∀ (p : Option Addr) (cap : Nat) (w : World), Calls P g #[.slice p 0 cap] w fun e w' => e = .returned (.slice p 0 cap) ∧ w' = w)
    (c2 : ∀ (blk off cap : Nat) (zs : List Int) (w : World), Go.Sort.Holds (Value.int .i64) w blk off zs.toArray → zs.length ≤ 9223372036854775807 → zs.length ≤ cap → Calls P g #[.slice (some ⟨blk, off, none⟩) zs.length cap] w fun e w' =>
      e = .returned (.slice (some ⟨blk, off, none⟩) (Go.Lib.compact zs).length cap) ∧ ∃ q, w' = Go.Sort.putRow (Value.int .i64) (Go.Sort.ahead w q) blk off (Go.Lib.compact zs ++ List.replicate (zs.length - (Go.Lib.compact zs).length) 0).toArray) : SoundIn P g compactJ := by
  refine turnJ_sound he compactAll (fun n xs => .one (.sub n (.int .i64) 0 ((compactInts xs).length : Int))) (.one .nilS) (fun avs hp nx r h => ?_) (by rfl) (fun xs => ?_) (fun xs hx y hy => ?_) (fun p cap w => ?_) (fun blk off cap zs w h1 h2 h3 h4 h5 => ?_)
  · simp only [compactJ] at h
    split at h
    · rename_i n
      cases hl : arrAs (.int .i64) (hget hp n) with
      | none => rw [hl] at h; cases h
      | some xs =>
        rw [hl] at h
        simp only [gate] at h
        split at h
        · rename_i hlen
          simp only [decide_eq_true_eq] at hlen
          simp only [Option.some.injEq] at h
          exact Or.inl ⟨n, xs, rfl, arrAs_eq hl, hlen, h.symm⟩
        · cases h
    · simp only [Option.some.injEq] at h
      exact Or.inr ⟨rfl, h.symm⟩
    · cases h
  · have := compactInts_le xs
    simp only [compactAll, List.length_append, List.length_replicate]
    omega
  · simp only [compactAll, List.mem_append, List.mem_replicate] at hy
    rcases hy with hy | ⟨_, hy⟩
    · exact hx y (compactInts_sub xs y hy)
    · subst hy; exact wrap_zero _
  · refine (c1 p cap w).mono fun e w' ⟨h1, h2⟩ => ⟨h2, _, h1, fun k _ hp hc => ?_, fun k n hU hh => Or.inr ⟨⟨hU, rfl⟩, fun xs hxs => ?_⟩⟩
    · subst hp; subst hc
      exact Or.inr rfl
    · refine ⟨by omega, by simp, ?_, ?_⟩
      · have : (compactInts []).length = 0 := rfl
        rw [this]
        omega
      · exact hh xs hxs
  · refine (c2 blk off cap zs w h1 (by omega) h4).mono fun e w' ⟨g1, q, g2⟩ => ⟨⟨q, #[], by rw [g2]; exact (grow_none _).symm⟩, _, g1, fun k n c3 hU hb hm hc => Or.inr ⟨⟨hU, rfl⟩, fun xs hxs => ?_⟩⟩
    rw [hb] at hxs
    simp only [Option.some.injEq, Blk.arr.injEq, true_and] at hxs
    have hxs := eq_of_heq hxs
    subst hxs
    have hle := compactInts_le zs
    refine ⟨by omega, by omega, ?_, ?_⟩
    · have : (compactAll zs).length = zs.length := by simp only [compactAll, List.length_append, List.length_replicate]; omega
      show ((compactInts zs).length : Int) ≤ ((compactAll zs).length : Int)
      rw [this]; omega
    · rw [hm]
      exact ⟨_, cap, rfl, by show ((compactInts zs).length - (0 : Int)).toNat ≤ cap; omega, by simpa using hc, Or.inl (by simp)⟩

end Go.Ab
