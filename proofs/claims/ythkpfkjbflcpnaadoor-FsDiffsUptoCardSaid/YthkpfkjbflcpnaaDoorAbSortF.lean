/-
  slices.SortFunc OF A BLOCK OF ITS CALLER'S, run in its caller's state, where the order tells any two of its elements apart. The contract is the shelf's.
-/
import Derived.Test.YthkpfkjbflcpnaaDoorAbSort
import Derived.Test.YthkpfkjbflcpnaaDoorAbSortFFn
import Derived.Shelf.SlSortCmp.WholeK
import Derived.Shelf.SlSortCmp.NoneTotal
set_option linter.unusedVariables false
set_option linter.unusedSimpArgs false
namespace Go.Ab
open Go.RowKit (Below)
open Go.Sort (SWO PermIn SortedIn HoldsK flatK putRowK)
open Go.Proofs (ltOf sortWorldK)

def sortFJ (e : Ty) (g : Nat) (lt : e.den → e.den → Bool) : InlSum where
  run := fun {R} args hp nx K s => match args with
    | [.one (.own n e'), .one (.fn g' [])] => if e' = e ∧ g' = g then (match arrAs e (hget hp n) with
      | some xs => gate (decide (List.length xs < 4611686018427387904) && apartB lt xs) (K (.tup []) (hput hp n (.arr e (sortBy lt xs))) nx) s
      | none => s) else s
    | [.one .nilS, .one (.fn g' [])] => K (.tup []) hp nx
    | _ => s

theorem sortFJ_nat (e : Ty) (g : Nat) (lt : e.den → e.den → Bool) : NatI (sortFJ e g lt) := by
  intro R args hp nx K s
  simp only [sortFJ]
  split
  · split
    · split
      · simp only [gate]
        split <;> rfl
      · rfl
    · rfl
  · rfl
  · rfl

/-! ### lists -/
theorem perm_lift {β γ : Type} {l l' : List β} (h : l'.Perm l) : ∀ (L : List (γ × β)), L.map Prod.snd = l → ∃ L' : List (γ × β), L'.Perm L ∧ L'.map Prod.snd = l' := by
  induction h with
  | nil => intro L hL; exact ⟨[], by rw [List.map_eq_nil_iff.1 hL], rfl⟩
  | cons x _ ih =>
    intro L hL
    match L, hL with
    | (c, b) :: r, hL =>
      simp only [List.map_cons, List.cons.injEq] at hL
      obtain ⟨L', h1, h2⟩ := ih r hL.2
      exact ⟨(c, b) :: L', h1.cons _, by simp [h2, hL.1]⟩
  | swap x y l =>
    intro L hL
    match L, hL with
    | (c, b) :: (c', b') :: r, hL =>
      simp only [List.map_cons, List.cons.injEq] at hL
      exact ⟨(c', b') :: (c, b) :: r, List.Perm.swap _ _ _, by simp [hL.1, hL.2.1, hL.2.2]⟩
  | trans _ _ ih1 ih2 =>
    intro L hL
    obtain ⟨L2, a1, a2⟩ := ih2 L hL
    obtain ⟨L1, b1, b2⟩ := ih1 L2 a2
    exact ⟨L1, b1.trans a1, b2⟩

/-! ### a block that is turned in its place -/
theorem putCells_getV (us : List Value) (o : Nat) (row : Array Value) (j : Nat) (hj : j < us.length) (ho : o + us.length ≤ row.size) :
    (Go.Sort.putCells (id : Value → Value) o us.toArray row)[o + j]? = some us[j] := by
  have h1 : o + j < row.size := by omega
  simp only [Go.Sort.putCells, Array.getElem?_mapIdx, Array.getElem?_eq_getElem h1, Option.map_some]
  rw [if_pos ⟨by omega, by simp; omega⟩]
  have h2 : o + j - o = j := by omega
  rw [h2]
  congr 2
  simp [hj]

theorem turnedV_rel {N : Nat} {k : Kx} (hk : HRel N k) (hN : N ≤ k.w.heap.size) {n : Nat} {e : Ty} (hz : 0 < e.size) {xs : List e.den} (hb : hget k.hp n = some (.arr e xs)) {B o cap : Nat} (hm : k.μ n = .at_ B o cap) :
    ∃ us0 : List Value, ERel k.w k.O e xs us0 ∧ Go.Sort.Holds (id : Value → Value) k.w B o us0.toArray ∧ B < k.w.heap.size ∧ xs.length ≤ cap ∧
      ∀ (ys : List e.den) (us : List Value) (w' : World), ys.length = xs.length → ERel k.w k.O e ys us → (∃ m os, w' = Go.Sort.grow (Go.Sort.putRow (id : Value → Value) (Go.Sort.ahead k.w m) B o us.toArray) os) →
        ∃ k', k'.w = w' ∧ k'.hp = hput k.hp n (.arr e ys) ∧ k'.nx = k.nx ∧ k'.μ = k.μ ∧ k'.U = k.U ∧ HRel N k' ∧ Ext k k' ∧ Below N k.w w' := by
  have hbr := hk.blk n _ hb
  unfold BRel at hbr
  rw [hm] at hbr
  obtain ⟨row, E, fz, g1, g2, g3, g4, g5, g6⟩ := hbr
  have hB : B < k.w.heap.size := heap_lt g1
  have g3' : xs.length ≤ cap := g3
  have hmul : xs.length * e.size ≤ cap * e.size := Nat.mul_le_mul_right _ g3'
  have hel := row_elems g3 g5 g6 (lo := 0) (len := xs.length) (by omega)
  simp only [List.drop_zero, List.take_length, Nat.zero_mul, Nat.add_zero] at hel
  refine ⟨part_ row o (xs.length * e.size), hel, ?_, hB, g3', fun ys us w' hl hys hT => ?_⟩
  · intro j hj
    have hj' : j < xs.length * e.size := by simpa [part_len (show o + xs.length * e.size ≤ row.size by omega)] using hj
    refine ⟨?_, ?_⟩
    · rw [cell_of_row k.w B (o + j) row E fz g1]
      have hpg := part_get (row := row) (o := o) (n := xs.length * e.size) hj'
      have hlen : j < (part_ row o (xs.length * e.size)).length := by rw [part_len (by omega)]; exact hj'
      rw [List.getElem?_eq_getElem hlen] at hpg
      rw [← hpg]
      simp [hlen]
    · have := g2 (o + j) (by omega)
      simp only [World.frozen?, g1]
      simpa using this
  obtain ⟨m, os, h8⟩ := hT
  have hul : us.length = xs.length * e.size := by rw [hys.1, hl]
  have hget : ∀ C, C < k.w.heap.size → w'.heap[C]? = (if C = B then some (.cells (Go.Sort.putCells (id : Value → Value) o us.toArray row) E fz) else k.w.heap[C]?) := by
    intro C hC
    rw [h8]
    simp only [Go.Sort.grow, Go.Sort.putRow, Go.Sort.mapBlock, Go.Sort.ahead]
    rw [Array.getElem?_append_left (by simpa using hC), Array.getElem?_modify]
    by_cases hCB : B = C
    · subst hCB
      rw [if_pos rfl, if_pos rfl, g1]
      rfl
    · rw [if_neg hCB, if_neg (Ne.symm hCB)]
  have hsize : k.w.heap.size ≤ w'.heap.size := by
    rw [h8]
    simp [Go.Sort.grow, Go.Sort.putRow, Go.Sort.mapBlock, Go.Sort.ahead]
  let w1 : World := k.w.setRow B (Go.Sort.putCells (id : Value → Value) o us.toArray row)
  have hw1 : ∀ C, w1.heap[C]? = (if C = B then some (.cells (Go.Sort.putCells (id : Value → Value) o us.toArray row) E fz) else k.w.heap[C]?) := by
    intro C
    by_cases hCB : C = B
    · subst hCB
      rw [if_pos rfl]
      exact setRow_heap k.w C row _ E fz g1
    · rw [if_neg hCB]
      exact setRow_other k.w B C _ hCB
  have hs1 : w1.heap.size = k.w.heap.size := setRow_size _ _ _
  have hW : Write k w1 n (.arr e xs) (.arr e ys) := by
    refine ⟨hb, ⟨rfl, hl.symm⟩, hs1, fun C hC => ?_⟩
    rw [hw1, if_neg]
    intro h
    subst h
    exact hC (by rw [hm]; rfl)
  have hx := hW.ext
  have hrow' : part_ (Go.Sort.putCells (id : Value → Value) o us.toArray row) o (ys.length * e.size) = us := by
    apply List.ext_getElem?
    intro j
    by_cases hj : j < us.length
    · rw [part_get (by rw [hl]; omega), putCells_getV us o row j hj (by omega), List.getElem?_eq_getElem hj]
    · have h9 : (part_ (Go.Sort.putCells (id : Value → Value) o us.toArray row) o (ys.length * e.size)).length ≤ j := by
        simp only [part_, List.length_take]
        rw [hl]
        omega
      rw [List.getElem?_eq_none h9, List.getElem?_eq_none (by omega)]
  have hbr1 : BRel (putK k w1 n (.arr e ys)) n (.arr e ys) := by
    have hμ : (putK k w1 n (.arr e ys)).μ n = .at_ B o cap := hm
    unfold BRel
    rw [hμ]
    refine ⟨Go.Sort.putCells (id : Value → Value) o us.toArray row, E, fz, ?_, ?_, ?_, g4, ?_, fun i hi => ?_⟩
    · show w1.heap[B]? = _
      rw [hw1, if_pos rfl]
    · intro j hj
      exact g2 j (by simpa [Go.Sort.putCells] using hj)
    · show ys.length ≤ cap
      rw [hl]; exact g3
    · simpa [Go.Sort.putCells] using g5
    · have := elems_row (hx.e hys) hrow'
      exact this i hi
  have hk1 := hW.hrel hk hbr1
  have hs2 : ∀ C, C < (putK k w1 n (.arr e ys)).w.heap.size → w'.heap[C]? = (putK k w1 n (.arr e ys)).w.heap[C]? := by
    intro C hC
    have hC' : C < k.w.heap.size := by
      have : C < w1.heap.size := hC
      omega
    rw [hget C hC']
    exact (hw1 C).symm
  have hz2 : (putK k w1 n (.arr e ys)).w.heap.size ≤ w'.heap.size := by
    show w1.heap.size ≤ _
    omega
  refine ⟨worldK (putK k w1 n (.arr e ys)) w', rfl, rfl, rfl, rfl, rfl, worldK_hrel hk1 hs2 hz2, hW.ext.trans (worldK_ext hs2 hz2), ?_⟩
  have hBN : N ≤ B := (hk.low B ⟨n, _, hb, by rw [hm]; rfl⟩).1
  refine ⟨by rw [h8]; rfl, by rw [h8]; rfl, by rw [h8]; rfl, hsize, fun C hC => ?_⟩
  rw [hget C (by omega), if_neg (by omega)]

/-! ### the elements as the shelf has them -/
theorem flatK_list {α : Type} [Inhabited α] {enc : α → List Value} {k : Nat} (hk : ∀ x, (enc x).length = k) (l : List α) : (flatK enc k l.toArray).toList = l.flatMap enc := by
  apply List.ext_getElem?
  intro t
  have hlen : ∀ l : List α, (l.flatMap enc).length = l.length * k := by
    intro l
    induction l with
    | nil => simp
    | cons x r ih => rw [List.flatMap_cons, List.length_append, ih, hk, List.length_cons, Nat.add_mul, Nat.one_mul, Nat.add_comm]
  by_cases ht : t < l.length * k
  · have h1 : t < (flatK enc k l.toArray).size := by simpa using ht
    have h2 := Go.Sort.get_flatK enc k l.toArray t (by simpa using ht)
    rw [getElem!_pos _ t h1] at h2
    have hk0 : 0 < k := by
      rcases Nat.eq_zero_or_pos k with h | h
      · subst h; simp at ht
      · exact h
    rw [List.getElem?_eq_getElem (by simpa using ht), Array.getElem_toList, h2]
    have hq : t / k < l.length := (Nat.div_lt_iff_lt_mul hk0).2 ht
    have hr := Nat.mod_lt t hk0
    have hdm : t / k * k + t % k = t := by rw [Nat.mul_comm]; exact Nat.div_add_mod t k
    have key : ∀ (l : List α) (q : Nat) (hq : q < l.length), (l.flatMap enc)[q * k + t % k]? = (enc l[q])[t % k]? := by
      intro l
      induction l with
      | nil => intro q hq; simp at hq
      | cons x r ih =>
        intro q hq
        cases q with
        | zero =>
          rw [List.flatMap_cons, Nat.zero_mul, Nat.zero_add, List.getElem?_append_left (by rw [hk]; exact hr)]
          rfl
        | succ q =>
          rw [List.flatMap_cons, List.getElem?_append_right (by rw [hk, Nat.add_mul]; omega), hk]
          have : (q + 1) * k + t % k - k = q * k + t % k := by rw [Nat.add_mul]; omega
          rw [this, ih q (by simpa using hq)]
          rfl
    have hkey := key l (t / k) hq
    rw [hdm] at hkey
    rw [hkey, List.getElem?_eq_getElem (by rw [hk]; exact hr)]
    congr 1
    rw [getElem!_pos _ (t / k) (by simpa using hq)]
    rw [getElem!_pos _ (t % k) (by simp [hk]; exact hr)]
    simp
  · rw [List.getElem?_eq_none (by simp; omega), List.getElem?_eq_none (by rw [hlen]; omega)]

theorem choose_pairs {α β : Type} {R : α → β → Prop} : ∀ (xs : List α), (∀ x ∈ xs, ∃ b, R x b) → ∃ L : List (α × β), L.map Prod.fst = xs ∧ ∀ p ∈ L, R p.1 p.2
  | [], _ => ⟨[], rfl, fun p h => by cases h⟩
  | x :: r, h => by
    obtain ⟨b, hb⟩ := h x (by simp)
    obtain ⟨L, h1, h2⟩ := choose_pairs r fun y hy => h y (by simp [hy])
    exact ⟨(x, b) :: L, by simp [h1], fun p hp => by
      rcases List.mem_cons.1 hp with rfl | hp
      · exact hb
      · exact h2 p hp⟩

/-- elements one by one -/
theorem erel_pairs {w : World} {O : Nat → Prop} {e : Ty} {α : Type} {enc : α → List Value} (hk : ∀ x, (enc x).length = e.size) : ∀ (L : List (e.den × α)), (∀ p ∈ L, VRel w O e p.1 (enc p.2)) → ERel w O e (L.map Prod.fst) ((L.map Prod.snd).flatMap enc) := by
  intro L
  induction L with
  | nil => intro _; exact ERel.nil _ _ _
  | cons p r ih =>
    intro h
    have h1 : ERel w O e [p.1] (enc p.2) := by
      refine ⟨by rw [hk]; simp, fun i hi => ?_⟩
      have : i = 0 := by simpa using hi
      subst this
      simp only [Nat.zero_mul, List.drop_zero]
      rw [List.take_of_length_le (by rw [hk]; exact Nat.le_refl _)]
      exact h p (by simp)
    have := h1.append (ih fun q hq => h q (by simp [hq]))
    simpa using this

/-- back: each element's cells -/
theorem erel_each {w : World} {O : Nat → Prop} {e : Ty} {α : Type} {enc : α → List Value} (hk : ∀ x, (enc x).length = e.size) {Key : e.den → α → Prop} (hdec : ∀ (x : e.den) (cs : List Value), VRel w O e x cs → ∃ a, enc a = cs ∧ Key x a) :
    ∀ (xs : List e.den) (us : List Value), ERel w O e xs us → ∃ L : List (e.den × α), L.map Prod.fst = xs ∧ (L.map Prod.snd).flatMap enc = us ∧ ∀ p ∈ L, VRel w O e p.1 (enc p.2) ∧ Key p.1 p.2 := by
  intro xs
  induction xs with
  | nil =>
    intro us h
    have : us = [] := List.eq_nil_of_length_eq_zero (by simpa using h.1)
    subst this
    exact ⟨[], rfl, rfl, fun p h => by cases h⟩
  | cons x r ih =>
    intro us h
    have hl := h.1
    simp only [List.length_cons, Nat.add_mul, Nat.one_mul] at hl
    have h0 := h.2 0 (by simp)
    simp only [Nat.zero_mul, List.drop_zero, List.getElem_cons_zero] at h0
    obtain ⟨a, ha1, ha2⟩ := hdec _ _ h0
    have hr : ERel w O e r (us.drop e.size) := by
      refine ⟨by rw [List.length_drop]; omega, fun i hi => ?_⟩
      have := h.2 (i + 1) (by simpa using hi)
      rw [List.drop_drop, show e.size + i * e.size = (i + 1) * e.size by rw [Nat.add_mul]; omega]
      simpa using this
    obtain ⟨L, q1, q2, q3⟩ := ih _ hr
    refine ⟨(x, a) :: L, by simp [q1], ?_, fun p hp => ?_⟩
    · simp only [List.map_cons, List.flatMap_cons, q2, ha1]
      exact List.take_append_drop _ _
    · rcases List.mem_cons.1 hp with rfl | hp
      · exact ⟨by rw [ha1]; exact h0, ha2⟩
      · exact q3 p hp

theorem sortFJ_sound {P : Program} {g0 g : FuncId} (he : Enters P g0) {e : Ty} (hz : 0 < e.size) {lt : e.den → e.den → Bool} (hlt : LtOK lt) {α : Type} [Inhabited α] {enc : α → List Value} (hk : ∀ x, (enc x).length = e.size) {ltA : α → α → Bool} (Key : e.den → α → Prop)
    (hdec : ∀ (w : World) (O : Nat → Prop) (x : e.den) (cs : List Value), VRel w O e x cs → ∃ a, enc a = cs ∧ Key x a) (hkey : ∀ x y a b, Key x a → Key y b → ltA a b = lt x y)
    (c1 : ∀ (p : Option Addr) (cap : Nat) (fv : Value) (w : World), Calls P g0 #[.slice p 0 cap, fv] w fun x w' => x = .returned (.tuple #[]) ∧ w' = w)
    (c2 : ∀ (blk off cap : Nat) (d : Array α) (w : World), HoldsK enc e.size w blk off d → blk < w.heap.size → d.size < 4611686018427387904 → Calls P g0 #[.slice (some ⟨blk, off, none⟩) d.size cap, .func (.func g) #[] #[]] w fun x w' =>
      x = .returned (.tuple #[]) ∧ ∃ d' n os, PermIn 0 d.size d d' ∧ SortedIn ltA 0 d.size d' ∧ w' = sortWorldK enc e.size w blk off n d' os) : SoundIn P g0 (sortFJ e g lt) where
  enters := he
  calls := by
    intro N k avs vs v hp' nx' hk' hN hr hu hj
    simp only [sortFJ] at hj
    split at hj
    · rename_i n e' g'
      split at hj
      · rename_i hee
        obtain ⟨hee, hgg⟩ := hee
        subst hee; subst hgg
        cases hxs : arrAs e' (hget k.hp n) with
        | none => rw [hxs] at hj; cases hj
        | some xs =>
          rw [hxs] at hj
          simp only [gate] at hj
          split at hj
          · rename_i hg
            simp only [Bool.and_eq_true, decide_eq_true_eq] at hg
            obtain ⟨hlen, hap⟩ := hg
            simp only [Option.some.injEq, Prod.mk.injEq] at hj
            obtain ⟨rfl, rfl, rfl⟩ := hj
            have hbl := arrAs_eq hxs
            obtain ⟨u, r, e1, h1, u2, r2, e2, h2, e3⟩ := hr
            have e3 : r2 = [] := e3
            subst e3; subst e2
            have hvs : vs = #[u, u2] := by
              apply Array.ext'
              rw [e1]
            subst hvs
            have h1 : CRel k (.own n e') u := by
              rcases h1 with h1 | h1
              · cases h1
              · exact h1
            have h2 : u2 = .func (.func g') #[] #[] := by
              rcases h2 with h2 | h2
              · cases h2
              · obtain ⟨cvs, q1, q2, _⟩ := h2
                have : cvs = #[] := Array.eq_empty_of_size_eq_zero (by simpa using q2.symm)
                rw [q1, this]
            subst h2
            have hh := h1.2 xs hbl
            have hU : k.U n := h1.1.1
            have hbr := hk'.blk n _ hbl
            have same_ : ∀ (a : Option Addr) (c : Nat), u = .slice a 0 c → xs = [] → Calls P g0 #[u, .func (.func g') #[] #[]] k.w fun e w' => ∃ u k', e = .returned u ∧ k'.w = w' ∧ k'.hp = hput k.hp n (.arr e' (sortBy lt xs)) ∧ k'.nx = k.nx ∧ HRel N k' ∧ Ext k k' ∧ Below N k.w k'.w ∧ ARel k' (.tup []) u ∧ ∀ n, k'.U n → n < k'.nx := by
              intro a c hu' hxs
              subst hxs
              rw [hu', show sortBy lt ([] : List e'.den) = [] by simp [sortBy]]
              refine (c1 a c _ k.w).mono fun e w' ⟨h5, h6⟩ => ?_
              subst h6
              have hW : Write k k.w n (.arr e' []) (.arr e' []) := ⟨hbl, ⟨rfl, rfl⟩, rfl, fun _ _ => rfl⟩
              exact ⟨_, putK k k.w n (.arr e' []), h5, rfl, rfl, rfl, hW.hrel hk' (BRel.move hW.ext rfl (fun _ _ => rfl) hbr), hW.ext, ⟨rfl, rfl, rfl, Nat.le_refl _, fun _ _ => rfl⟩, ⟨#[], rfl, rfl⟩, hu⟩
            unfold BRel at hbr
            cases hm : k.μ n with
            | none =>
              rw [hm] at hh hbr
              obtain ⟨a, h3, h4, _⟩ := hh
              exact same_ a 0 h3 hbr
            | at_ B o cap =>
              rw [hm] at hh
              obtain ⟨a, c, h3, h4, h5, h6⟩ := hh
              by_cases hx : xs = []
              · exact same_ a c (by rw [h3, hx]; rfl) hx
              · have hpos : 0 < xs.length := List.length_pos_iff.2 hx
                have ha : a = some ⟨B, o, none⟩ := by
                  rcases h6 with h6 | h6
                  · simpa using h6
                  · omega
                obtain ⟨us0, q1, q2, q3, q4, turn⟩ := turnedV_rel hk' hN hz hbl hm
                obtain ⟨L, l1, l2, l3⟩ := erel_each hk (hdec k.w k.O) xs us0 q1
                have hLl : L.length = xs.length := by rw [← l1, List.length_map]
                let d : Array α := (L.map Prod.snd).toArray
                have hds : d.size = xs.length := by simp [d, hLl]
                have hH : HoldsK enc e'.size k.w B o d := by
                  show Go.Sort.Holds id k.w B o (flatK enc e'.size d)
                  have : flatK enc e'.size d = us0.toArray := by
                    apply Array.ext'
                    rw [flatK_list hk, l2]
                  rw [this]
                  exact q2
                rw [h3, ha, ← hds]
                refine (c2 B o c d k.w hH q3 (by rw [hds]; exact hlen)).mono fun x w' ⟨h7, d', m, os, h8, h9, h10⟩ => ?_
                obtain ⟨p1, _, p3⟩ := h8
                have hperm : d'.toList.Perm (L.map Prod.snd) := by
                  have e1 : (d'.extract 0 d.size) = d' := by rw [← p1]; simp
                  have e2 : (d.extract 0 d.size) = d := by simp
                  rw [e1, e2] at p3
                  exact p3
                obtain ⟨L', r1, r2⟩ := perm_lift hperm L rfl
                have hin : ∀ p ∈ L', VRel k.w k.O e' p.1 (enc p.2) ∧ Key p.1 p.2 := fun p hp => l3 p (r1.mem_iff.1 hp)
                have hys : ERel k.w k.O e' (L'.map Prod.fst) ((L'.map Prod.snd).flatMap enc) := erel_pairs hk L' fun p hp => (hin p hp).1
                have hpf : (L'.map Prod.fst).Perm xs := by rw [← l1]; exact r1.map _
                have hL'l : L'.length = d.size := by rw [hds, ← hLl]; exact r1.length_eq
                have hsorted : (L'.map Prod.fst).Pairwise fun x y => lt y x = false := by
                  rw [List.pairwise_iff_getElem]
                  intro i j hi hj hij
                  rw [List.length_map] at hi hj
                  have hd' : ∀ t (ht : t < L'.length), d'[t]! = (L'[t]).2 := by
                    intro t ht
                    have ht2 : t < d'.size := by rw [p1, ← hL'l]; exact ht
                    rw [getElem!_pos _ t ht2]
                    have : d'.toList[t]'(by simpa using ht2) = (L'.map Prod.snd)[t]'(by simpa using ht) := by simp [r2]
                    simpa using this
                  have := h9 i j (Nat.zero_le _) hij (by omega)
                  rw [hd' j hj, hd' i hi, hkey _ _ _ _ (hin _ (List.getElem_mem hj)).2 (hin _ (List.getElem_mem hi)).2] at this
                  simpa using this
                have huniq := sortBy_unique hlt hap hpf hsorted
                obtain ⟨k', s1, s2, s3, s4, s5, s6, s7, s8⟩ := turn (L'.map Prod.fst) ((L'.map Prod.snd).flatMap enc) w' hpf.length_eq hys ⟨m, os, by
                  rw [h10]
                  show Go.Sort.grow (Go.Sort.putRow id (Go.Sort.ahead k.w m) B o (flatK enc e'.size d')) os = _
                  congr 2
                  apply Array.ext'
                  have := flatK_list hk d'.toList
                  rw [r2]
                  simpa using this⟩
                rw [huniq] at s2
                refine ⟨_, k', h7, s1, s2, s3, s6, s7, by rw [s1]; exact s8, ⟨#[], rfl, rfl⟩, fun n hn => ?_⟩
                rw [s5] at hn
                rw [s3]
                exact hu n hn
          · cases hj
      · cases hj
    · rename_i g'
      simp only [Option.some.injEq, Prod.mk.injEq] at hj
      obtain ⟨rfl, rfl, rfl⟩ := hj
      obtain ⟨u, r, e1, h1, u2, r2, e2, h2, e3⟩ := hr
      have e3 : r2 = [] := e3
      subst e3; subst e2
      have hvs : vs = #[u, u2] := by
        apply Array.ext'
        rw [e1]
      subst hvs
      have h1 : u = .slice none 0 0 := by
        rcases h1 with h1 | h1
        · cases h1
        · exact h1
      subst h1
      refine (c1 none 0 u2 k.w).mono fun e w' ⟨h5, h6⟩ => ?_
      subst h6
      exact ⟨_, k, h5, rfl, rfl, rfl, hk', Ext.refl k, ⟨rfl, rfl, rfl, Nat.le_refl _, fun _ _ => rfl⟩, ⟨#[], rfl, rfl⟩, hu⟩
    · cases hj

end Go.Ab
