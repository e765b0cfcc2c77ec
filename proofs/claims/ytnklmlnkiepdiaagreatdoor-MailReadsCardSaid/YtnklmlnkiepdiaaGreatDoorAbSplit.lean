/-
  strings.genSplit AT A SEPARATOR OF ONE BYTE: a function of pure data. The contract is the shelf's.
-/
import Derived.Test.YtnklmlnkiepdiaaGreatDoorAbFun
import Derived.Test.YtnklmlnkiepdiaaGreatDoorAbStrFn
import Derived.Shelf.Strings.SplitCore
import Derived.Shelf.Strings.Count
import Derived.Shelf.Strings.Search3
import Derived.Lib.SplitLaws
set_option linter.unusedVariables false
set_option linter.unusedSectionVars false
set_option linter.unusedSimpArgs false
namespace Go.Ab
variable [Tabs]
open Go.RowKit (Below)

/-! ### functions by a contract, in general -/
theorem prel_val {k : Kx} {t : Ty} {x : t.den} {v : Value} (h : PRel k false [.val t x] v) : VRel k.w k.O t x [v] := by
  obtain ⟨c, e, h⟩ := h
  simp only [List.cons.injEq, and_true] at e
  subst e
  rcases h with h | h
  · cases h
  · exact h.1

theorem one_val {k : Kx} {t : Ty} {x : t.den} {vs : List Value} (h : PRels k [(false, [.val t x])] vs) : ∃ v, vs = [v] ∧ VRel k.w k.O t x [v] := by
  obtain ⟨v, r, e, h1, h2⟩ := h
  have h2 : r = [] := h2
  subst h2
  exact ⟨v, e, prel_val h1⟩

theorem below_hrel {w w' : World} {X : Nat → Prop} (hX : XOK w.heap.size X w) (hb : Below w.heap.size w w') (μ : Nat → Loc) (nx : Nat) : HRel w.heap.size ⟨w', [], μ, nx, X, fun q => q < nx⟩ :=
  ⟨fun n b h => by simp [hget] at h, fun n m b c B h => by simp [hget] at h, fun B hB => by obtain ⟨n, b, h, _⟩ := hB; simp [hget] at h, ⟨fun B hB => (hX.1 B hB).same (hb.block B (hX.1 B hB).lt), Tabs.mono (fun B row E fz hB h => (hb.block B (Nat.lt_of_lt_of_le hB hX.2.2.2)).trans h) hX.2.1, hX.2.2.1, Nat.le_trans hX.2.2.2 hb.size⟩, fun B _ hB => by obtain ⟨n, b, h, _⟩ := hB; simp [hget] at h, fun n b h => by simp [hget] at h⟩

/-- A function whose result is one value that leads nowhere; it may look at the tables. -/
theorem sound_plainT {P : Program} {g : FuncId} {arg res : Ty} {args : List (Bool × Nat)} {f : arg.den → Option res.den} (he : Enters P g) (hr : res.isAgg = false)
    (hc : ∀ (w : World) (X : Nat → Prop) (x : arg.den) (r : res.den) (vs : Array Value), Tabs.p w → PRels (noneK w 0 X) (deal args (flat arg x)) vs.toList → f x = some r → Calls P g vs w fun e w' => ∃ v, e = .returned v ∧ Below w.heap.size w w' ∧ ∀ O, VRel w' O res r [v]) :
    Sound P g ⟨arg, res, args, [(false, 1)], [], f⟩ where
  enters := he
  calls := by
    intro w X nx x r vs hX hargs hf
    refine (hc w X x r vs hX.2.1 hargs hf).mono fun e w' ⟨v, h1, h2, h3⟩ => ?_
    have hflat : flat res r = [.val res r] := by cases res <;> first | rfl | (simp [Ty.isAgg] at hr)
    have hown : ownize [] 0 nx (flat res r) = ([.val res r], [], 0) := by rw [hflat]; rfl
    refine ⟨v, fun _ => .none, h1, h2, ?_, ?_⟩
    · show HRel _ ⟨w', acts [] (ownize [] 0 nx (flat res r)).2.1, _, nx + (ownize [] 0 nx (flat res r)).2.2, X, fun q => q < nx + (ownize [] 0 nx (flat res r)).2.2⟩
      rw [hown]
      exact below_hrel hX h2 _ _
    · show ARel ⟨w', acts [] (ownize [] 0 nx (flat res r)).2.1, _, nx + (ownize [] 0 nx (flat res r)).2.2, X, fun q => q < nx + (ownize [] 0 nx (flat res r)).2.2⟩ (mkRes [(false, 1)] (ownize [] 0 nx (flat res r)).1) v
      rw [hown]
      exact Or.inr (h3 _)

/-- A function whose result is one value that leads nowhere. -/
theorem sound_plain {P : Program} {g : FuncId} {arg res : Ty} {args : List (Bool × Nat)} {f : arg.den → Option res.den} (he : Enters P g) (hr : res.isAgg = false)
    (hc : ∀ (w : World) (X : Nat → Prop) (x : arg.den) (r : res.den) (vs : Array Value), PRels (noneK w 0 X) (deal args (flat arg x)) vs.toList → f x = some r → Calls P g vs w fun e w' => ∃ v, e = .returned v ∧ Below w.heap.size w w' ∧ ∀ O, VRel w' O res r [v]) :
    Sound P g ⟨arg, res, args, [(false, 1)], [], f⟩ := sound_plainT he hr fun w X x r vs _ => hc w X x r vs

/-- A function whose result is a new slice. -/
theorem sound_slice {P : Program} {g : FuncId} {arg e : Ty} {args : List (Bool × Nat)} {f : arg.den → Option (List e.den)} (he : Enters P g) (hflat : e.flatOnly = true) (htag : ∀ E, tagOf e E = E)
    (hc : ∀ (w : World) (X : Nat → Prop) (x : arg.den) (r : List e.den) (vs : Array Value), PRels (noneK w 0 X) (deal args (flat arg x)) vs.toList → f x = some r → Calls P g vs w fun en w' => ∃ B cap row E, en = .returned (.slice (some ⟨B, 0, none⟩) r.length cap) ∧ Below w.heap.size w w' ∧
      w.heap.size ≤ B ∧ w'.heap[B]? = some (.cells row E (0, 0)) ∧ r.length ≤ cap ∧ cap ≤ MAXL ∧ cap * e.size ≤ row.size ∧ ∀ O i (h : i < r.length), VRel w' O e r[i] (part_ row (0 + i * e.size) e.size)) :
    Sound P g ⟨arg, .slice e, args, [(false, 1)], [0], f⟩ where
  enters := he
  calls := by
    intro w X nx x r vs hX hargs hf
    refine (hc w X x r vs hargs hf).mono fun en w' ⟨B, cap, row, E, h1, h2, h3, h4, h5, h6, h7, h8⟩ => ?_
    let k : Kx := ⟨w, [], fun _ => .none, nx, X, fun n => n < nx⟩
    have hk : HRel w.heap.size k := below_hrel hX (Below.refl _ _) _ _
    have hBlt : B < w'.heap.size := heap_lt h4
    have hnn : NewName w.heap.size k w' none (.at_ B 0 cap) :=
      ⟨Nat.le_refl _, h2.size, fun C hC _ => h2.block C hC, fun n hn => (by cases hn), fun C hC => by
        simp only [Loc.block, Option.some.injEq] at hC
        subst hC
        exact Or.inl ⟨h3, hBlt⟩⟩
    have hbr : BRel (newK k w' none (.at_ B 0 cap) (.arr e r)) k.nx (.arr e r) := by
      have hμ : (newK k w' none (.at_ B 0 cap) (.arr e r)).μ k.nx = .at_ B 0 cap := upd_same _ _ _
      unfold BRel
      rw [hμ]
      exact ⟨row, E, (0, 0), by rw [htag]; exact h4, unfrozen0 row, h5, h6, by simpa using h7, fun i hi => h8 _ i hi⟩
    have hH := hnn.hrel hk (fun h => Nat.lt_irrefl _ h) _ hbr
    have hU : (fun n => n < nx ∨ n = nx) = fun q => q < nx + 1 := by
      funext n
      apply propext
      omega
    have hkk : newK k w' none (.at_ B 0 cap) (.arr e r) = ⟨w', [(nx, .arr e r)], upd (fun _ => .none) nx (.at_ B 0 cap), nx + 1, X, fun q => q < nx + 1⟩ := by
      show (⟨w', hput [] nx (.arr e r), upd (fun _ => .none) nx (.at_ B 0 cap), nx + 1, X, fun n => n < nx ∨ n = nx⟩ : Kx) = _
      rw [hU]
      rfl
    rw [hkk] at hH
    refine ⟨_, upd (fun _ => .none) nx (.at_ B 0 cap), h1, h2, hH, Or.inr ⟨⟨by show nx < nx + 1; omega, rfl⟩, fun xs hxs => ?_⟩⟩
    have hxs : (if nx = nx then some (Blk.arr e r) else none) = some (.arr e xs) := hxs
    rw [if_pos rfl] at hxs
    simp only [Option.some.injEq, Blk.arr.injEq, true_and] at hxs
    have hxs := eq_of_heq hxs
    subst hxs
    show Hdr (upd (fun _ => .none) nx (.at_ B 0 cap) nx) e 0 (List.length r) _
    rw [upd_same]
    exact ⟨_, cap, rfl, h5, by omega, Or.inl (by simp)⟩

/-! ### bytes -/
theorem bytesOf_len' (s : ByteArray) : (bytesOf s).length = s.size := by simp [bytesOf]
theorem bytesOf_map (s : ByteArray) : bytesOf s = s.data.toList.map fun b => (b.toNat : Int) := rfl
theorem toNat_inj {a b : UInt8} : (a.toNat : Int) = (b.toNat : Int) ↔ a = b := by
  constructor
  · intro h
    exact UInt8.toNat_inj.1 (by omega)
  · intro h; rw [h]
theorem one_of {ba : ByteArray} {c : Int} (h : [c] = bytesOf ba) : ∃ u : UInt8, ba = ⟨#[u]⟩ ∧ c = (u.toNat : Int) := by
  obtain ⟨⟨l⟩⟩ := ba
  have h : [c] = l.map fun b => (b.toNat : Int) := h
  match l, h with
  | [u], h => simp only [List.map_cons, List.map_nil, List.cons.injEq, and_true] at h; exact ⟨u, rfl, h⟩

/-! ### cutting -/
def splitU (c : UInt8) : List UInt8 → List (List UInt8)
  | [] => [[]]
  | x :: r => if x = c then [] :: splitU c r else
    match splitU c r with
    | h :: t => (x :: h) :: t
    | [] => [[x]]

theorem splitU_ne (c : UInt8) : ∀ l, splitU c l ≠ [] := by
  intro l
  cases l with
  | nil => simp [splitU]
  | cons x r =>
    simp only [splitU]
    split
    · simp
    · split <;> simp

theorem splitI_map (c : UInt8) : ∀ l : List UInt8, splitI (c.toNat : Int) (l.map fun b => (b.toNat : Int)) = (splitU c l).map fun p => p.map fun b => (b.toNat : Int) := by
  intro l
  induction l with
  | nil => rfl
  | cons x r ih =>
    simp only [List.map_cons, splitI, splitU, toNat_inj, ih]
    by_cases h : x = c
    · rw [if_pos h, if_pos h]; rfl
    · rw [if_neg h, if_neg h]
      cases hs : splitU c r with
      | nil => exact absurd hs (splitU_ne c r)
      | cons a t => rfl

theorem splitU_none (c : UInt8) : ∀ l : List UInt8, l.count c = 0 → splitU c l = [l] := by
  intro l
  induction l with
  | nil => intro _; rfl
  | cons x r ih =>
    intro h
    rw [List.count_cons] at h
    have hx : ¬ x = c := by
      intro e
      rw [if_pos (by simpa using e)] at h
      omega
    have hr : r.count c = 0 := by omega
    simp only [splitU]
    rw [if_neg hx, ih hr]

theorem splitK_one (c : UInt8) : ∀ (l : List UInt8) (k : Nat), l.count c = k → Go.Lib.splitK [c] 0 k l = splitU c l := by
  intro l
  induction l with
  | nil =>
    intro k hk
    simp at hk
    subst hk
    rfl
  | cons x r ih =>
    intro k hk
    by_cases hx : x = c
    · subst hx
      rw [List.count_cons_self] at hk
      subst hk
      have hi : Go.Lib.index (x :: r) [x] = 0 := by
        rw [Go.Lib.index_one]; simp [Go.Lib.indexByte]
      unfold Go.Lib.splitK
      rw [if_neg (by rw [hi]; decide), hi]
      simp only [Int.toNat_zero, Nat.zero_add, List.take_zero, List.length_singleton, List.drop_succ_cons, List.drop_zero, splitU, if_true]
      rw [ih _ rfl]
    · rw [List.count_cons_of_ne hx] at hk
      cases k with
      | zero =>
        rw [splitU_none c (x :: r) (by rw [List.count_cons_of_ne hx]; exact hk)]
        rfl
      | succ k =>
        have hr := ih (k + 1) hk
        have hi : Go.Lib.index (x :: r) [c] = if Go.Lib.indexByte r c = -1 then -1 else Go.Lib.indexByte r c + 1 := by
          rw [Go.Lib.index_one]
          simp only [Go.Lib.indexByte]
          rw [if_neg (by simpa using hx)]
          by_cases h1 : Go.Lib.indexByte r c = -1
          · rw [if_pos (by simpa using h1), if_pos h1]
          · rw [if_neg (by simpa using h1), if_neg h1]
        have hin : ¬ Go.Lib.indexByte r c = -1 := by
          intro h1
          have h2 := Go.Lib.indexByte_none h1
          have h3 : c ∈ r := List.count_pos_iff.1 (by omega)
          obtain ⟨j, hj, e⟩ := List.getElem_of_mem h3
          exact h2 j (by rw [List.getElem?_eq_getElem hj, e])
        have hge := Go.Lib.indexByte_ge r c
        obtain ⟨i, hi2⟩ : ∃ i : Nat, Go.Lib.indexByte r c = (i : Int) := ⟨(Go.Lib.indexByte r c).toNat, by omega⟩
        rw [if_neg hin] at hi
        -- the rest's first cut, one further
        have e1 : Go.Lib.splitK [c] 0 (k + 1) r = r.take i :: Go.Lib.splitK [c] 0 k (r.drop (i + 1)) := by
          conv => lhs; unfold Go.Lib.splitK
          have hri : Go.Lib.index r [c] = (i : Int) := by rw [Go.Lib.index_one]; exact hi2
          rw [if_neg (by rw [hri]; simp), hri]
          simp
        have e2 : Go.Lib.splitK [c] 0 (k + 1) (x :: r) = (x :: r.take i) :: Go.Lib.splitK [c] 0 k (r.drop (i + 1)) := by
          conv => lhs; unfold Go.Lib.splitK
          rw [hi, hi2]
          rw [if_neg (by simp; omega)]
          have : ((i : Int) + 1).toNat = i + 1 := by omega
          rw [this]
          simp
        rw [e2]
        rw [e1] at hr
        simp only [splitU]
        rw [if_neg hx, ← hr]

theorem splitB_one (c : UInt8) (s : ByteArray) : (Go.Lib.splitB ⟨#[c]⟩ 0 (Go.Lib.countB s ⟨#[c]⟩) s).map bytesOf = splitI (c.toNat : Int) (bytesOf s) := by
  have h1 := Go.Lib.splitB_data ⟨#[c]⟩ 0 (Go.Lib.countB s ⟨#[c]⟩) s
  have h2 : Go.Lib.countB s ⟨#[c]⟩ = s.data.toList.count c := Go.Lib.count_one c s.data.toList
  have h3 := splitK_one c s.data.toList _ rfl
  rw [← h2] at h3
  have h4 : (Go.Lib.splitB ⟨#[c]⟩ 0 (Go.Lib.countB s ⟨#[c]⟩) s).map (fun x => x.data.toList) = splitU c s.data.toList := by rw [h1]; exact h3
  rw [bytesOf_map, splitI_map, ← h4, List.map_map]
  rfl

theorem splitI_len (c : Int) : ∀ l : List Int, (splitI c l).length ≤ l.length + 1 ∧ ∀ p ∈ splitI c l, p.length ≤ l.length := by
  intro l
  induction l with
  | nil => simp [splitI]
  | cons x r ih =>
    simp only [splitI]
    obtain ⟨h1, h2⟩ := ih
    split
    · refine ⟨by simp; omega, fun p hp => ?_⟩
      rcases List.mem_cons.1 hp with hp | hp
      · subst hp; simp
      · have := h2 p hp; simp; omega
    · split
      · rename_i a t hs
        rw [hs] at h1 h2
        refine ⟨by simp at h1 ⊢; omega, fun p hp => ?_⟩
        rcases List.mem_cons.1 hp with hp | hp
        · subst hp
          have := h2 a (by simp)
          simp; omega
        · have := h2 p (by simp [hp])
          simp; omega
      · exact ⟨by simp, fun p hp => by simp at hp; subst hp; simp⟩

def splitT : TFun := { arg := .pair .str (.pair .str (.pair (.int .i64) (.int .i64))), res := .slice .str, args := [(false, 1), (false, 1), (false, 1), (false, 1)], parts := [(false, 1)], own := [0], f := fun a => genSplitF a.1 a.2.1 a.2.2.1 a.2.2.2 }

open Go.Shelf Go.Proofs in
theorem genSplit_sound {P : Program} {ρ : Go.Shelf.Ren} (he : Enters P (ρ.f 221)) (L : Lays.n221 P ρ) (hi9 : (P.info? (ρ.t 9)).map (fun i => (i.zero, i.size, i.bytes)) = some (some (.string ByteArray.empty), 1, 16)) : Sound P (ρ.f 221) splitT := by
  refine sound_slice he rfl (fun _ => rfl) fun w X x r vs hargs hf => ?_
  obtain ⟨s, sep, sv, n⟩ := x
  obtain ⟨v1, q1, e1, h1, hargs⟩ := hargs
  obtain ⟨v2, q2, e2, h2, hargs⟩ := hargs
  obtain ⟨v3, q3, e3, h3, hargs⟩ := hargs
  obtain ⟨v4, q4, e4, h4, hargs⟩ := hargs
  have hargs : q4 = [] := hargs
  subst hargs; subst e4; subst e3; subst e2
  obtain ⟨bs, g1, g2, g3⟩ := prel_val h1
  obtain ⟨bp, g4, g5, g6⟩ := prel_val h2
  obtain ⟨g7, _⟩ := prel_val h3
  obtain ⟨g8, _⟩ := prel_val h4
  simp only [List.cons.injEq, and_true] at g1 g4 g7 g8
  subst g1; subst g4; subst g7; subst g8
  have g2 : s = bytesOf bs := g2
  have g5 : sep = bytesOf bp := g5
  simp only [genSplitF] at hf
  split at hf
  · rename_i c
    split at hf
    · rename_i hg
      obtain ⟨hsv, hn, hsz⟩ := hg
      subst hsv; subst hn
      simp only [Option.some.injEq] at hf
      subst hf
      obtain ⟨u, e5, e6⟩ := one_of g5
      subst e5
      subst g2
      rw [bytesOf_len'] at hsz
      have hcount : Go.Lib.countB bs ⟨#[u]⟩ = bs.data.toList.count u := Go.Lib.count_one u bs.data.toList
      have hcl := Go.Lib.countB_le ⟨#[u]⟩ (Nat.le_refl 1) bs.size bs (Nat.le_refl _)
      have hvs : vs = #[.string bs, .string ⟨#[u]⟩, .int .i64 ((0 : Nat) : Int), .int .i64 (-1)] := by
        apply Array.ext'
        rw [e1]
        rfl
      have hcall := Any.strings_genSplit_core L hi9 bs ⟨#[u]⟩ 0 (-1) (Go.Lib.countB bs ⟨#[u]⟩ + 1) w hsz (Nat.le_refl 1) (Nat.zero_le _)
        (fun y c _ => (Any.strings_Index_one { L with } y u _).mono fun e w' ⟨h, h'⟩ => ⟨by rw [h]; congr 2; exact (Go.Lib.index_one y.data.toList u).symm, h'⟩)
        ((Any.strings_Count_one { L with } bs u w).mono fun e w' ⟨h, h'⟩ => ⟨by rw [h, hcount]; rfl, h'⟩)
        (by decide) (by decide) (by rw [if_pos (by decide)]; omega)
      rw [hvs]
      have hlen := Go.Lib.splitB_all ⟨#[u]⟩ (Nat.le_refl 1) 0 _ bs rfl
      refine hcall.mono fun en w' ⟨k1, k2⟩ => ?_
      rw [Nat.add_sub_cancel] at k1 k2
      have hmap := splitB_one u bs
      have hrl : (splitI (u.toNat : Int) (bytesOf bs)).length = Go.Lib.countB bs ⟨#[u]⟩ + 1 := by
        rw [← hmap, List.length_map, hlen]
      obtain ⟨pl, hpl⟩ : ∃ pl, pl = Go.Lib.splitB ⟨#[u]⟩ 0 (Go.Lib.countB bs ⟨#[u]⟩) bs := ⟨_, rfl⟩
      rw [← hpl] at k1 k2 hlen hmap
      have hcells : Go.Lib.cellsOf pl (Go.Lib.countB bs ⟨#[u]⟩ + 1) = (pl.map Value.string).toArray := by
        rw [← hlen]; exact Go.Lib.cellsOf_full _
      rw [hcells] at k2
      rw [e6]
      refine ⟨w.heap.size, Go.Lib.countB bs ⟨#[u]⟩ + 1, (pl.map Value.string).toArray, ρ.t 9, by rw [k1, hrl, hlen], ?_, Nat.le_refl _, ?_, by rw [hrl]; exact Nat.le_refl _, by show _ ≤ 9223372036854775807; omega, by simp [Ty.size, hlen], fun O i hi => ?_⟩
      · rw [k2]
        refine ⟨rfl, rfl, rfl, by show w.heap.size ≤ (w.heap.push _).size; rw [Array.size_push]; omega, fun C hC => ?_⟩
        show (w.heap.push _)[C]? = _
        rw [Array.getElem?_push, if_neg (by omega)]
      · rw [k2]
        show (w.heap.push _)[w.heap.size]? = _
        simp
      · have hi2 : i < pl.length := by rw [hlen, ← hrl]; exact hi
        have e7 : (splitI (u.toNat : Int) (bytesOf bs))[i] = bytesOf pl[i] := by
          have : (splitI (u.toNat : Int) (bytesOf bs))[i]? = (pl.map bytesOf)[i]? := by rw [hmap]
          rw [List.getElem?_eq_getElem hi, List.getElem?_map, List.getElem?_eq_getElem hi2] at this
          exact Option.some.inj this
        have hsmall := (splitI_len (u.toNat : Int) (bytesOf bs)).2 _ (List.getElem_mem hi)
        rw [e7, bytesOf_len', bytesOf_len'] at hsmall
        refine ⟨pl[i], ?_, e7, by show _ ≤ 9223372036854775807; omega⟩
        simp only [Ty.size, Nat.mul_one, Nat.zero_add]
        apply List.ext_getElem?
        intro j
        cases j with
        | zero => rw [part_get (by omega)]; simp [hi2]
        | succ j =>
          have : (part_ (pl.map Value.string).toArray i 1)[j + 1]? = none := by simp [part_]; omega
          rw [this]; rfl
    · cases hf
  · cases hf

end Go.Ab
