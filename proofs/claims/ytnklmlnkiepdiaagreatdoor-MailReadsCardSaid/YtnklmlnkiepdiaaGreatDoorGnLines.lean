/- THE ITERATOR OF strings.Lines has its contract: it writes its own variable, the text that is left. -/
import Derived.Test.YtnklmlnkiepdiaaGreatDoorGnEnv
import Derived.Test.YtnklmlnkiepdiaaGreatDoorLays
import Derived.Test.YtnklmlnkiepdiaaGreatDoorAbIterFn
import Derived.Test.YtnklmlnkiepdiaaGreatDoorAbStrs
import Derived.RangeFuncBox
import Derived.RangeFuncLeaves
import Derived.Shelf.Abstract
import Derived.Shelf.Small.Strs
import Derived.WalkKit
import Derived.OwnWalkIn
import Derived.TacticsInMore
import Derived.LoopNIn
import Derived.LoopIn
import Derived.Lib.Hide
import Derived.Sort.QuietIn
set_option linter.unusedVariables false
namespace Go.Proofs.YtnklmlnkiepdiaaGreatDoor
open Go Go.Ab Go.RowKit Go.Shelf
attribute [local go_sem] Oper.semAt_some

/-- the lines of a text, as texts -/
def linesB (s : ByteArray) : List ByteArray := (linesI (bytesOf s)).map fun l => strOfNums l

theorem linesB_nil {s : ByteArray} (h : s.size = 0) : linesB s = [] := by
  have : bytesOf s = [] := List.eq_nil_of_length_eq_zero (by rw [bytesOf_len]; exact h)
  simp [linesB, this, linesI]

theorem linesI_cut : ∀ (l : List UInt8), l ≠ [] → linesI (l.map fun b => (b.toNat : Int)) = (if Go.Lib.indexByte l 10 < 0 then [l.map fun b => (b.toNat : Int)] else
    ((l.take ((Go.Lib.indexByte l 10).toNat + 1)).map fun b => (b.toNat : Int)) :: linesI ((l.drop ((Go.Lib.indexByte l 10).toNat + 1)).map fun b => (b.toNat : Int))) := by
  intro l
  induction l with
  | nil => intro h; exact absurd rfl h
  | cons x r ih =>
    intro _
    by_cases hx : x = 10
    · subst hx
      have hi : Go.Lib.indexByte ((10 : UInt8) :: r) 10 = 0 := by simp [Go.Lib.indexByte]
      rw [hi, if_neg (by omega)]
      simp [linesI]
    · have hxi : ¬ ((x.toNat : Int) = 10) := fun e => hx (UInt8.toNat_inj.1 (by have : (10 : UInt8).toNat = 10 := rfl; omega))
      have hi : Go.Lib.indexByte (x :: r) 10 = if Go.Lib.indexByte r 10 = -1 then -1 else Go.Lib.indexByte r 10 + 1 := by simp [Go.Lib.indexByte, hx]
      by_cases hr : r = []
      · subst hr
        rw [hi]
        simp [linesI, hxi, Go.Lib.indexByte]
      · have hge := Go.Lib.indexByte_ge r 10
        simp only [List.map_cons, linesI, if_neg hxi]
        rw [ih hr, hi]
        by_cases hn : Go.Lib.indexByte r 10 = -1
        · rw [if_pos (by omega), if_pos hn, if_pos (by omega)]
        · rw [if_neg (by omega), if_neg hn, if_neg (by omega)]
          obtain ⟨i, hi⟩ : ∃ i : Nat, Go.Lib.indexByte r 10 = i := ⟨(Go.Lib.indexByte r 10).toNat, by omega⟩
          rw [hi]
          have e1 : ((i : Int) + 1).toNat = i + 1 := by omega
          have e2 : (i : Int).toNat = i := by omega
          rw [e1, e2]
          simp

theorem strOf_of (l : List UInt8) : strOfNums (l.map fun b => (b.toNat : Int)) = ⟨l.toArray⟩ := by
  have h : bytesOf (strOfNums (l.map fun b => (b.toNat : Int))) = l.map fun b => (b.toNat : Int) := strOf_bytes fun y hy => by
    obtain ⟨b, _, rfl⟩ := List.mem_map.1 hy
    have := b.toNat_lt
    simp [IntKind.wrap, IntKind.bits, IntKind.signed]
    omega
  have h2 : bytesOf (⟨l.toArray⟩ : ByteArray) = l.map fun b => (b.toNat : Int) := rfl
  have := (bytesOf_inj (x := strOfNums (l.map fun b => (b.toNat : Int))) (y := ⟨l.toArray⟩)).1 (h.trans h2.symm)
  apply ByteArray.ext
  exact Array.ext' this

theorem linesB_cut (r : ByteArray) (h : 0 < r.size) : linesB r = (if Go.Lib.indexByte r.data.toList 10 < 0 then [r] else r.extract 0 ((Go.Lib.indexByte r.data.toList 10).toNat + 1) :: linesB (r.extract ((Go.Lib.indexByte r.data.toList 10).toNat + 1) r.size)) := by
  have hne : r.data.toList ≠ [] := by
    intro e
    have : r.data.toList.length = r.size := Array.length_toList
    rw [e] at this
    simp at this
    omega
  have h1 := linesI_cut r.data.toList hne
  unfold linesB
  rw [show bytesOf r = r.data.toList.map fun b => (b.toNat : Int) from rfl, h1]
  split
  · simp only [List.map_cons, List.map_nil]
    rw [strOf_of]
  · simp only [List.map_cons]
    rw [strOf_of]
    congr 1
    · apply ByteArray.ext
      apply Array.ext'
      simp [ByteArray.data_extract, List.extract]
    · congr 2
      rw [extract_bytes r _ _ (Nat.le_refl _)]
      rw [List.take_of_length_le (by rw [List.length_drop, bytesOf_len]; exact Nat.le_refl _)]
      simp [bytesOf, List.map_drop]

theorem run_slice_string_hi {P : Program} (t : TypeId) (hu : P.underlying t = some .string) (s : ByteArray) (b : Nat) (h : b ≤ s.size) (wx : World) :
    (Instr.slice t (.string s) none (some (.int .i64 (b : Int))) none).run P wx = .ok (.string (s.extract 0 b)) wx := by
  rw [run_slice_string_to_if wx t s .i64 b hu, if_pos ⟨by omega, by omega⟩]
  simp
theorem run_slice_string_lo {P : Program} (t : TypeId) (hu : P.underlying t = some .string) (s : ByteArray) (a : Nat) (h : a ≤ s.size) (wx : World) :
    (Instr.slice t (.string s) (some (.int .i64 (a : Int))) none none).run P wx = .ok (.string (s.extract a s.size)) wx := by
  rw [run_slice_string_from_if wx t s .i64 a hu, if_pos ⟨by omega, by omega⟩]
  simp

set_option maxRecDepth 100000 in
set_option maxHeartbeats 1000000 in
theorem lines_in (l Bs : Nat) (s : ByteArray) (E : TypeId) (fz : Nat × Nat) (hu : ¬ (fz.1 ≤ 0 ∧ 0 < fz.2)) (J : Nat → World → Prop) (Jx : World → Prop)
    (hW : ∀ i W1 r0 r, J i W1 → W1.heap[Bs]? = some (.cells #[.string r0] E fz) → J i (W1.setCell ⟨Bs, 0, none⟩ (.string r)))
    (hB : ∀ i W1 W2, J i W1 → Below W1.heap.size W1 W2 → J i W2)
    (hY : ∀ i (hi : i < (linesB s).length) W1, J i W1 → YieldAt Fence.wide 0 Tryz.prog l #[.string ((linesB s)[i])] W1 fun e W' => W'.heap[Bs]? = W1.heap[Bs]? ∧ ((e = .returned (.bool true) ∧ J (i + 1) W') ∨ (e = .returned (.bool false) ∧ Jx W')))
    (W : World) (h0 : J 0 W) (hc : W.heap[Bs]? = some (.cells #[.string s] E fz)) (hmax : s.size ≤ 9223372036854775807) :
    CallsIn Fence.wide 0 Tryz.prog 136 #[.func (.yield l) #[] #[], .pointer (some ⟨Bs, 0, none⟩)] W fun e W' => (∃ v, e = .returned v) ∧ (J (linesB s).length W' ∨ Jx W') := by
  have mixed := mix
  refine callsIn_of_wp Tryz.func136 rfl trivial ?_ rfl
  simp only [Tryz.ntmps136, List.size_toArray, List.length_cons, List.length_nil, Nat.reduceAdd, Nat.reduceSub, Array.replicate_succ, Array.replicate_zero, List.push_toArray, List.append_toArray, List.nil_append, List.cons_append]
  have cellOf : ∀ (w : World) (r : ByteArray), w.heap[Bs]? = some (.cells #[.string r] E fz) → w.cell? ⟨Bs, 0, none⟩ = some (.string r) ∧ w.frozen? ⟨Bs, 0, none⟩ = false := by
    intro w r h
    refine ⟨by rw [cell_of_row w Bs 0 _ E fz h]; rfl, ?_⟩
    simp only [World.frozen?, h]
    simpa using hu
  gi_wp2
  gi_loopw [] (fun wr => ∃ (k : Nat) (r : ByteArray), k ≤ (linesB s).length ∧ linesB r = (linesB s).drop k ∧ J k wr ∧ wr.heap[Bs]? = some (.cells #[.string r] E fz) ∧ r.size ≤ s.size)
    (fun wr => match wr.cell? ⟨Bs, 0, none⟩ with | some (.string r) => r.size | _ => 0)
  case atStart => exact ⟨0, s, Nat.zero_le _, by simp, h0, hc, Nat.le_refl _⟩
  case round =>
    obtain ⟨k, r, hk, hr, hJs, hb, hrs⟩ := hrel
    obtain ⟨c1, c2⟩ := cellOf _ _ hb
    by_cases hpos : 0 < r.size
    · have hall := linesB_cut r hpos
      have hge := Go.Lib.indexByte_ge r.data.toList 10
      have hlt := indexByte_lt r.data.toList 10
      gi_wp2
      refine ⟨trivial, rfl, (callsIn_wide.2 (Any.strings_IndexByte (ρ := lays137_ren) lays137 r 10 _)).mono ?_⟩
      rintro e w' ⟨rfl, rfl⟩
      simp only [show (10 : Int).toNat.toUInt8 = (10 : UInt8) from rfl]
      generalize hi : Go.Lib.indexByte r.data.toList 10 = i at *
      have more : ∀ (x : ByteArray) (t : List ByteArray), linesB r = x :: t → ∃ hk' : k < (linesB s).length, (linesB s)[k] = x ∧ t = (linesB s).drop (k + 1) := by
        intro x t hx
        rw [hx] at hr
        have hk' : k < (linesB s).length := by
          rcases Nat.lt_or_ge k (linesB s).length with h | h
          · exact h
          · rw [List.drop_eq_nil_of_le h] at hr; cases hr
        rw [List.drop_eq_getElem_cons hk'] at hr
        injection hr with h1 h2
        exact ⟨hk', h1.symm, h2⟩
      have after : ∀ (w1 w3 : World) (x : ByteArray), w1.heap[Bs]? = some (.cells #[.string r] E fz) → w3.heap[Bs]? = (w1.setCell ⟨Bs, 0, none⟩ (.string x)).heap[Bs]? → w3.heap[Bs]? = some (.cells #[.string x] E fz) := by
        intro w1 w3 x h1 h3
        have e : w1.setCell ⟨Bs, 0, none⟩ (.string x) = w1.setRow Bs #[.string x] := by
          rw [setCell_eq_setRow w1 Bs 0 _ E fz _ h1]
          rfl
        rw [h3, e]
        exact setRow_heap w1 Bs _ _ E fz h1
      by_cases hneg : i < 0
      · rw [if_pos hneg] at hall
        obtain ⟨hk', hx, ht⟩ := more _ _ hall
        obtain ⟨fn, tmps, assign, body, hy, hR⟩ := hY k hk' _ (hW k _ r ⟨#[]⟩ hJs hb)
        rw [hx] at hy
        gi_wp2
        refine ⟨rfl, hR.mono ?_⟩
        rintro e W3 ⟨hbs, (⟨rfl, hJ3⟩ | ⟨rfl, hJx3⟩)⟩
        · have hb3 := after _ _ _ hb hbs
          have c3 := (cellOf _ _ hb3).1
          gi_wp2
          go_roundw
          case rel => exact ⟨k + 1, ⟨#[]⟩, by omega, by rw [linesB_nil rfl]; exact ht, hJ3, hb3, Nat.zero_le _⟩
          case measure => simp [c1, c3]; exact hpos
        · gi_wp2
          refine bodyPost_ret (results_none rfl _ _ _) rfl ?_
          exact ⟨⟨_, rfl⟩, .inr hJx3⟩
      · rw [if_neg hneg] at hall
        obtain ⟨n, rfl⟩ : ∃ n : Nat, i = (n : Int) := ⟨i.toNat, by omega⟩
        simp only [Int.toNat_natCast] at hall
        have hn : n + 1 ≤ r.size := by
          have : r.data.toList.length = r.size := Array.length_toList
          omega
        obtain ⟨hk', hx, ht⟩ := more _ _ hall
        have s1 : ∀ wx, (Instr.slice 9 (.string r) none (some (.int .i64 ((n : Int) + 1))) none).run Tryz.prog wx = .ok (.string (r.extract 0 (n + 1))) wx := fun wx => run_slice_string_hi (P := Tryz.prog) 9 Tryz.underlying9 r (n + 1) hn wx
        have s2 : ∀ wx, (Instr.slice 9 (.string r) (some (.int .i64 ((n : Int) + 1))) none none).run Tryz.prog wx = .ok (.string (r.extract (n + 1) r.size)) wx := fun wx => run_slice_string_lo (P := Tryz.prog) 9 Tryz.underlying9 r (n + 1) hn wx
        gi_wp2
        gi_region
        obtain ⟨fn, tmps, assign, body, hy, hR⟩ := hY k hk' _ (hB k _ _ (hW k _ r (r.extract (n + 1) r.size) hJs hb) (Below.drew (Below.refl _ _)))
        rw [hx] at hy
        gi_wp2
        refine ⟨rfl, hR.mono ?_⟩
        rintro e W3 ⟨hbs, (⟨rfl, hJ3⟩ | ⟨rfl, hJx3⟩)⟩
        · have hb3 := after _ W3 _ hb hbs
          have c3 := (cellOf _ _ hb3).1
          have hes : (r.extract (n + 1) r.size).size = r.size - (n + 1) := by simp [ByteArray.size_extract]
          gi_wp2
          go_roundw
          case rel => exact ⟨k + 1, r.extract (n + 1) r.size, by omega, ht, hJ3, hb3, by omega⟩
          case measure => simp only [c1, c3]; omega
        · gi_wp2
          refine bodyPost_ret (results_none rfl _ _ _) rfl ?_
          exact ⟨⟨_, rfl⟩, .inr hJx3⟩
    · gi_wp2
      go_end0
      have hr0 : linesB r = [] := linesB_nil (by omega)
      rw [hr0] at hr
      have hkl : k = (linesB s).length := by
        have := congrArg List.length hr
        simp at this
        omega
      subst hkl
      exact ⟨⟨_, rfl⟩, .inl hJs⟩

def linesGet (look : Nat → Option Blk) (f : Nat) (caps : List (Nat × Nat)) : Option (List Ty.str.den) :=
  if f = 136 then match caps with
    | [(n1, 0)] => match look n1 with
      | some (.var [.val .str s]) => linesGo s
      | _ => none
    | _ => none
  else none

theorem linesI_mem : ∀ (xs : List Int), ∀ x ∈ linesI xs, ∀ y ∈ x, y ∈ xs := by
  intro xs
  induction xs with
  | nil => intro x hx; cases hx
  | cons a r ih =>
    intro x hx y hy
    simp only [linesI] at hx
    split at hx
    · rcases List.mem_cons.1 hx with h | h
      · subst h
        rw [List.mem_singleton.1 hy]; exact List.mem_cons_self ..
      · exact List.mem_cons_of_mem _ (ih x h y hy)
    · split at hx
      · rw [List.mem_singleton.1 hx] at hy
        rw [List.mem_singleton.1 hy]; exact List.mem_cons_self ..
      · rename_i h t hl
        rcases List.mem_cons.1 hx with e | e
        · subst e
          rcases List.mem_cons.1 hy with g | g
          · rw [g]; exact List.mem_cons_self ..
          · exact List.mem_cons_of_mem _ (ih h (by rw [hl]; exact List.mem_cons_self ..) y g)
        · exact List.mem_cons_of_mem _ (ih x (by rw [hl]; exact List.mem_cons_of_mem _ e) y hy)

theorem linesI_len : ∀ (xs : List Int), ∀ x ∈ linesI xs, x.length ≤ xs.length := by
  intro xs
  induction xs with
  | nil => intro x hx; cases hx
  | cons a r ih =>
    intro x hx
    simp only [linesI] at hx
    split at hx
    · rcases List.mem_cons.1 hx with h | h
      · subst h; simp
      · have := ih x h; rw [List.length_cons]; omega
    · split at hx
      · rw [List.mem_singleton.1 hx]; simp
      · rename_i h t hl
        rcases List.mem_cons.1 hx with e | e
        · subst e
          have := ih h (by rw [hl]; exact List.mem_cons_self ..)
          rw [List.length_cons, List.length_cons]; omega
        · have := ih x (by rw [hl]; exact List.mem_cons_of_mem _ e)
          rw [List.length_cons]; omega

theorem var_one_l {N : Nat} {k : Kx} (hk : HRel N k) {n : Nat} {c : Cell} {v : Value} (hb : hget k.hp n = some (.var [c])) (hp : PtrTo k n 0 v) : ∃ B u E fz, v = .pointer (some ⟨B, 0, none⟩) ∧ (k.μ n).block = some B ∧ k.w.heap[B]? = some (.cells #[u] E fz) ∧ CRel k c u ∧ ¬ (fz.1 ≤ 0 ∧ 0 < fz.2) := by
  obtain ⟨B, e1, e2⟩ := hp.2 _ hb
  obtain ⟨B', row, E, fz, g1, g2, g3, g4, _⟩ := hk.blk n _ hb
  rw [e1] at g1
  injection g1 with g1 _ _
  subst g1
  obtain ⟨u, r, h1, h2, h3⟩ := g4
  have h3 : r = [] := h3
  subst h3
  have hrow : row = #[u] := by
    apply Array.ext'
    rw [h1]
  subst hrow
  exact ⟨B, u, E, fz, e2, by rw [e1]; rfl, g2, h2, g3 0 (by simp)⟩

theorem lines_ok : GetOKW Tryz.prog .str [(false, 1)] linesGet := by
  intro N k f caps cvs xs' hk hc hg
  unfold linesGet at hg
  split at hg
  · rename_i hf
    subst hf
    split at hg
    · rename_i n1
      split at hg
      · rename_i s h1
        cases hg
        obtain ⟨vs, e1, e2, e3⟩ := hc
        simp only [Value.func.injEq, true_and] at e1
        subst e1
        have hsz : cvs.size = 1 := by simpa using e2.symm
        obtain ⟨v0, hcv⟩ : ∃ v0, cvs = #[v0] := by
          have : cvs.toList.length = 1 := by simpa using hsz
          match hl : cvs.toList, this with
          | [a], _ => exact ⟨a, by rw [← Array.toArray_toList (xs := cvs), hl]⟩
        subst hcv
        have p0 := e3 0 (by simp) (by simp)
        simp only [List.getElem_cons_zero] at p0
        obtain ⟨Bs, us, E, fz, rfl, m1, w1, r1, hu⟩ := var_one_l hk h1 p0
        obtain ⟨ba, g1, g2, g3⟩ : VRel k.w k.O .str s [us] := r1
        simp only [List.cons.injEq, and_true] at g1
        subst g1
        have hlb : ∀ (l : List UInt8), ∀ x ∈ linesI (l.map fun b => (b.toNat : Int)), ∀ y ∈ x, IntKind.u8.wrap y = y := by
          intro l x hx y hy
          obtain ⟨b, _, rfl⟩ := List.mem_map.1 (linesI_mem _ x hx y hy)
          have := b.toNat_lt
          simp [IntKind.wrap, IntKind.bits, IntKind.signed]
          omega
        have hll : ∀ (l : List Int), ∀ x ∈ linesI l, x.length ≤ l.length := linesI_len
        refine ⟨(linesB ba).map fun x => #[.string x], fun _ => False, fun B => B = Bs, ?_, ?_, fun B hB => hB.elim, fun B hB => by subst hB; exact ⟨n1, by simp, m1, _, h1⟩, Go.Ab.enters_of Tryz.func136 (by kernel_rfl) (by kernel_rfl), ?_⟩
        · rw [g2]; simp [linesB]
        · intro i h h'
          have hi : i < (linesI (bytesOf ba)).length := by rw [← g2]; exact h
          have hx : (linesI s)[i] = (linesI (bytesOf ba))[i] := by subst g2; rfl
          rw [hx]
          have hm := List.getElem_mem hi
          have hi2 : i < (linesB ba).length := by simpa [linesB] using hi
          refine ⟨.string ((linesB ba)[i]'hi2), [], by rw [List.getElem_map], ?_, rfl⟩
          · unfold PRel
            rw [if_neg (by simp)]
            refine ⟨_, rfl, .inr ⟨⟨_, rfl, ?_, ?_⟩, rfl⟩⟩
            · simp only [linesB, List.getElem_map]
              exact (strOf_bytes (hlb ba.data.toList _ hm)).symm
            · simp only [linesB, List.getElem_map]
              rw [← bytesOf_len, strOf_bytes (hlb ba.data.toList _ hm)]
              refine Nat.le_trans (hll _ _ hm) ?_
              rw [bytesOf_len]
              exact g3
        · intro l J Jx W hS hJ hJx hW hY h0 hV
          have hc0 : W.heap[Bs]? = some (.cells #[.string ba] E fz) := (hV Bs rfl).trans w1
          refine (lines_in l Bs ba E fz hu J Jx (fun i W1 r0 r hj hb => hW i W1 _ hj ?_) hJ (fun i hi W1 hj => ?_) W h0 hc0 g3).mono ?_
          · have e : W1.setCell ⟨Bs, 0, none⟩ (.string r) = W1.setRow Bs #[.string r] := by
              rw [setCell_eq_setRow W1 Bs 0 _ E fz _ hb]
              rfl
            rw [e]
            refine ⟨rfl, rfl, rfl, by simp, fun B hB => setRow_other W1 Bs B _ hB, fun B hB => ?_⟩
            subst hB
            exact Or.inl ⟨_, E, fz, setRow_heap W1 _ _ _ E fz hb⟩
          · have := hY i (by simpa using hi) W1 hj
            obtain ⟨fn, tmps, assign, body, hy, hR⟩ := this
            refine ⟨fn, tmps, assign, body, by simpa using hy, hR.mono ?_⟩
            rintro e W' ⟨q1, q2⟩
            exact ⟨q1 Bs rfl, q2⟩
          · rintro e W' ⟨he, hfin⟩
            refine ⟨he, hfin.imp ?_ id⟩
            intro h
            simpa using h
      · cases hg
    · cases hg
  · cases hg

end Go.Proofs.YtnklmlnkiepdiaaGreatDoor
