/- THE ITERATOR OF slices.Backward over bytes has its contract. -/
import Derived.Test.YteekijpcdcpjkaaDoorGnEnv
import Derived.Test.YteekijpcdcpjkaaDoorAbIterFn
import Derived.Test.YteekijpcdcpjkaaDoorAbPlain
import Derived.RangeFuncBox
import Derived.RangeFuncLeaves
import Derived.Shelf.Abstract
import Derived.WalkKit
import Derived.OwnWalkIn
import Derived.TacticsInMore
import Derived.LoopNIn
import Derived.LoopIn
import Derived.Lib.Hide
import Derived.Sort.QuietIn
set_option linter.unusedVariables false
namespace Go.Proofs.YteekijpcdcpjkaaDoor
open Go Go.Ab Go.RowKit Go.Shelf
attribute [local go_sem] Oper.semAt_some

set_option maxRecDepth 100000 in
set_option maxHeartbeats 1000000 in
theorem back_bytes_in (l Bs len cap : Nat) (a : Option Addr) (hlen : len ≤ 1048576) (xs : Nat → Int) (J : Nat → World → Prop) (Jx : World → Prop)
    (hs : ∀ i W', J i W' → W'.cell? ⟨Bs, 0, none⟩ = some (.slice a len cap))
    (hx : 0 < len → ∃ b off, a = some ⟨b, off, none⟩ ∧ ∀ i W' j, J i W' → j < len → W'.cell? ⟨b, off + j, none⟩ = some (.int .u8 (xs j)))
    (hJ : ∀ i W1 W2, J i W1 → Below W1.heap.size W1 W2 → J i W2)
    (hY : ∀ i W1, i < len → J i W1 → YieldAt Fence.wide 0 Tryd.prog l #[.int .i64 ((len - 1 - i : Nat) : Int), .int .u8 (xs (len - 1 - i))] W1 fun e W' => (e = .returned (.bool true) ∧ J (i + 1) W') ∨ (e = .returned (.bool false) ∧ Jx W'))
    (W : World) (h0 : J 0 W) :
    CallsIn Fence.wide 0 Tryd.prog 62 #[.func (.yield l) #[] #[], .pointer (some ⟨Bs, 0, none⟩)] W fun e W' => (∃ v, e = .returned v) ∧ (J len W' ∨ Jx W') := by
  have c0 := hs 0 W h0
  refine callsIn_of_wp Tryd.func62 rfl trivial ?_ rfl
  simp only [Tryd.ntmps62, List.size_toArray, List.length_cons, List.length_nil, Nat.reduceAdd, Nat.reduceSub, Array.replicate_succ, Array.replicate_zero, List.push_toArray, List.append_toArray, List.nil_append, List.cons_append]
  gi_wp2
  gi_loopw [3] (fun i wr => ∃ k : Nat, k ≤ len ∧ i = .int .i64 ((len : Int) - 1 - (k : Int)) ∧ J k wr)
    (fun i _ => (intOf i + 1).toNat)
  case atStart => exact ⟨0, Nat.zero_le _, by go_num, h0⟩
  case round =>
    obtain ⟨k, hk, rfl, hJs⟩ := hrel
    by_cases hlt : k < len
    · have c1 := hs k wr hJs
      obtain ⟨b, off, ha, hcell⟩ := hx (by omega)
      subst ha
      have e0 : ((len : Int) - 1 - (k : Int)) = ((len - 1 - k : Nat) : Int) := by omega
      have c2 := hcell k wr (len - 1 - k) hJs (by omega)
      rw [e0]
      obtain ⟨fn, tmps, assign, body, hy, hR⟩ := hY k wr hlt hJs
      gi_wp2
      refine ⟨rfl, hR.mono ?_⟩
      rintro e W3 (⟨rfl, hJ3⟩ | ⟨rfl, hJx3⟩)
      · gi_wp2
        go_roundw
        case rel => exact ⟨k + 1, by omega, by go_num, hJ3⟩
        case measure => simp [intOf]
      · gi_wp2
        refine bodyPost_ret (results_none rfl _ _ _) rfl ?_
        exact ⟨⟨_, rfl⟩, .inr hJx3⟩
    · gi_wp2
      go_end0
      have : k = len := by omega
      subst this
      exact ⟨⟨_, rfl⟩, .inl hJs⟩

def backGet (look : Nat → Option Blk) (f : Nat) (caps : List (Nat × Nat)) : Option (List (Ty.pair (.int .i64) (.int .u8)).den) :=
  if f = 62 then match caps with
    | [(n1, 0)] => match look n1 with
      | some (.var [.val (.slice (.int .u8)) xs]) => backGo xs
      | _ => none
    | _ => none
  else none

theorem var_one_b {N : Nat} {k : Kx} (hk : HRel N k) {n : Nat} {c : Cell} {v : Value} (hb : hget k.hp n = some (.var [c])) (hp : PtrTo k n 0 v) : ∃ B u, v = .pointer (some ⟨B, 0, none⟩) ∧ (k.μ n).block = some B ∧ k.w.cell? ⟨B, 0, none⟩ = some u ∧ CRel k c u ∧ B < k.w.heap.size := by
  obtain ⟨B, e1, e2⟩ := hp.2 _ hb
  obtain ⟨B', row, E, fz, g1, g2, g3, g4⟩ := hk.blk n _ hb
  rw [e1] at g1
  injection g1 with g1 _ _
  subst g1
  obtain ⟨u, r, h1, h2, h3⟩ := g4
  have h3 : r = [] := h3
  subst h3
  refine ⟨B, u, e2, by rw [e1]; rfl, ?_, h2, heap_lt g2⟩
  unfold World.cell?
  simp only [g2]
  rw [← Array.getElem?_toList, h1]
  rfl

theorem backward_ok : GetOK Tryd.prog (.pair (.int .i64) (.int .u8)) [(false, 1), (false, 1)] backGet := by
  intro N k f caps cvs xs' hk hc hg
  unfold backGet at hg
  split at hg
  · rename_i hf
    subst hf
    split at hg
    · rename_i n1
      split at hg
      · rename_i xs h1
        obtain ⟨c4, hg⟩ := backGo_some hg
        subst hg
        obtain ⟨vs, e1, e2, e3⟩ := hc
        simp only [Value.func.injEq, true_and] at e1
        subst e1
        have hsz : cvs.size = 1 := by simpa using e2.symm
        obtain ⟨v0, hcv⟩ : ∃ v0, cvs = #[v0] := by
          have : cvs.toList.length = 1 := by simpa using hsz
          match hl : cvs.toList, this with
          | [a], _ => exact ⟨a, by rw [← Array.toArray_toList (xs := cvs), hl]⟩
        subst hcv
        have p0 := e3 0 (by simp) (by simp)
        simp only [List.getElem_cons_zero] at p0
        obtain ⟨Bs, us, rfl, m1, w1, r1, l1⟩ := var_one_b hk h1 p0
        have r1 : VRel k.w k.O (.slice (.int .u8)) xs [us] := r1
        obtain ⟨a, cap, g1, g2, g3, g4⟩ := id r1
        simp only [List.cons.injEq, and_true] at g1
        subst g1
        -- the bytes lie in a block that is not the call's own, or there are none
        have hbytes : ∀ j (h : j < List.length xs), IntKind.u8.wrap xs[j] = xs[j] := by
          intro j hj
          obtain ⟨b, off, row, E, fz, g5, g6, g7, g8, g9⟩ := g4 (by intro h; rw [h] at hj; simp at hj)
          exact (g9 j hj).2
        let RD : Nat → Prop := fun B => B = Bs ∨ ∃ b off, a = some ⟨b, off, none⟩ ∧ 0 < List.length xs ∧ B = b
        refine ⟨(List.range (List.length xs)).map fun i => #[.int .i64 ((List.length xs - 1 - i : Nat) : Int), .int .u8 (xs.getD (List.length xs - 1 - i) 0)], RD, by simp [backs], ?_, ?_, ?_, ?_⟩
        · intro i h h'
          simp only [backs, List.getElem_map, List.getElem_range]
          have hi : i < List.length xs := by simpa using h'
          refine ⟨_, [_], rfl, ?_, _, [], rfl, ?_, rfl⟩
          · unfold PRel
            rw [if_neg (by simp)]
            refine ⟨_, rfl, .inr ⟨⟨rfl, ?_⟩, rfl⟩⟩
            exact w64 (by omega) (by omega)
          · unfold PRel
            rw [if_neg (by simp)]
            refine ⟨_, rfl, .inr ⟨⟨rfl, ?_⟩, rfl⟩⟩
            have hj : List.length xs - 1 - i < List.length xs := by omega
            rw [List.getD_eq_getElem?_getD, List.getElem?_eq_getElem hj]
            exact hbytes _ hj
        · rintro B (rfl | ⟨b, off, ha, h0, rfl⟩)
          · exact ⟨l1, .inr ⟨n1, by simp, m1, _, h1⟩⟩
          · obtain ⟨b', off', row, E, fz, g5, g6, g7, g8, g9⟩ := g4 (by intro h; rw [h] at h0; simp at h0)
            rw [ha] at g5
            simp only [Option.some.injEq, Addr.mk.injEq, and_true] at g5
            obtain ⟨rfl, rfl⟩ := g5
            exact ⟨heap_lt g7, .inl g6⟩
        · exact Go.Ab.enters_of Tryd.func62 (by kernel_rfl) (by kernel_rfl)
        · intro l J Jx W hS hJ hJx hY h0
          have cell : ∀ {B o : Nat} {u : Value} {W' : World}, k.w.cell? ⟨B, o, none⟩ = some u → W'.heap[B]? = k.w.heap[B]? → W'.cell? ⟨B, o, none⟩ = some u := fun {B o u W'} h e => by
            unfold World.cell? at h ⊢
            simp only at h ⊢
            rw [e]; exact h
          refine (back_bytes_in l Bs (List.length xs) cap a c4 (fun j => xs.getD j 0) J Jx (fun i W' h => cell w1 (hS i W' h Bs (.inl rfl))) (fun h0 => ?_) hJ (fun i W1 hlt h => ?_) W h0).mono ?_
          · obtain ⟨b, off, row, E, fz, g5, g6, g7, g8, g9⟩ := g4 (by intro h; rw [h] at h0; simp at h0)
            refine ⟨b, off, g5, fun i W' j hj hjl => cell ?_ (hS i W' hj b (.inr ⟨b, off, g5, h0, rfl⟩))⟩
            rw [cell_of_row k.w b (off + j) row E fz g7]
            have h9 := (g9 j hjl).1
            simp only [Ty.size, Nat.mul_one] at h9 g8
            have := part_get (row := row) (o := off + j) (n := 1) (j := 0) (by omega)
            rw [h9] at this
            rw [List.getD_eq_getElem?_getD, List.getElem?_eq_getElem hjl]
            simpa using this.symm
          · have := hY i (by simpa using hlt) W1 h
            simpa using this
          · rintro e W' ⟨he, hfin⟩
            refine ⟨he, hfin.imp ?_ id⟩
            intro h
            simpa using h
      · cases hg
    · cases hg
  · cases hg

end Go.Proofs.YteekijpcdcpjkaaDoor
