/- THE ITERATOR OF slices.Chunk over bytes has its contract. -/
import Derived.Test.YteekijpcdcpjkaaGnEnv
import Derived.Test.YteekijpcdcpjkaaAbIterFn
import Derived.RangeFuncBox
import Derived.RangeFuncLeaves
import Derived.Shelf.Abstract
import Derived.WalkKit
import Derived.OwnWalkIn
import Derived.TacticsInMore
import Derived.LoopNIn
import Derived.LoopIn
import Derived.Lib.Hide
import Derived.Sort.QuietIn
set_option linter.unusedVariables false
namespace Go.Proofs.Yteekijpcdcpjkaa
open Go Go.Ab Go.RowKit Go.Shelf
attribute [local go_sem] Oper.semAt_some

set_option maxRecDepth 100000 in
set_option maxHeartbeats 1000000 in
theorem chunk_bytes_in (l Bs Bn b off len cap n : Nat) (hn0 : 0 < n) (hn1 : n ≤ 1048576) (hlen : len ≤ 1048576) (hle : len ≤ cap) (hcap : cap ≤ 9223372036854775807) (J : Nat → World → Prop) (Jx : World → Prop)
    (hs : ∀ i W', J i W' → W'.cell? ⟨Bs, 0, none⟩ = some (.slice (some ⟨b, off, none⟩) len cap)) (hn : ∀ i W', J i W' → W'.cell? ⟨Bn, 0, none⟩ = some (.int .i64 n))
    (hJ : ∀ i W1 W2, J i W1 → Below W1.heap.size W1 W2 → J i W2)
    (hY : ∀ i W1 (m : Nat), m = i * n → m < len → J i W1 → YieldAt Fence.wide 0 Try.prog l #[.slice (some ⟨b, off + m, none⟩) (min n (len - m)) (min n (len - m))] W1 fun e W' => (e = .returned (.bool true) ∧ J (i + 1) W') ∨ (e = .returned (.bool false) ∧ Jx W'))
    (W : World) (h0 : J 0 W) :
    CallsIn Fence.wide 0 Try.prog 46 #[.func (.yield l) #[] #[], .pointer (some ⟨Bs, 0, none⟩), .pointer (some ⟨Bn, 0, none⟩)] W fun e W' => (∃ v, e = .returned v) ∧ ((∃ i, len ≤ i * n ∧ (i = 0 ∨ (i - 1) * n < len) ∧ J i W') ∨ Jx W') := by
  refine callsIn_of_wp Try.func46 rfl trivial ?_ rfl
  simp only [Try.ntmps46, List.size_toArray, List.length_cons, List.length_nil, Nat.reduceAdd, Nat.reduceSub, Array.replicate_succ, Array.replicate_zero, List.push_toArray, List.append_toArray, List.nil_append, List.cons_append]
  gi_wp2
  gi_loopw [4] (fun i wr => ∃ k m : Nat, Hid (m = k * n ∧ (k = 0 ∨ (k - 1) * n < len)) ∧ m < len + n ∧ i = .int .i64 (m : Int) ∧ J k wr)
    (fun i _ => len + n - (intOf i).toNat)
  case atStart => exact ⟨0, 0, Lib.hid ⟨by simp, .inl rfl⟩, by omega, rfl, h0⟩
  case round =>
    obtain ⟨k, m, hkm, hm, rfl, hJs⟩ := hrel
    by_cases hlt : m < len
    · have c1 := hs k wr hJs
      have c2 := hn k wr hJs
      have e1 : ((len : Int) - (m : Int)).toNat = len - m := by omega
      by_cases hmn : len - m < n
      · gi_wp2
        gi_quiet (fail)
        have hJ' : J k (wr.drewN nq) := hJ k wr _ hJs ⟨rfl, rfl, rfl, Nat.le_refl _, fun _ _ => rfl⟩
        have c1' := hs k _ hJ'
        obtain ⟨fn, tmps, assign, body, hy, hR⟩ := hY k (wr.drewN nq) m hkm.out.1 hlt hJ'
        rw [Nat.min_eq_right (by omega)] at hy
        gi_wp2
        refine ⟨rfl, hR.mono ?_⟩
        rintro e W3 (⟨rfl, hJ3⟩ | ⟨rfl, hJx3⟩)
        · have c3 := hn _ _ hJ3
          have c4 := hs _ _ hJ3
          have hnext : Hid (m + n = (k + 1) * n ∧ (k + 1 = 0 ∨ (k + 1 - 1) * n < len)) := by
            have := hkm.out.1
            refine Lib.hid ⟨by rw [Nat.add_mul]; omega, .inr ?_⟩
            rw [Nat.add_sub_cancel]; omega
          gi_wp2
          go_roundw
          case rel => exact ⟨k + 1, m + n, hnext, by omega, by go_num, hJ3⟩
          case measure => simp [intOf]; omega
        · gi_wp2
          refine bodyPost_ret (results_none rfl _ _ _) rfl ?_
          exact ⟨⟨_, rfl⟩, .inr hJx3⟩
      · have hmn' : m + n ≤ len := by omega
        gi_wp2
        gi_quiet (fail)
        have hJ' : J k (wr.drewN nq) := hJ k wr _ hJs ⟨rfl, rfl, rfl, Nat.le_refl _, fun _ _ => rfl⟩
        have c1' := hs k _ hJ'
        obtain ⟨fn, tmps, assign, body, hy, hR⟩ := hY k (wr.drewN nq) m hkm.out.1 hlt hJ'
        rw [Nat.min_eq_left (by omega)] at hy
        gi_wp2
        refine ⟨rfl, hR.mono ?_⟩
        rintro e W3 (⟨rfl, hJ3⟩ | ⟨rfl, hJx3⟩)
        · have c3 := hn _ _ hJ3
          have c4 := hs _ _ hJ3
          have hnext : Hid (m + n = (k + 1) * n ∧ (k + 1 = 0 ∨ (k + 1 - 1) * n < len)) := by
            have := hkm.out.1
            refine Lib.hid ⟨by rw [Nat.add_mul]; omega, .inr ?_⟩
            rw [Nat.add_sub_cancel]; omega
          gi_wp2
          go_roundw
          case rel => exact ⟨k + 1, m + n, hnext, by omega, by go_num, hJ3⟩
          case measure => simp [intOf]; omega
        · gi_wp2
          refine bodyPost_ret (results_none rfl _ _ _) rfl ?_
          exact ⟨⟨_, rfl⟩, .inr hJx3⟩
    · have c1 := hs k wr hJs
      gi_wp2
      go_end0
      exact ⟨⟨_, rfl⟩, .inl ⟨k, by have := hkm.out.1; omega, hkm.out.2, hJs⟩⟩

def chunkGet (look : Nat → Option Blk) (f : Nat) (caps : List (Nat × Nat)) : Option (List (Ty.slice (.int .u8)).den) :=
  if f = 46 then match caps with
    | [(n1, 0), (n2, 0)] => match look n1, look n2 with
      | some (.var [.val (.slice (.int .u8)) xs]), some (.var [.val (.int .i64) n]) =>
        chunkGo xs n
      | _, _ => none
    | _ => none
  else none

theorem var_one {N : Nat} {k : Kx} (hk : HRel N k) {n : Nat} {c : Cell} {v : Value} (hb : hget k.hp n = some (.var [c])) (hp : PtrTo k n 0 v) : ∃ B u, v = .pointer (some ⟨B, 0, none⟩) ∧ (k.μ n).block = some B ∧ k.w.cell? ⟨B, 0, none⟩ = some u ∧ CRel k c u ∧ B < k.w.heap.size := by
  obtain ⟨B, e1, e2⟩ := hp.2 _ hb
  obtain ⟨B', row, E, fz, g1, g2, g3, g4⟩ := hk.blk n _ hb
  rw [e1] at g1
  injection g1 with g1 _ _
  subst g1
  obtain ⟨u, r, h1, h2, h3⟩ := g4
  have h3 : r = [] := h3
  subst h3
  refine ⟨B, u, e2, by rw [e1]; rfl, ?_, h2, heap_lt g2⟩
  unfold World.cell?
  simp only [g2]
  rw [← Array.getElem?_toList, h1]
  rfl

theorem vrel_chunk {w : World} {O : Nat → Prop} {xs : List Int} {b off cap : Nat} {n i : Nat} (h : VRel w O (.slice (.int .u8)) xs [.slice (some ⟨b, off, none⟩) xs.length cap]) (hi : i * n < xs.length) :
    VRel w O (.slice (.int .u8)) ((xs.drop (i * n)).take n) [.slice (some ⟨b, off + i * n, none⟩) (min n (xs.length - i * n)) (min n (xs.length - i * n))] := by
  obtain ⟨a, c', e1, h1, h2, h3⟩ := h
  simp only [List.cons.injEq, Value.slice.injEq, and_true] at e1
  obtain ⟨rfl, _, rfl⟩ := e1
  obtain ⟨B, o, row, E, fz, e2, hO, hb, hs, hv⟩ := h3 (by intro h; rw [h] at hi; simp at hi)
  simp only [Option.some.injEq, Addr.mk.injEq, and_true] at e2
  obtain ⟨rfl, rfl⟩ := e2
  have hl : ((xs.drop (i * n)).take n).length = min n (xs.length - i * n) := by simp
  refine ⟨_, _, by rw [hl], by rw [hl]; exact Nat.le_refl _, by omega, fun _ => ⟨b, off + i * n, row, E, fz, rfl, hO, hb, ?_, fun j hj => ?_⟩⟩
  · simp only [Ty.size] at hs ⊢
    rw [hl]; omega
  · have hj' : j < min n (xs.length - i * n) := by rw [← hl]; exact hj
    have := hv (i * n + j) (by omega)
    simp only [Ty.size] at this ⊢
    have e3 : off + i * n + j * 1 = off + (i * n + j) * 1 := by omega
    rw [e3]
    have e4 : ((xs.drop (i * n)).take n)[j] = xs[i * n + j]'(by omega) := by simp
    rw [e4]
    exact this

theorem chunk_ok : GetOK Try.prog (.slice (.int .u8)) [(false, 1)] chunkGet := by
  intro N k f caps cvs xs' hk hc hg
  unfold chunkGet at hg
  split at hg
  · rename_i hf
    subst hf
    split at hg
    · rename_i n1 n2
      split at hg
      · rename_i xs n h1 h2
        · obtain ⟨m, hnm, hm, hm2, c3, c4, hg⟩ := chunkGo_some hg
          have hnm : n = (m : Int) := hnm
          subst hg
          obtain ⟨vs, e1, e2, e3⟩ := hc
          simp only [Value.func.injEq, true_and] at e1
          subst e1
          have hsz : cvs.size = 2 := by simpa using e2.symm
          obtain ⟨v0, v1, hcv⟩ : ∃ v0 v1, cvs = #[v0, v1] := by
            have : cvs.toList.length = 2 := by simpa using hsz
            match hl : cvs.toList, this with
            | [a, b], _ => exact ⟨a, b, by rw [← Array.toArray_toList (xs := cvs), hl]⟩
          subst hcv
          have p0 := e3 0 (by simp) (by simp)
          have p1 := e3 1 (by simp) (by simp)
          simp only [List.getElem_cons_zero, List.getElem_cons_succ] at p0 p1
          obtain ⟨Bs, us, rfl, m1, w1, r1, l1⟩ := var_one hk h1 p0
          obtain ⟨Bn, un, rfl, m2, w2, r2, l2⟩ := var_one hk h2 p1
          obtain ⟨r2, _⟩ : [un] = [Value.int .i64 n] ∧ _ := r2
          simp only [List.cons.injEq, and_true] at r2
          subst r2
          have r1 : VRel k.w k.O (.slice (.int .u8)) xs [us] := r1
          obtain ⟨a, cap, g1, g2, g3, g4⟩ := id r1
          simp only [List.cons.injEq, and_true] at g1
          obtain ⟨b, off, row, E, fz, g5, _⟩ := g4 (by intro h; rw [h] at c3; simp at c3)
          subst g5
          subst g1
          rw [hnm] at w2
          have hlt : ∀ i, i < (List.length xs + m - 1) / m → i * m < List.length xs := fun i hi => by
            have := (Nat.lt_div_iff_mul_lt hm).1 hi
            have e : (i + 1) * m = i * m + m := by rw [Nat.add_mul, Nat.one_mul]
            omega
          refine ⟨(List.range ((List.length xs + m - 1) / m)).map fun i => #[.slice (some ⟨b, off + i * m, none⟩) (min m (List.length xs - i * m)) (min m (List.length xs - i * m))], fun B => B = Bs ∨ B = Bn, by simp [chunks], ?_, ?_, ?_, ?_⟩
          · intro i h h'
            simp only [chunks, List.getElem_map, List.getElem_range]
            have hi : i < (List.length xs + m - 1) / m := by simpa using h'
            refine ⟨_, [], rfl, ?_, rfl⟩
            unfold PRel
            rw [if_neg (by simp)]
            refine ⟨_, rfl, .inr ⟨?_, rfl⟩⟩
            exact vrel_chunk r1 (hlt i hi)
          · rintro B (rfl | rfl)
            · exact ⟨l1, .inr ⟨n1, by simp, m1, _, h1⟩⟩
            · exact ⟨l2, .inr ⟨n2, by simp, m2, _, h2⟩⟩
          · exact Go.Ab.enters_of Try.func46 (by kernel_rfl) (by kernel_rfl)
          · intro l J Jx W hS hJ hJx hY h0
            have cell : ∀ {B : Nat} {u : Value} {W' : World}, k.w.cell? ⟨B, 0, none⟩ = some u → W'.heap[B]? = k.w.heap[B]? → W'.cell? ⟨B, 0, none⟩ = some u := fun {B u W'} h e => by
              unfold World.cell? at h ⊢
              simp only at h ⊢
              rw [e]; exact h
            refine (chunk_bytes_in l Bs Bn b off (List.length xs) cap m hm hm2 c4 g2 g3 J Jx (fun i W' h => cell w1 (hS i W' h Bs (.inl rfl))) (fun i W' h => cell w2 (hS i W' h Bn (.inr rfl))) hJ (fun i W1 q hq hlt' h => ?_) W h0).mono ?_
            · subst hq
              have hi : i < (List.length xs + m - 1) / m := by
                rw [Nat.lt_div_iff_mul_lt hm]
                have e : (i + 1) * m = i * m + m := by rw [Nat.add_mul, Nat.one_mul]
                omega
              have := hY i (by simpa using hi) W1 h
              simpa using this
            · rintro e W' ⟨he, hfin⟩
              refine ⟨he, hfin.imp ?_ id⟩
              rintro ⟨i, q1, q2, q3⟩
              have : i = (List.length xs + m - 1) / m := by
                have hi1 : i ≠ 0 := by intro h; rw [h, Nat.zero_mul] at q1; omega
                rcases q2 with q2 | q2
                · exact absurd q2 hi1
                · 
                  apply Nat.le_antisymm
                  · have : i - 1 < (List.length xs + m - 1) / m := by
                      rw [Nat.lt_div_iff_mul_lt hm]
                      have e : (i - 1 + 1) * m = (i - 1) * m + m := by rw [Nat.add_mul, Nat.one_mul]
                      omega
                    omega
                  · rw [Nat.div_le_iff_le_mul_add_pred hm]
                    have : m * i = i * m := Nat.mul_comm _ _
                    omega
              subst this
              simpa using q3
      · cases hg
    · cases hg
  · cases hg

end Go.Proofs.Yteekijpcdcpjkaa
