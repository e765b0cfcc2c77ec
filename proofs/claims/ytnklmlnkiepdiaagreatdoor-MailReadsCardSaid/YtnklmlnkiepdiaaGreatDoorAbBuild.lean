/-
  strings.Builder, IN ITS CALLER'S STATE: copyCheck (nothing turns but the builder's own address), String (the buffer is taken). The contracts are the shelf's, String's is walked anew: the buffer lies anywhere.
-/
import Derived.Test.YtnklmlnkiepdiaaGreatDoorAbSort
import Derived.Test.YtnklmlnkiepdiaaGreatDoorAbStep8
import Derived.Shelf.Strings.Builder1
set_option linter.unusedVariables false
set_option linter.unusedSectionVars false
set_option linter.unusedSimpArgs false
namespace Go.Proofs
open Go.Shelf Go.RowKit
variable {P : Program} {ρ : Ren}

set_option maxHeartbeats 1000000 in
set_option maxRecDepth 100000 in
theorem string_walk (L : Lays.n169 P ρ) (X : Builder.Extra P ρ) (b n cap : Nat) (q0 q : Option Addr) (s : ByteArray) (w wf : World) (c1 : w.drew.cell? ⟨b, 1, none⟩ = some (.slice q0 n cap))
    (hSD : (Builtin.unsafeSliceData_ #[(ρ.t 37)] (ρ.t 127) #[.slice q0 n cap]).run P w.drew = .ok (.pointer q) w.drew)
    (hUS : (Builtin.unsafeString_ #[(ρ.t 127), (ρ.t 3)] (ρ.t 9) #[.pointer q, .int .i64 n]).run P w.drew = .ok (.string s) wf) :
    Calls P (ρ.f 169) #[.pointer (some ⟨b, 0, none⟩)] w fun e w' => e = .returned (.string s) ∧ w' = wf := by
  have mixed := L.mixed
  have t72 := L.t72; have a72 := L.a72; have z72 := L.z72; have v72 := L.v72; have u72 := run_underlying L.t72
  have t70 := L.t70; have a70 := L.a70; have z70 := L.z70; have v70 := L.v70; have u70 := run_underlying L.t70
  have t37 := L.t37; have a37 := L.a37; have z37 := L.z37; have v37 := L.v37; have u37 := run_underlying L.t37
  have t127 := L.t127; have a127 := L.a127; have z127 := L.z127; have v127 := L.v127; have u127 := run_underlying L.t127
  have t3 := L.t3; have a3 := L.a3; have z3 := L.z3; have v3 := L.v3; have u3 := run_underlying L.t3
  have t9 := L.t9; have a9 := L.a9; have z9 := L.z9; have v9 := L.v9; have u9 := run_underlying L.t9
  have t5 := X.t5; have a5 := X.a5; have z5 := X.z5; have v5 := X.v5; have u5 := run_underlying X.t5
  go_enter L.f169, Body.n169_ntmps ρ
  go_wp2
  go_region_o
  all_goals (go_wp2; go_ret; exact ⟨rfl, rfl⟩)

set_option maxHeartbeats 2000000 in
set_option maxRecDepth 100000 in
theorem string_walk0 (L : Lays.n169 P ρ) (X : Builder.Extra P ρ) (b g o : Nat) (sh : TypeId × Nat) (w : World) (hlt : b < w.heap.size) (c0 : w.cell? ⟨b, 1, none⟩ = some (.slice (some ⟨g, o, none⟩) 0 0)) (hsh : w.drew.shape? g = some sh) :
    Calls P (ρ.f 169) #[.pointer (some ⟨b, 0, none⟩)] w fun e w' => e = .returned (.string ⟨#[]⟩) ∧ w' = w.drew.alloc (.view ⟨g, o, none⟩ (ρ.t 5)) := by
  have hUS := Any.unsafeString_none L X
  have c1 : w.drew.cell? ⟨b, 1, none⟩ = some (.slice (some ⟨g, o, none⟩) 0 0) := c0
  have hSD : (Builtin.unsafeSliceData_ #[(ρ.t 37)] (ρ.t 127) #[.slice (some ⟨g, o, none⟩) 0 0]).run P w.drew = .ok (.pointer (some ⟨w.drew.heap.size, 0, none⟩)) (w.drew.alloc (.view ⟨g, o, none⟩ (ρ.t 5))) :=
    Lib.run_unsafeSliceData_zero w.drew _ _ (ρ.t 5) L.t127 ⟨g, o, none⟩ 0 sh hsh
  have c2 : (w.drew.alloc (.view ⟨g, o, none⟩ (ρ.t 5))).cell? ⟨b, 1, none⟩ = some (.slice (some ⟨g, o, none⟩) 0 0) := by
    have h1 : (w.drew.alloc (.view ⟨g, o, none⟩ (ρ.t 5))).heap[b]? = w.drew.heap[b]? := Lib.alloc_old w.drew _ b hlt
    unfold World.cell? at c1 ⊢
    simp only at c1 ⊢
    rw [h1]
    exact c1
  have c3 : (w.alloc (.view ⟨g, o, none⟩ (ρ.t 5))).drew.cell? ⟨b, 1, none⟩ = some (.slice (some ⟨g, o, none⟩) 0 0) := c2
  have mixed := L.mixed
  have t72 := L.t72; have a72 := L.a72; have z72 := L.z72; have v72 := L.v72; have u72 := run_underlying L.t72
  have t70 := L.t70; have a70 := L.a70; have z70 := L.z70; have v70 := L.v70; have u70 := run_underlying L.t70
  have t37 := L.t37; have a37 := L.a37; have z37 := L.z37; have v37 := L.v37; have u37 := run_underlying L.t37
  have t127 := L.t127; have a127 := L.a127; have z127 := L.z127; have v127 := L.v127; have u127 := run_underlying L.t127
  have t3 := L.t3; have a3 := L.a3; have z3 := L.z3; have v3 := L.v3; have u3 := run_underlying L.t3
  have t9 := L.t9; have a9 := L.a9; have z9 := L.z9; have v9 := L.v9; have u9 := run_underlying L.t9
  have t5 := X.t5; have a5 := X.a5; have z5 := X.z5; have v5 := X.v5; have u5 := run_underlying X.t5
  go_enter L.f169, Body.n169_ntmps ρ
  go_wp2
  go_region_o
  all_goals (go_wp2; go_ret; exact ⟨rfl, rfl⟩)

/-- unsafe.String over a part of a row of bytes. -/
theorem liesAt_bytes {e : TypeId} (hc : P.cellsOf e = 1) (count o n : Nat) (hn : o + n ≤ count) : liesAt P P.depth e count o e n = true := by
  have hd : P.depth = (2 * (P.types.size + Made.depth) + 1) + 1 := rfl
  rw [hd]
  simp only [liesAt, Bool.or_eq_true]
  left
  rw [hd]
  simp [rowAt, hc, hn, sameLayout, Nat.mod_one]

theorem run_unsafeString_part (w : World) (pt it ty e : TypeId) (hp : P.underlying pt = some (.pointer e)) (hc : P.cellsOf e = 1) (g o cells : Nat) (hsh : w.shape? g = some (e, cells)) (l : List UInt8) (h0 : l ≠ []) (hn : o + l.length ≤ cells) (h63 : l.length ≤ 9223372036854775807)
    (hcell : ∀ j x, l[j]? = some x → w.cell? ((⟨g, o, none⟩ : Addr).add j) = some (.int .u8 x.toNat)) :
    (Builtin.unsafeString_ #[pt, it] ty #[.pointer (some ⟨g, o, none⟩), .int .i64 l.length]).run P w = .ok (.string ⟨l.toArray⟩) (w.freeze ⟨g, o, none⟩ l.length) := by
  have hl : l.length ≠ 0 := by simpa using h0
  have hlb := Lib.run_loadBytes (P := P) w l ⟨g, o, none⟩ .empty hcell
  have hlies := liesAt_bytes (P := P) hc (cells / P.cellsOf e) o l.length (by rw [hc]; simpa using hn)
  have h63' : ¬ (9223372036854775807 : Int) < (l.length : Int) := by omega
  have hdef : Builtin.unsafeString_ #[pt, it] ty #[.pointer (some ⟨g, o, none⟩), .int .i64 l.length] =
      (do
        let n ← asInt (.int .i64 l.length)
        if n < 0 then runtimePanic (.error "unsafe.String: len out of range")
        if n > IntKind.i64.max then unsupported (.unsafePointer "String: a length above the largest int")
        if n = 0 then pure (.string .empty)
        else if ← variablesAt ⟨g, o, none⟩ (← elemOf pt) n.toNat then do
          let s ← loadBytes ⟨g, o, none⟩ .empty n.toNat
          freeze ⟨g, o, none⟩ n.toNat
          pure (.string s)
        else unsupported (.unsafePointer "String: not so many bytes at ptr")) := rfl
  rw [hdef]
  have hmax : IntKind.i64.max = 9223372036854775807 := rfl
  have hneg : ¬ (l.length : Int) < 0 := by omega
  simp [asInt, asIntOf, hmax, hl, hneg, h63', variablesAt, hsh, elemOf, run_underlying hp, hlies, hlb]

end Go.Proofs

namespace Go.Ab
variable [Tabs]
open Go.RowKit (Below)
open Go.Shelf Go.Proofs

/-- copyCheck: the builder's block points to itself, or to nothing yet -/
def copyJ (t : TypeId) : InlSum where
  run := fun {R} args hp nx K s => match args with
    | [.one (.ptr n 0)] => match hget hp n with
      | some (.var [.self m t', c]) => gate (decide (m = n ∧ t' = t)) (K (.tup []) (hput hp n (.var [.self m t', c])) nx) s
      | _ => s
    | _ => s

/-- String: what lies in the buffer; the buffer is gone -/
def stringJ : InlSum where
  run := fun {R} args hp nx K s => match args with
    | [.one (.ptr n 0)] => match hget hp n with
      | some (.var [_, .nilS]) => K (.one (.val .str [])) hp nx
      | some (.var [_, .own m (.int .u8)]) => match arrAs (.int .u8) (hget hp m) with
        | some xs => K (.one (.val .str xs)) (hrem hp m) nx
        | none => s
      | _ => s
    | _ => s

theorem copyJ_nat (t : TypeId) : NatI (copyJ t) := by
  intro R args hp nx K s
  simp only [copyJ]
  split
  · split
    · simp only [gate]
      split <;> rfl
    · rfl
  · rfl

theorem stringJ_nat : NatI stringJ := by
  intro R args hp nx K s
  simp only [stringJ]
  split
  · split
    · rfl
    · split <;> rfl
    · rfl
  · rfl

theorem copyJ_sound {P : Program} {g : FuncId} {t : TypeId} (he : Enters P g)
    (cu : ∀ (b : Nat) (w : World), w.cell? ⟨b, 0, none⟩ = some (.pointer (some ⟨b, 0, none⟩)) → Calls P g #[.pointer (some ⟨b, 0, none⟩)] w fun e w' => e = .returned (.tuple #[]) ∧ w' = w)
    (cf : ∀ (b : Nat) (w : World), w.cell? ⟨b, 0, none⟩ = some (.pointer none) → w.shape? b = some (t, 2) → w.frozen? ⟨b, 0, none⟩ = false → Calls P g #[.pointer (some ⟨b, 0, none⟩)] w fun e w' => e = .returned (.tuple #[]) ∧ w' = w.setCell ⟨b, 0, none⟩ (.pointer (some ⟨b, 0, none⟩))) :
    SoundIn P g (copyJ t) where
  enters := he
  calls := by
    intro N k avs vs v hp' nx' hk hN hr hu hj
    simp only [copyJ] at hj
    split at hj
    · rename_i n
      split at hj
      · rename_i m t' c hc
        simp only [gate] at hj
        split at hj
        · rename_i hg
          simp only [decide_eq_true_eq] at hg
          obtain ⟨rfl, rfl⟩ := hg
          simp only [Option.some.injEq, Prod.mk.injEq] at hj
          obtain ⟨rfl, rfl, rfl⟩ := hj
          obtain ⟨u, r, e1, h1, e2⟩ := hr
          have e2 : r = [] := e2
          subst e2
          have hvs : vs = #[u] := by
            apply Array.ext'
            rw [e1]
          have h1 : CRel k (.ptr m 0) u := by
            rcases h1 with h1 | h1
            · cases h1
            · exact h1
          obtain ⟨B, hμ, hu0⟩ := h1.2 _ hc
          have hbr := hk.blk m _ hc
          obtain ⟨B', row, E, fz, hμ', hrow, hfz, hcr, htag⟩ := hbr
          rw [hμ] at hμ'
          cases hμ'
          have hE : E = t' := htag _ _ _ rfl
          subst hE
          obtain ⟨a, r1, hr1, ha, a2, r2, hr2, hb, hr3⟩ := hcr
          have hr3 : r2 = [] := hr3
          subst hr3
          subst hr2
          have hrw : row = #[a, a2] := by
            apply Array.ext'
            rw [hr1]
          subst hrw
          have hB : B < k.w.heap.size := heap_lt hrow
          have hcell : k.w.cell? ⟨B, 0, none⟩ = some a := by
            rw [cell_of_row k.w B 0 _ E fz hrow]
            rfl
          rw [hvs, hu0]
          have fin : ∀ (w1 : World) (a' : Value), w1.heap.size = k.w.heap.size → (∀ C, C ≠ B → w1.heap[C]? = k.w.heap[C]?) → w1.heap[B]? = some (.cells #[a', a2] E fz) → w1.os = k.w.os → w1.tape = k.w.tape → w1.output = k.w.output → (a' = .pointer none ∨ a' = .pointer (some ⟨B, 0, none⟩)) →
              ∃ u k', (Value.tuple #[]) = u ∧ k'.w = w1 ∧ k'.hp = hput k.hp m (.var [.self m E, c]) ∧ k'.nx = k.nx ∧ HRel N k' ∧ Ext k k' ∧ Below N k.w k'.w ∧ ARel k' (.tup []) u ∧ ∀ n, k'.U n → n < k'.nx := by
            intro w1 a' hs1 ho hb1 q1 q2 q3 ha'
            have hW : Write k w1 m (.var [.self m E, c]) (.var [.self m E, c]) := ⟨hc, trivial, hs1, fun C hC => ho C (fun e => hC (by rw [hμ, e]; rfl))⟩
            have hx := hW.ext
            have hbr1 : BRel (putK k w1 m (.var [.self m E, c])) m (.var [.self m E, c]) := by
              refine ⟨B, #[a', a2], E, fz, hμ, hb1, fun j hj => hfz j (by simpa using hj), ?_, htag⟩
              refine ⟨a', [a2], rfl, ⟨⟨h1.1.1, ?_⟩, fun cs hcs => ?_⟩, a2, [], rfl, hx.c hb, rfl⟩
              · rcases ha' with e | e <;> rw [e] <;> rfl
              · rcases ha' with e | e
                · exact Or.inl e
                · exact Or.inr ⟨B, hμ, e⟩
            refine ⟨_, putK k w1 m (.var [.self m E, c]), rfl, rfl, rfl, rfl, hW.hrel hk hbr1, hx, ⟨q1, q2, q3, Nat.le_of_eq hs1.symm, fun C hC => ?_⟩, ⟨#[], rfl, rfl⟩, hu⟩
            have hBN : N ≤ B := (hk.low B ⟨m, _, hc, by rw [hμ]; rfl⟩).1
            exact ho C (by omega)
          rcases ha.2 _ hc with e | ⟨B2, e3, e4⟩
          · subst e
            refine (cf B k.w hcell (by unfold World.shape?; rw [hrow]; rfl) (by have := hfz 0 (by simp); simp only [World.frozen?, hrow]; simpa using this)).mono fun e' w' ⟨h5, h6⟩ => ?_
            have hset : w' = k.w.setRow B #[.pointer (some ⟨B, 0, none⟩), a2] := by
              rw [h6, setCell_eq_setRow k.w B 0 _ E fz _ hrow]
              rfl
            obtain ⟨u', k', g1, g2⟩ := fin w' (.pointer (some ⟨B, 0, none⟩)) (by rw [hset]; simp) (fun C hC => by rw [hset]; exact setRow_other k.w B C _ hC) (by rw [hset]; exact setRow_heap k.w B _ _ E fz hrow) (by rw [hset]; rfl) (by rw [hset]; rfl) (by rw [hset]; rfl) (Or.inr rfl)
            exact ⟨u', k', by rw [h5, g1], g2⟩
          · rw [hμ] at e3
            cases e3
            subst e4
            refine (cu B k.w hcell).mono fun e' w' ⟨h5, h6⟩ => ?_
            subst h6
            obtain ⟨u', k', g1, g2⟩ := fin k.w _ rfl (fun _ _ => rfl) hrow rfl rfl rfl (Or.inr rfl)
            exact ⟨u', k', by rw [h5, g1], g2⟩
        · cases hj
      · cases hj
    · cases hj

/-- a block of the call's own that is gone -/
def remK (k : Kx) (w' : World) (m : Nat) : Kx := ⟨w', hrem k.hp m, k.μ, k.nx, k.X, k.U⟩

theorem remK_get {k : Kx} {w' : World} {m q : Nat} {b : Blk} (h : hget (remK k w' m).hp q = some b) : q ≠ m ∧ hget k.hp q = some b := by
  simp only [remK, hget_hrem] at h
  split at h
  · cases h
  · rename_i hq
    exact ⟨hq, h⟩

theorem remK_ext {k : Kx} {w' : World} {m : Nat} {b : Blk} (hm : hget k.hp m = some b) (hz : k.w.heap.size ≤ w'.heap.size) (hs : ∀ C, C < k.w.heap.size → (k.μ m).block ≠ some C → w'.heap[C]? = k.w.heap[C]?) : Ext k (remK k w' m) where
  same := fun C hC hlt => hs C hlt fun e => hC ⟨m, b, hm, e⟩
  own := fun C ⟨q, c, h1, h2⟩ _ => ⟨q, c, (remK_get h1).2, h2⟩
  size := hz
  u := fun _ h => h
  arr := fun n e xs _ h => ⟨xs, (remK_get h).2, rfl, rfl⟩
  var := fun n cs _ h => ⟨cs, (remK_get h).2, rfl⟩
  map := fun n kt vt xs _ h => ⟨xs, (remK_get h).2, rfl⟩
  x := rfl

theorem remK_hrel {N : Nat} {k : Kx} {w' : World} {m : Nat} {b : Blk} (hk : HRel N k) (hm : hget k.hp m = some b) (hz : k.w.heap.size ≤ w'.heap.size) (hs : ∀ C, C < k.w.heap.size → (k.μ m).block ≠ some C → w'.heap[C]? = k.w.heap[C]?) : HRel N (remK k w' m) := by
  have hx := remK_ext hm hz hs
  refine ⟨fun q c h => ?_, fun q p c d C hc hd h1 h2 => hk.inj q p c d C (remK_get hc).2 (remK_get hd).2 h1 h2, fun C hC => ?_, hx.xlow hk, hx.xown hk, fun q c h => hk.names q c (remK_get h).2⟩
  · obtain ⟨hq, h0⟩ := remK_get h
    refine BRel.move hx rfl (fun C hC => hs C (hk.low C ⟨q, c, h0, hC⟩).2 fun e => hq (hk.inj q m c b C h0 hm hC e)) (hk.blk q c h0)
  · obtain ⟨q, c, h1, h2⟩ := hC
    have := hk.low C ⟨q, c, (remK_get h1).2, h2⟩
    exact ⟨this.1, Nat.lt_of_lt_of_le this.2 hz⟩

theorem strOfNums_size (ys : List Int) : (strOfNums ys).size = ys.length := by
  show (strOfNums ys).data.size = _
  rw [← Array.length_toList, strOfNums_data, List.length_map]

theorem stringJ_sound {P : Program} {ρ : Go.Shelf.Ren} (L : Lays.n169 P ρ) (X : Builder.Extra P ρ) (h5 : ρ.t 5 = 5) (he : Enters P (ρ.f 169)) : SoundIn P (ρ.f 169) stringJ where
  enters := he
  calls := by
    intro N k avs vs v hp' nx' hk hN hr hu hj
    -- the builder's second cell
    have two : ∀ (n : Nat) (c0 c1 : Cell), avs = [.one (.ptr n 0)] → hget k.hp n = some (.var [c0, c1]) → ∃ B u, vs = #[.pointer (some ⟨B, 0, none⟩)] ∧ B < k.w.heap.size ∧ k.w.cell? ⟨B, 1, none⟩ = some u ∧ CRel k c1 u := by
      intro n c0 c1 ha hc
      subst ha
      obtain ⟨u, r, e1, h1, e2⟩ := hr
      have e2 : r = [] := e2
      subst e2
      have hvs : vs = #[u] := by
        apply Array.ext'
        rw [e1]
      have h1 : CRel k (.ptr n 0) u := by
        rcases h1 with h1 | h1
        · cases h1
        · exact h1
      obtain ⟨B, hμ, hu0⟩ := h1.2 _ hc
      have hbr := hk.blk n _ hc
      obtain ⟨B', row, E, fz, hμ', hrow, hfz, hcr, htag⟩ := hbr
      rw [hμ] at hμ'
      cases hμ'
      obtain ⟨a, r1, hr1, ha, a2, r2, hr2, hb, hr3⟩ := hcr
      have hr3 : r2 = [] := hr3
      subst hr3
      subst hr2
      have hrw : row = #[a, a2] := by
        apply Array.ext'
        rw [hr1]
      subst hrw
      refine ⟨B, a2, by rw [hvs, hu0], heap_lt hrow, ?_, hb⟩
      rw [cell_of_row k.w B 1 _ E fz hrow]
      rfl
    -- nothing in the buffer, and its place is known
    have empty : ∀ (B : Nat) (q0 : Option Addr) (c : Nat), k.w.cell? ⟨B, 1, none⟩ = some (.slice q0 0 c) → B < k.w.heap.size → (c = 0 → q0 = none ∨ ∃ g o sh, q0 = some ⟨g, o, none⟩ ∧ k.w.shape? g = some sh) → (∀ x, q0 = some x → ∃ g o, x = ⟨g, o, none⟩) →
        Calls P (ρ.f 169) #[.pointer (some ⟨B, 0, none⟩)] k.w fun e w' => e = .returned (.string ⟨#[]⟩) ∧ Below k.w.heap.size k.w w' := by
      intro B q0 c hc hB hq hpa
      by_cases hc0 : c = 0
      · subst hc0
        rcases hq rfl with e | ⟨g, o, sh, e, hsh⟩
        · subst e
          refine (string_walk L X B 0 0 none none .empty k.w k.w.drew hc rfl (Any.unsafeString_none L X _ _)).mono fun e' w' ⟨g1, g2⟩ => ⟨g1, ?_⟩
          rw [g2]
          exact Below.drew (Below.refl _ _)
        · subst e
          refine (string_walk0 L X B g o sh k.w hB hc hsh).mono fun e' w' ⟨g1, g2⟩ => ⟨g1, ?_⟩
          rw [g2]
          exact (Below.drew (Below.refl _ _)).alloc (Nat.le_refl _) _
      · have hSD : (Builtin.unsafeSliceData_ #[(ρ.t 37)] (ρ.t 127) #[.slice q0 0 c]).run P k.w.drew = .ok (.pointer q0) k.w.drew := by
          cases q0 with
          | none => rfl
          | some a => exact Lib.run_unsafeSliceData_row _ _ _ _ _ _ hc0
        refine (string_walk L X B 0 c q0 q0 .empty k.w k.w.drew hc hSD (Any.unsafeString_none L X _ _)).mono fun e' w' ⟨g1, g2⟩ => ⟨g1, ?_⟩
        rw [g2]
        exact Below.drew (Below.refl _ _)
    have nostr : ∀ k' : Kx, ARel k' (.one (.val .str [])) (.string ⟨#[]⟩) := fun k' => Or.inr ⟨⟨#[]⟩, rfl, rfl, by simp [MAXL, ByteArray.size]⟩
    simp only [stringJ] at hj
    split at hj
    · rename_i n
      split at hj
      · rename_i c0 hc
        simp only [Option.some.injEq, Prod.mk.injEq] at hj
        obtain ⟨rfl, rfl, rfl⟩ := hj
        obtain ⟨B, u, hvs, hB, hcell, hcr⟩ := two n c0 .nilS rfl hc
        have hu0 : u = .slice none 0 0 := hcr
        subst hu0
        rw [hvs]
        refine (empty B none 0 hcell hB (fun _ => Or.inl rfl) (fun x hx => by cases hx)).mono fun e w' ⟨g1, g2⟩ => ?_
        exact ⟨_, worldK k w', g1, rfl, rfl, rfl, worldK_hrel hk g2.block g2.size, worldK_ext g2.block g2.size, g2.mono hN, nostr _, hu⟩
      · rename_i c0 m hc
        cases hl : arrAs (.int .u8) (hget k.hp m) with
        | none => rw [hl] at hj; cases hj
        | some xs =>
          rw [hl] at hj
          simp only [Option.some.injEq, Prod.mk.injEq] at hj
          obtain ⟨rfl, rfl, rfl⟩ := hj
          have hbl := arrAs_eq hl
          obtain ⟨B, u, hvs, hB, hcell, hcr⟩ := two n c0 (.own m (.int .u8)) rfl hc
          have hh := hcr.2 xs hbl
          have hbr := hk.blk m _ hbl
          rw [hvs]
          have done0 : ∀ w' : World, xs = [] → Below k.w.heap.size k.w w' → ∃ u k', Ending.returned (.string ⟨#[]⟩) = .returned u ∧ k'.w = w' ∧ k'.hp = hrem k.hp m ∧ k'.nx = k.nx ∧ HRel N k' ∧ Ext k k' ∧ Below N k.w k'.w ∧ ARel k' (.one (.val .str xs)) u ∧ ∀ n, k'.U n → n < k'.nx := by
            intro w' hx g2
            subst hx
            exact ⟨_, remK k w' m, rfl, rfl, rfl, rfl, remK_hrel hk hbl g2.size (fun C hC _ => g2.block C hC), remK_ext hbl g2.size (fun C hC _ => g2.block C hC), g2.mono hN, nostr _, hu⟩
          unfold BRel at hbr
          cases hm : k.μ m with
          | none =>
            rw [hm] at hh hbr
            obtain ⟨a, e1, _, e3⟩ := hh
            have e3 : a = none := e3
            subst e3
            rw [e1] at hcell
            refine (empty B none 0 hcell hB (fun _ => Or.inl rfl) (fun x hx => by cases hx)).mono fun e w' ⟨g1, g2⟩ => ?_
            rw [g1]
            exact done0 w' hbr g2
          | at_ G o cap =>
            rw [hm] at hh hbr
            obtain ⟨a, c, e1, h1, h2, h3⟩ := hh
            obtain ⟨row, E, fz, g1, g2, g3, g4, g5, g6⟩ := hbr
            have g1 : k.w.heap[G]? = some (.cells row 5 fz) := g1
            have hsh : k.w.shape? G = some (5, row.size) := by unfold World.shape?; rw [g1]
            have hpb : ∃ o', a = some ⟨G, o', none⟩ := by
              rcases h3 with h3 | h3
              · exact ⟨_, h3⟩
              · exact h3.2
            obtain ⟨o', ha⟩ := hpb
            by_cases hx : xs = []
            · rw [e1, hx] at hcell
              refine (empty B a c hcell hB (fun _ => Or.inr ⟨G, o', _, ha, hsh⟩) (fun x hx' => by rw [ha] at hx'; cases hx'; exact ⟨_, _, rfl⟩)).mono fun e w' ⟨q1, q2⟩ => ?_
              rw [q1]
              exact done0 w' hx q2
            · have hpos : 0 < List.length xs := List.length_pos_iff.2 hx
              have ha : a = some ⟨G, o, none⟩ := by
                rcases h3 with h3 | h3
                · simpa using h3
                · omega
              subst ha
              simp only [Ty.size, Nat.mul_one] at g5 g6
              have cell : ∀ j (h : j < List.length xs), row[o + j]? = some (.int .u8 xs[j]) ∧ IntKind.u8.wrap xs[j] = xs[j] := by
                intro j hj
                obtain ⟨q1, q2⟩ := g6 j hj
                refine ⟨?_, q2⟩
                have := part_get (row := row) (o := o + j) (n := 1) (j := 0) (by omega)
                rw [q1] at this
                simpa using this.symm
              have hwr : ∀ x ∈ (xs : List Int), IntKind.u8.wrap x = x := fun x hx => by
                obtain ⟨j, hj, rfl⟩ := List.getElem_of_mem hx
                exact (cell j hj).2
              have hlen : (strOfNums xs).data.toList.length = List.length xs := by
                rw [strOfNums_data, List.length_map]
              have hcap : List.length xs ≤ cap := g3
              have hmax : cap ≤ MAXL := g4
              simp only [MAXL] at hmax
              have hUS := run_unsafeString_part (P := P) k.w.drew (ρ.t 127) (ρ.t 3) (ρ.t 9) (ρ.t 5) L.t127 X.cellsByte G o row.size (by rw [h5]; exact hsh) (strOfNums xs).data.toList (by intro e; rw [e] at hlen; simp at hlen; omega) (by rw [hlen]; omega) (by rw [hlen]; omega) (fun j x hx => by
                have hj : j < List.length xs := by
                  have := (List.getElem?_eq_some_iff.1 hx).1
                  rwa [hlen] at this
                have h9 : (k.w.drew.cell? ((⟨G, o, none⟩ : Addr).add j)) = row[o + j]? := by
                  have := cell_of_row k.w G (o + j) row 5 fz g1
                  by_cases hj0 : j = 0
                  · subst hj0; exact this
                  · have e : (⟨G, o, none⟩ : Addr).add j = ⟨G, o + j, none⟩ := by simp [Addr.add, hj0]
                    rw [e]; exact this
                rw [h9, (cell j hj).1]
                have hb := strOf_bytes hwr
                have hbj : (bytesOf (strOfNums xs))[j]? = some (x.toNat : Int) := by
                  simp only [bytesOf, List.getElem?_map, hx, Option.map_some]
                rw [hb, List.getElem?_eq_getElem hj] at hbj
                have := Option.some.inj hbj
                rw [this])
              rw [hlen] at hUS
              have hSD : (Builtin.unsafeSliceData_ #[(ρ.t 37)] (ρ.t 127) #[.slice (some ⟨G, o, none⟩) (List.length xs) c]).run P k.w.drew = .ok (.pointer (some ⟨G, o, none⟩)) k.w.drew :=
                Lib.run_unsafeSliceData_row _ _ _ _ _ _ (by omega)
              rw [e1] at hcell
              refine (string_walk L X B (List.length xs) c _ _ _ k.w _ hcell hSD hUS).mono fun e w' ⟨q1, q2⟩ => ?_
              have hfr : ∀ C, C ≠ G → w'.heap[C]? = k.w.heap[C]? := by
                intro C hC
                rw [q2]
                unfold World.freeze
                split
                · rfl
                · simp only [Array.getElem?_modify]
                  rw [if_neg (fun e => hC e.symm)]
                  rfl
              have hsz : k.w.heap.size ≤ w'.heap.size := by
                rw [q2]
                unfold World.freeze
                split
                · exact Nat.le_refl _
                · rw [Array.size_modify]
                  exact Nat.le_refl _
              have hs : ∀ C, C < k.w.heap.size → (k.μ m).block ≠ some C → w'.heap[C]? = k.w.heap[C]? := fun C _ hC => hfr C (fun e => hC (by rw [hm, e]; rfl))
              have hGN : N ≤ G := (hk.low G ⟨m, _, hbl, by rw [hm]; rfl⟩).1
              refine ⟨_, remK k w' m, q1, rfl, rfl, rfl, remK_hrel hk hbl hsz hs, remK_ext hbl hsz hs, ?_, Or.inr ⟨_, rfl, (strOf_bytes hwr).symm, ?_⟩, hu⟩
              · rw [show (remK k w' m).w = w' from rfl, q2]
                exact Lib.below_freeze (Below.drew (Below.refl _ _)) hGN _
              · show (strOfNums xs).data.toList.toArray.size ≤ MAXL
                rw [List.size_toArray, hlen]
                simp only [MAXL]
                omega
      · cases hj
    · cases hj

end Go.Ab
