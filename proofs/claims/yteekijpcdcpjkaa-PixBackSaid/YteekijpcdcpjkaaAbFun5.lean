/-
  A METHOD, whose first argument points to a struct of its caller's own, does what 'denM' comes to.
-/
import Derived.Test.YteekijpcdcpjkaaAbFun4
set_option linter.unusedVariables false
set_option linter.unusedSimpArgs false
namespace Go.Ab
open Go.RowKit (Below)

/-- The same world, some of the blocks. -/
structure Sub (k k' : Kx) : Prop where
  w : k'.w = k.w
  μ : k'.μ = k.μ
  U : k'.U = k.U
  O : ∀ B, k'.O B → k.O B
  hp : ∀ n b, hget k'.hp n = some b → hget k.hp n = some b

section
variable {k k' : Kx} (h : Sub k k')
include h
theorem Sub.v {t : Ty} {x : t.den} {cs : List Value} (hv : VRel k.w k.O t x cs) : VRel k'.w k'.O t x cs := VRel.mono (fun _ _ _ => by rw [h.w]) (fun B hB _ => h.O B hB) t x cs hv
theorem Sub.ptr {n off : Nat} {v : Value} (hp : PtrTo k n off v) : PtrTo k' n off v := by
  refine ⟨⟨by rw [h.U]; exact hp.1.1, hp.1.2⟩, fun cs hc => ?_⟩
  rw [h.μ]; exact hp.2 cs (h.hp n _ hc)
theorem Sub.c : ∀ {c : Cell} {v : Value}, CRel k c v → CRel k' c v := by
  intro c v hc
  cases c with
  | undef => exact hc
  | val t x => exact h.v hc
  | nilS => exact hc
  | own n e => exact ⟨⟨by rw [h.U]; exact hc.1.1, hc.1.2⟩, fun xs hx => by rw [h.μ]; exact hc.2 xs (h.hp n _ hx)⟩
  | sub n e lo hi => exact ⟨⟨by rw [h.U]; exact hc.1.1, hc.1.2⟩, fun xs hx => by rw [h.μ]; exact hc.2 xs (h.hp n _ hx)⟩
  | ptr n off => exact h.ptr hc
  | pptr t x off =>
    obtain ⟨B, o, row, E, fz, e1, hO, hb, hs, hv⟩ := hc
    exact ⟨B, o, row, E, fz, e1, fun h' => hO (h.O B h'), by rw [h.w]; exact hb, hs, h.v hv⟩
  | eptr n e i off => exact ⟨⟨by rw [h.U]; exact hc.1.1, hc.1.2⟩, fun xs hx hi => by rw [h.μ]; exact hc.2 xs (h.hp n _ hx) hi⟩
  | fn f caps =>
    obtain ⟨vs, e1, hl, hp⟩ := hc
    exact ⟨vs, e1, hl, fun j h1 h2 => h.ptr (hp j h1 h2)⟩
  | clip e xs =>
    obtain ⟨a, e1, hv⟩ := hc
    exact ⟨a, e1, h.v hv⟩
theorem Sub.cs : ∀ {cs : List Cell} {vs : List Value}, CRels k cs vs → CRels k' cs vs := by
  intro cs
  induction cs with
  | nil => intro vs hc; exact hc
  | cons c cs ih =>
    intro vs hc
    obtain ⟨v, r, e, h1, h2⟩ := hc
    exact ⟨v, r, e, h.c h1, ih h2⟩
theorem Sub.b {n : Nat} {b : Blk} (hb : BRel k n b) : BRel k' n b := by
  cases b with
  | arr e xs =>
    unfold BRel at hb ⊢
    rw [h.μ]
    cases hm : k.μ n with
    | none => rw [hm] at hb; exact hb
    | at_ B o cap =>
      rw [hm] at hb
      obtain ⟨row, E, fz, h1, h2, h3, h4, h5, h6⟩ := hb
      exact ⟨row, E, fz, by rw [h.w]; exact h1, h2, h3, h4, h5, fun i hi => h.v (h6 i hi)⟩
  | var cs =>
    obtain ⟨B, row, E, fz, h0, h1, h2, h3⟩ := hb
    exact ⟨B, row, E, fz, by rw [h.μ]; exact h0, by rw [h.w]; exact h1, h2, h.cs h3⟩
end

/-- the world in which a method begins: the struct lies in the block B -/
def startM (w : World) (Y : Nat → Prop) (B : Nat) (cs : List Cell) : Kx := ⟨w, [(0, .var cs)], fun _ => .at_ B 0 0, 1, fun C => Y C ∧ C ≠ B, fun n => n < 1⟩

section
variable {N : Nat} {w : World} {Y : Nat → Prop} {B : Nat} {t : Ty} {x : t.den} {row : Array Value} {E : TypeId} {fz : Nat × Nat}

theorem startM_own {cs : List Cell} (C : Nat) : (startM w Y B cs).Own C ↔ C = B := by
  constructor
  · rintro ⟨n, b, h1, h2⟩
    have h2 : some B = some C := h2
    exact (Option.some.inj h2).symm
  · rintro rfl
    exact ⟨0, .var cs, rfl, rfl⟩

theorem startM_O {cs : List Cell} (hY : Y B) (C : Nat) : (startM w Y B cs).O C ↔ Y C := by
  constructor
  · rintro (h | h)
    · exact h.1
    · rw [startM_own] at h; rw [h]; exact hY
  · intro h
    by_cases hC : C = B
    · exact Or.inr ((startM_own C).2 hC)
    · exact Or.inl ⟨h, hC⟩

theorem startM_hrel (hN : N ≤ B) (hY : Y B) (hYc : ∀ C, Y C → ∃ row E fz, w.heap[C]? = some (.cells row E fz)) (hb : w.heap[B]? = some (.cells row E fz)) (hu : Unfrozen row fz) (hv : VRel w Y t x row.toList) : HRel N (startM w Y B (flat t x)) where
  blk := by
    intro n b h
    have h : hget [(0, Blk.var (flat t x))] n = some b := h
    simp only [hget] at h
    split at h
    · simp only [Option.some.injEq] at h
      subst h
      refine ⟨B, row, E, fz, rfl, hb, hu, (flat_rel t x _).1 ?_⟩
      exact VRel.mono (fun _ _ _ => rfl) (fun C hC _ => (startM_O hY C).1 hC) _ _ _ hv
    · cases h
  inj := by
    intro n m b c C h1 h2 _ _
    have h1 : hget [(0, Blk.var (flat t x))] n = some b := h1
    have h2 : hget [(0, Blk.var (flat t x))] m = some c := h2
    simp only [hget] at h1 h2
    split at h1
    · split at h2
      · omega
      · cases h2
    · cases h1
  low := by
    intro C hC
    rw [startM_own] at hC
    subst hC
    exact ⟨hN, heap_lt hb⟩
  xlow := fun C hC => hYc C hC.1
  xown := fun C hC ho => hC.2 ((startM_own C).1 ho)
  names := by
    intro n b h
    have h : hget [(0, Blk.var (flat t x))] n = some b := h
    simp only [hget] at h
    split at h
    · show n < 1; omega
    · cases h
end

/-- A method does what denM comes to. -/
theorem denM_sound {C : Ctx} (hC : CtxOK C) (hlo : 1 ≤ C.lo) (hmix : C.E.P.follows .mixedOrders = true) {g : FuncId} {fn : Func} {c : Code} {h : HT} {M : MFun} (hg : C.E.P.funcs[g]? = some fn) (hn : (fn.name == "runtime.NumGoroutine") = false) (hb : fn.body = some c) (hL : LoopsOK C c h)
    (hT : ∀ a, M.f a = denM C fn h M a) : SoundM C.E.P g M := by
  refine ⟨enters_of hg hn (by rw [hb]; rfl), fun N w Y B nx x ar r y vs row E fz hN hY hYc hrow hu hcont hargs hr => ?_⟩
  rw [hT] at hr
  unfold denM at hr
  rw [hb] at hr
  simp only at hr
  rw [denC_nat hC.nat] at hr
  cases hc : codeR C c h { fr := initFr fn.ntmps (.one (.ptr 0 0) :: argVs M.args (flat M.arg ar)), hp := [(0, .var (flat M.cont x))], nx := 1 } with
  | none => rw [hc] at hr; cases hr
  | some p =>
    obtain ⟨e, σ1⟩ := p
    rw [hc] at hr
    simp only [bindO_some] at hr
    refine calls_of_wp_marks hg hb ?_
    have hH := startM_hrel hN hY hYc hrow hu hcont
    have hsize : N ≤ w.heap.size := Nat.le_trans hN (Nat.le_of_lt (heap_lt hrow))
    have hargs2 : ARels (startM w Y B (flat M.cont x)) (.one (.ptr 0 0) :: argVs M.args (flat M.arg ar)) (#[Value.pointer (some ⟨B, 0, none⟩)] ++ vs).toList := by
      have h1 : PRels (startM w Y B (flat M.cont x)) (deal M.args (flat M.arg ar)) vs.toList := PRels.map (fun p hp c hc v hv => by
        have hval := (flat_vals M.arg ar).1 c (deal_mem _ _ p hp c hc)
        cases c with
        | val t z => exact VRel.mono (fun _ _ _ => rfl) (fun D hD _ => (noneK_O w 0 Y D).2 ((startM_O hY D).1 hD)) _ _ _ hv
        | _ => cases hval) hargs
      have h2 := prels_arels h1
      rw [← argVs_deal] at h2
      rw [Array.toList_append]
      exact ⟨_, _, rfl, Or.inr ⟨⟨by show 0 < 1; omega, _, rfl⟩, fun cs hcs => ⟨B, rfl, rfl⟩⟩, h2⟩
    have hR0 : Rel N (startM w Y B (flat M.cont x)) { fr := initFr fn.ntmps (.one (.ptr 0 0) :: argVs M.args (flat M.arg ar)), hp := [(0, .var (flat M.cont x))], nx := 1 } (startM w Y B (flat M.cont x)) { tmps := (#[Value.pointer (some ⟨B, 0, none⟩)] ++ vs) ++ Array.replicate (fn.ntmps - (#[Value.pointer (some ⟨B, 0, none⟩)] ++ vs).size) undef, defers := [] } :=
      ⟨⟨rfl, rfl, hH, init_rel hargs2 fn.ntmps, Ext.refl _, hsize, Below.refl _ _, Marks.nil _ _ _⟩, fun n hn => hn⟩
    have hcs := code_sound hC hmix (k0 := startM w Y B (flat M.cont x)) (fun n hn => Nat.lt_of_lt_of_le hn hlo) c h hL none (.inl rfl) _ σ1 e (startM w Y B (flat M.cont x)) _ hc hR0
    refine Go.Code.wpIn_mono ?_ hcs
    intro e' a0 w' hpost
    obtain ⟨he', k2, hw1, hR2, hW1, hS1⟩ := hpost
    subst he'; subst hw1
    obtain ⟨Bs, hds, hnd0, hBs⟩ := hR2.defers
    have fin : finishM C.E fn.results.toList M σ1 = some (r, y) → ∀ (k1 : Kx) (a' : Act), Rel N (startM w Y B (flat M.cont x)) σ1 k1 a' → a'.tmps = a0.tmps → ∃ v, (results fn a'.tmps).run C.E.P k1.w = .ok v k1.w ∧
        ∃ v' μ row' E' fz', Ending.returned v = .returned v' ∧ Below N w k1.w ∧ (∀ D, D ≠ B → D < w.heap.size → k1.w.heap[D]? = w.heap[D]?) ∧ k1.w.heap[B]? = some (.cells row' E' fz') ∧ Unfrozen row' fz' ∧ HRel w.heap.size (resK k1.w Y μ M.own nx (flat M.res r)) ∧
          VRel k1.w (resK k1.w Y μ M.own nx (flat M.res r)).O M.cont y row'.toList ∧ ARel (resK k1.w Y μ M.own nx (flat M.res r)) (mkRes M.parts (ownize M.own 0 nx (flat M.res r)).1) v' := by
      intro hf k1 a' hR1 ht
      unfold finishM at hf
      cases hrc : resCells σ1.hp σ1.fr C.E fn.results.toList with
      | none => rw [hrc] at hf; cases hf
      | some l =>
        cases hds0 : hget σ1.hp 0 with
        | none => rw [hrc, hds0] at hf; cases hf
        | some b0 =>
          cases b0 with
          | arr e xs => rw [hrc, hds0] at hf; cases hf
          | var ds =>
            rw [hrc, hds0] at hf
            simp only at hf
            split at hf
            · rename_i hgd
              simp only [Bool.and_eq_true, decide_eq_true_eq, List.isEmpty_iff, Bool.not_eq_true'] at hgd
              obtain ⟨⟨⟨⟨ho, hnd⟩, hsh⟩, hplain⟩, hno0⟩ := hgd
              split at hf
              · rename_i r' y' hpr hpy
                simp only [Option.some.injEq, Prod.mk.injEq] at hf
                obtain ⟨rfl, rfl⟩ := hf
                obtain ⟨us, p1, p2, p3⟩ := resCells_rel hR1 fn.results.toList l hrc
                rw [← hR1.hp] at hpr hpy hds0
                have hkn : ∀ p ∈ l, ∀ c ∈ p.2, c ≠ .undef := by
                  have hpr' := hpr
                  unfold parseAll at hpr'
                  cases hps : parse (hget k1.hp) M.res (l.flatMap fun p => p.2) with
                  | none => rw [hps] at hpr'; cases hpr'
                  | some q =>
                    obtain ⟨z, rest⟩ := q
                    rw [hps] at hpr'
                    cases rest with
                    | cons d q => cases hpr'
                    | nil =>
                      obtain ⟨c1, e1, f1⟩ := parse_its M.res _ [] z hps
                      rw [List.append_nil] at e1
                      have hits := f1 [] [] Its.nil
                      rw [List.append_nil, List.append_nil, ← e1] at hits
                      intro p hp c hc
                      exact its_known hits c (List.mem_flatMap.2 ⟨p, hp, hc⟩)
                have hcells := prels_cells p1 hkn
                -- the struct's block
                obtain ⟨cs0, _, hμ0⟩ := hR1.ext.var 0 ds (by show 0 < 1; omega) hds0
                obtain ⟨B', row', E', fz', hB', hrow', hu', hcr'⟩ := hR1.h.blk 0 _ hds0
                have hBB : B' = B := by
                  rw [hμ0] at hB'
                  have hB' : Loc.at_ B 0 0 = Loc.at_ B' 0 0 := hB'
                  cases hB'
                  rfl
                subst hBB
                have hX1 : k1.X = fun C => Y C ∧ C ≠ B' := hR1.ext.x
                have hOwnB : k1.Own B' := ⟨0, _, hds0, by rw [hB']; rfl⟩
                -- without it
                let km : Kx := ⟨k1.w, hrem k1.hp 0, k1.μ, k1.nx, Y, k1.U⟩
                have hkm : ∀ n b, hget km.hp n = some b → n ≠ 0 ∧ hget k1.hp n = some b := by
                  intro n b hb
                  have hb : hget (hrem k1.hp 0) n = some b := hb
                  rw [hget_hrem] at hb
                  split at hb
                  · cases hb
                  · rename_i hne; exact ⟨hne, hb⟩
                have hkmOwn : ∀ D, km.Own D → k1.Own D ∧ D ≠ B' := by
                  rintro D ⟨n, b, g1, g2⟩
                  obtain ⟨g3, g4⟩ := hkm n b g1
                  exact ⟨⟨n, b, g4, g2⟩, fun e => g3 (hR1.h.inj n 0 b _ B' g4 hds0 (by rw [← e]; exact g2) (by rw [hB']; rfl))⟩
                have hOm : ∀ D, km.O D → k1.O D := by
                  rintro D (hD | hD)
                  · by_cases hDB : D = B'
                    · rw [hDB]; exact Or.inr hOwnB
                    · refine Or.inl ?_
                      rw [hX1]; exact ⟨hD, hDB⟩
                  · exact Or.inr (hkmOwn D hD).1
                have hsub : Sub k1 km := ⟨rfl, rfl, rfl, hOm, fun n b hb => (hkm n b hb).2⟩
                have hHm : HRel w.heap.size km := by
                  refine ⟨fun n b hb => hsub.b (hR1.h.blk n b (hkm n b hb).2), fun n m b c D g1 g2 g3 g4 => hR1.h.inj n m b c D (hkm n b g1).2 (hkm m c g2).2 g3 g4, fun D hD => ?_, fun D hD => hR1.h.cells (hOm D (Or.inl hD)), fun D hD ho => ?_, fun n b hb => hR1.h.names n b (hkm n b hb).2⟩
                  · obtain ⟨g1, g2⟩ := hkmOwn D hD
                    refine ⟨?_, (hR1.h.low D g1).2⟩
                    rcases Nat.lt_or_ge D w.heap.size with hlt | hge
                    · exact absurd ((startM_own D).1 (hR1.ext.own D g1 hlt)) g2
                    · exact hge
                  · obtain ⟨g1, g2⟩ := hkmOwn D ho
                    exact hR1.h.xown D (by rw [hX1]; exact ⟨hD, g2⟩) g1
                have hprm : parseAll (hget km.hp) M.res (l.flatMap fun p => p.2) = some r' := by
                  rw [← hpr]
                  refine parseAll_look fun c hc n hn => ?_
                  show hget (hrem k1.hp 0) n = hget k1.hp n
                  rw [hget_hrem, if_neg]
                  intro e
                  subst e
                  have : ((l.flatMap fun p => p.2).flatMap ownOf).contains 0 = true := List.contains_iff_mem.2 (List.mem_flatMap.2 ⟨c, hc, hn⟩)
                  rw [hno0] at this
                  cases this
                obtain ⟨k', q1, q2, q3, q4, q5, q6, q7, q8⟩ := res_own hHm (hsub.cs hcells) ho hnd hprm nx
                have hdeal := prels_deal p1 hkn q6
                rw [hsh] at hdeal
                have hk' : k' = resK k1.w Y k'.μ M.own nx (flat M.res r') := by
                  unfold resK
                  cases k'
                  simp only at q1 q2 q3 q4 q7
                  subst q1; subst q2; subst q3; subst q4; subst q7
                  rfl
                refine ⟨packed us, run_results p2 p3, packed us, k'.μ, row', E', fz', rfl, hR1.below, fun D hD hlt => hR1.ext.same D (fun ho => hD ((startM_own D).1 ho)) hlt, hrow', hu', by rw [← hk']; exact q5, ?_, ?_⟩
                · rw [← hk']
                  exact parseAll_sound hR1.h (fun D hD => hOm D (q8 D hD)) hcr' hpy fun c hc n hn => by
                    have : n ∈ ds.flatMap namesOfCell := List.mem_flatMap.2 ⟨c, hc, ownOf_names hn⟩
                    rw [hplain] at this
                    cases this
                · rw [← hk']
                  refine packed_res hdeal fun p hp => ?_
                  rw [hp]
                  simp only [deal, List.map_cons, List.map_nil]
                  have hlen : (ownize M.own 0 nx (flat M.res r')).1.length = p.2 := by
                    have h1 := q6.len
                    rw [h1, ← hcells.len]
                    have h2 : l.map (fun p => (p.1, p.2.length)) = [p] := by rw [hsh, hp]
                    match l, h2 with
                    | [q], h2 =>
                      simp only [List.map_cons, List.map_nil, List.cons.injEq, and_true] at h2
                      rw [← h2]; simp
                  rw [List.take_of_length_le (by omega)]
              · cases hf
            · cases hf
    have goal : finishM C.E fn.results.toList M σ1 = some (r, y) → LeavesInM Fence.wide 0 C.E.P fn a0.tmps (fun e w' => ∃ v μ row' E' fz', e = .returned v ∧ Below N w w' ∧ (∀ D, D ≠ B → D < w.heap.size → w'.heap[D]? = w.heap[D]?) ∧
      w'.heap[B]? = some (.cells row' E' fz') ∧ Unfrozen row' fz' ∧ HRel w.heap.size (resK w' Y μ M.own nx (flat M.res r)) ∧
      VRel w' (resK w' Y μ M.own nx (flat M.res r)).O M.cont y row'.toList ∧ ARel (resK w' Y μ M.own nx (flat M.res r)) (mkRes M.parts (ownize M.own 0 nx (flat M.res r)).1) v) a0.defers .returning k2.w := by
      intro hf
      rw [hds]
      refine leaves_marks Bs k2.w hnd0 (fun B hB => (hBs B hB).2.2.2) fun w' hT => ?_
      exact fin hf (k2.on w') { a0 with defers := [] } (hR2.took hds hBs hT) rfl
    cases e with
    | normal => exact goal hr
    | ret => exact goal hr
    | exit n => cases hr

end Go.Ab
