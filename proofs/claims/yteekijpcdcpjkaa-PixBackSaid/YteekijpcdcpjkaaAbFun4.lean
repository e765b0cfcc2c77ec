/-
  FUNCTIONS: a function of pure data; a function that is run in its caller's state.
-/
import Derived.Test.YteekijpcdcpjkaaAbFun3
import Derived.Test.YteekijpcdcpjkaaAbSwap
set_option linter.unusedVariables false
set_option linter.unusedSimpArgs false
namespace Go.Ab
open Go.RowKit (Below)

theorem noneK_hrel {w : World} {nx : Nat} {X : Nat → Prop} (hX : ∀ B, X B → ∃ row E fz, w.heap[B]? = some (.cells row E fz)) : HRel w.heap.size (noneK w nx X) :=
  ⟨fun n b h => by simp [noneK, hget] at h, fun n m b c B h => by simp [noneK, hget] at h, fun B hB => by obtain ⟨n, b, h, _⟩ := hB; simp [noneK, hget] at h, hX, fun B _ hB => by obtain ⟨n, b, h, _⟩ := hB; simp [noneK, hget] at h, fun n b h => by simp [noneK, hget] at h⟩

/-- A function of pure data does what denFun comes to. -/
theorem denFun_sound {C : Ctx} (hC : CtxOK C) (hmix : C.E.P.follows .mixedOrders = true) {g : FuncId} {fn : Func} {c : Code} {h : HT} {T : TFun} (hg : C.E.P.funcs[g]? = some fn) (hn : (fn.name == "runtime.NumGoroutine") = false) (hb : fn.body = some c) (hL : LoopsOK C c h)
    (hT : ∀ a, T.f a = denFun C fn h T a) : Sound C.E.P g T := by
  refine ⟨enters_of hg hn (by rw [hb]; rfl), fun w X nx x r vs hX hargs hr => ?_⟩
  rw [hT] at hr
  unfold denFun at hr
  rw [hb] at hr
  simp only at hr
  rw [denC_nat hC.nat] at hr
  cases hc : codeR C c h { fr := initFr fn.ntmps (argVs T.args (flat T.arg x)), hp := [], nx := 0 } with
  | none => rw [hc] at hr; cases hr
  | some p =>
    obtain ⟨e, σ1⟩ := p
    rw [hc] at hr
    simp only [bindO_some] at hr
    refine calls_of_wp_marks hg hb ?_
    have hH := noneK_hrel (nx := 0) hX
    have hF := init_rel (n := fn.ntmps) (prels_arels hargs)
    rw [← argVs_deal] at hF
    have hR0 : Rel w.heap.size (noneK w 0 X) { fr := initFr fn.ntmps (argVs T.args (flat T.arg x)), hp := [], nx := 0 } (noneK w 0 X) { tmps := vs ++ Array.replicate (fn.ntmps - vs.size) undef, defers := [] } :=
      ⟨⟨rfl, rfl, hH, hF, Ext.refl _, Nat.le_refl _, Below.refl _ _, Marks.nil _ _ _⟩, fun n hn => hn⟩
    have hcs := code_sound hC hmix (k0 := noneK w 0 X) (fun n hn => absurd hn (Nat.not_lt_zero n)) c h hL none (.inl rfl) _ σ1 e (noneK w 0 X) _ hc hR0
    refine Go.Code.wpIn_mono ?_ hcs
    intro e' a0 w' hpost
    obtain ⟨he', k2, hw1, hR2, hW1, hS1⟩ := hpost
    subst he'; subst hw1
    obtain ⟨Bs, hds, hnd0, hBs⟩ := hR2.defers
    have goal : (∀ (k1 : Kx) (a' : Act), Rel w.heap.size (noneK w 0 X) σ1 k1 a' → a'.tmps = a0.tmps → ∃ v, (results fn a'.tmps).run C.E.P k1.w = .ok v k1.w ∧ ∃ v' μ, Ending.returned v = .returned v' ∧ Below w.heap.size w k1.w ∧
        HRel w.heap.size ⟨k1.w, acts [] (ownize T.own 0 nx (flat T.res r)).2.1, μ, nx + (ownize T.own 0 nx (flat T.res r)).2.2, X, fun q => q < nx + (ownize T.own 0 nx (flat T.res r)).2.2⟩ ∧
        ARel ⟨k1.w, acts [] (ownize T.own 0 nx (flat T.res r)).2.1, μ, nx + (ownize T.own 0 nx (flat T.res r)).2.2, X, fun q => q < nx + (ownize T.own 0 nx (flat T.res r)).2.2⟩ (mkRes T.parts (ownize T.own 0 nx (flat T.res r)).1) v') →
        LeavesInM Fence.wide 0 C.E.P fn a0.tmps (fun e w' => ∃ v μ, e = .returned v ∧ Below w.heap.size w w' ∧
      HRel w.heap.size ⟨w', acts [] (ownize T.own 0 nx (flat T.res r)).2.1, μ, nx + (ownize T.own 0 nx (flat T.res r)).2.2, X, fun q => q < nx + (ownize T.own 0 nx (flat T.res r)).2.2⟩ ∧
      ARel ⟨w', acts [] (ownize T.own 0 nx (flat T.res r)).2.1, μ, nx + (ownize T.own 0 nx (flat T.res r)).2.2, X, fun q => q < nx + (ownize T.own 0 nx (flat T.res r)).2.2⟩ (mkRes T.parts (ownize T.own 0 nx (flat T.res r)).1) v) a0.defers .returning k2.w := by
      intro hg
      rw [hds]
      refine leaves_marks Bs k2.w hnd0 (fun B hB => (hBs B hB).2.2.2) fun w' hT => ?_
      exact hg (k2.on w') { a0 with defers := [] } (hR2.took hds hBs hT) rfl
    have fin : finish C.E fn.results.toList T σ1 = some r → ∀ (k1 : Kx) (a' : Act), Rel w.heap.size (noneK w 0 X) σ1 k1 a' → a'.tmps = a0.tmps → ∃ v, (results fn a'.tmps).run C.E.P k1.w = .ok v k1.w ∧ ∃ v' μ, Ending.returned v = .returned v' ∧ Below w.heap.size w k1.w ∧
        HRel w.heap.size ⟨k1.w, acts [] (ownize T.own 0 nx (flat T.res r)).2.1, μ, nx + (ownize T.own 0 nx (flat T.res r)).2.2, X, fun q => q < nx + (ownize T.own 0 nx (flat T.res r)).2.2⟩ ∧
        ARel ⟨k1.w, acts [] (ownize T.own 0 nx (flat T.res r)).2.1, μ, nx + (ownize T.own 0 nx (flat T.res r)).2.2, X, fun q => q < nx + (ownize T.own 0 nx (flat T.res r)).2.2⟩ (mkRes T.parts (ownize T.own 0 nx (flat T.res r)).1) v' := by
      intro hf k1 a' hR1 ht
      unfold finish at hf
      cases hrc : resCells σ1.hp σ1.fr C.E fn.results.toList with
      | none => rw [hrc] at hf; cases hf
      | some l =>
        rw [hrc] at hf
        simp only at hf
        split at hf
        · rename_i hgd
          simp only [Bool.and_eq_true, decide_eq_true_eq] at hgd
          obtain ⟨⟨ho, hnd⟩, hsh⟩ := hgd
          obtain ⟨us, p1, p2, p3⟩ := resCells_rel hR1 fn.results.toList l hrc
          rw [← hR1.hp] at hf
          have hkn : ∀ p ∈ l, ∀ c ∈ p.2, c ≠ .undef := by
            unfold parseAll at hf
            cases hps : parse (hget k1.hp) T.res (l.flatMap fun p => p.2) with
            | none => rw [hps] at hf; cases hf
            | some q =>
              obtain ⟨y, rest⟩ := q
              rw [hps] at hf
              cases rest with
              | cons d q => cases hf
              | nil =>
                obtain ⟨c1, e1, f1⟩ := parse_its T.res _ [] y hps
                rw [List.append_nil] at e1
                have hits := f1 [] [] Its.nil
                rw [List.append_nil, List.append_nil, ← e1] at hits
                intro p hp c hc
                exact its_known hits c (List.mem_flatMap.2 ⟨p, hp, hc⟩)
          have hcells := prels_cells p1 hkn
          obtain ⟨k', q1, q2, q3, q4, q5, q6, q7, _⟩ := res_own hR1.h hcells ho hnd hf nx
          have hdeal := prels_deal p1 hkn q6
          rw [hsh] at hdeal
          have hX' : k'.X = X := by rw [q4, hR1.ext.x]; rfl
          have hk' : k' = ⟨k1.w, acts [] (ownize T.own 0 nx (flat T.res r)).2.1, k'.μ, nx + (ownize T.own 0 nx (flat T.res r)).2.2, X, fun q => q < nx + (ownize T.own 0 nx (flat T.res r)).2.2⟩ := by
            cases k'
            simp only at q1 q2 q3 hX' q7
            subst q1; subst q2; subst q3; subst hX'; subst q7
            rfl
          refine ⟨packed us, run_results p2 p3, packed us, k'.μ, rfl, hR1.below, by rw [← hk']; exact q5, ?_⟩
          rw [← hk']
          refine packed_res hdeal fun p hp => ?_
          rw [hp]
          simp only [deal, List.map_cons, List.map_nil]
          have hlen : (ownize T.own 0 nx (flat T.res r)).1.length = p.2 := by
            have h1 := q6.len
            rw [h1, ← hcells.len]
            have h2 : l.map (fun p => (p.1, p.2.length)) = [p] := by rw [hsh, hp]
            match l, h2 with
            | [q], h2 =>
              simp only [List.map_cons, List.map_nil, List.cons.injEq, and_true] at h2
              rw [← h2]; simp
          rw [List.take_of_length_le (by omega)]
        · cases hf
    cases e with
    | normal => exact goal (fin hr)
    | ret => exact goal (fin hr)
    | exit n => cases hr

/-- A function that is run in its caller's state does what 'inl' comes to. -/
theorem inl_sound {C : Ctx} (hC : CtxOK C) (hmix : C.E.P.follows .mixedOrders = true) {g : FuncId} {fn : Func} {c : Code} {h : HT} {J : InlSum} (hg : C.E.P.funcs[g]? = some fn) (hn : (fn.name == "runtime.NumGoroutine") = false) (hb : fn.body = some c) (hL : LoopsOK C c h)
    (hJ : ∀ as hp nx, J.run as hp nx (fun v h n => some (v, h, n)) none = (inl C fn h).run as hp nx (fun v h n => some (v, h, n)) none) : SoundIn C.E.P g J := by
  refine ⟨enters_of hg hn (by rw [hb]; rfl), fun N k as vs v hp' nx' hH hN hargs hU hr => ?_⟩
  rw [hJ] at hr
  simp only [inl, hb] at hr
  cases hlo : decide (k.nx ≤ C.lo) with
  | false => rw [hlo] at hr; cases hr
  | true =>
    rw [hlo] at hr
    simp only [gate_true] at hr
    simp only [decide_eq_true_eq] at hlo
    rw [denC_nat hC.nat] at hr
    cases hc : codeR C c h { fr := initFr fn.ntmps as, hp := k.hp, nx := k.nx } with
    | none => rw [hc] at hr; cases hr
    | some p =>
      obtain ⟨e, σ1⟩ := p
      rw [hc] at hr
      simp only [bindO_some] at hr
      refine calls_of_wp_marks hg hb ?_
      have hR0 : Rel N k { fr := initFr fn.ntmps as, hp := k.hp, nx := k.nx } k { tmps := vs ++ Array.replicate (fn.ntmps - vs.size) undef, defers := [] } :=
        ⟨⟨rfl, rfl, hH, init_rel hargs fn.ntmps, Ext.refl _, hN, Below.refl _ _, Marks.nil _ _ _⟩, hU⟩
      have hcs := code_sound hC hmix (k0 := k) (fun n hn => Nat.lt_of_lt_of_le (hU n hn) hlo) c h hL none (.inl rfl) _ σ1 e k _ hc hR0
      refine Go.Code.wpIn_mono ?_ hcs
      intro e' a0 w' hpost
      obtain ⟨he', k2, hw1, hR2, hW1, hS1⟩ := hpost
      subst he'; subst hw1
      obtain ⟨Bs, hds, hnd0, hBs⟩ := hR2.defers
      have goal : (∀ (k1 : Kx) (a' : Act), Rel N k σ1 k1 a' → a'.tmps = a0.tmps → ∃ u, (results fn a'.tmps).run C.E.P k1.w = .ok u k1.w ∧ ∃ u' k', Ending.returned u = .returned u' ∧ k'.w = k1.w ∧ k'.hp = hp' ∧ k'.nx = nx' ∧ HRel N k' ∧ Ext k k' ∧ Below N k.w k'.w ∧ ARel k' v u' ∧ ∀ n, k'.U n → n < k'.nx) →
          LeavesInM Fence.wide 0 C.E.P fn a0.tmps (fun e w' => ∃ u k', e = .returned u ∧ k'.w = w' ∧ k'.hp = hp' ∧ k'.nx = nx' ∧ HRel N k' ∧ Ext k k' ∧ Below N k.w k'.w ∧ ARel k' v u ∧ ∀ n, k'.U n → n < k'.nx) a0.defers .returning k2.w := by
        intro hg
        rw [hds]
        refine leaves_marks Bs k2.w hnd0 (fun B hB => (hBs B hB).2.2.2) fun w' hT => ?_
        exact hg (k2.on w') { a0 with defers := [] } (hR2.took hds hBs hT) rfl
      have fin : (match resCells σ1.hp σ1.fr C.E fn.results.toList with | some l => some (mkTup l, σ1.hp, σ1.nx) | none => none) = some (v, hp', nx') →
          ∀ (k1 : Kx) (a' : Act), Rel N k σ1 k1 a' → a'.tmps = a0.tmps → ∃ u, (results fn a'.tmps).run C.E.P k1.w = .ok u k1.w ∧ ∃ u' k', Ending.returned u = .returned u' ∧ k'.w = k1.w ∧ k'.hp = hp' ∧ k'.nx = nx' ∧ HRel N k' ∧ Ext k k' ∧ Below N k.w k'.w ∧ ARel k' v u' ∧ ∀ n, k'.U n → n < k'.nx := by
        intro hf k1 a' hR1 ht
        cases hrc : resCells σ1.hp σ1.fr C.E fn.results.toList with
        | none => rw [hrc] at hf; cases hf
        | some l =>
          rw [hrc] at hf
          simp only [Option.some.injEq, Prod.mk.injEq] at hf
          obtain ⟨rfl, rfl, rfl⟩ := hf
          obtain ⟨us, p1, p2, p3⟩ := resCells_rel hR1 fn.results.toList l hrc
          refine ⟨packed us, run_results p2 p3, packed us, k1, rfl, rfl, hR1.hp, hR1.nx, hR1.h, hR1.ext, hR1.below, ?_, fun n hn => by rw [hR1.nx]; exact hR1.u n hn⟩
          unfold mkTup packed
          match l, us, p1 with
          | [], us, p1 => have p1 : us = [] := p1; subst p1; exact ⟨#[], rfl, rfl⟩
          | [(agg, cs)], us, p1 =>
            obtain ⟨u, r, e1, g1, g2⟩ := p1
            have g2 : r = [] := g2
            subst g2; subst e1
            exact prel_mkV g1
          | a :: b :: r, us, p1 =>
            have : ∃ v1 v2 rest, us = v1 :: v2 :: rest := by
              obtain ⟨v1, r1, e1, _, h2⟩ := p1
              obtain ⟨v2, r2, e2, _, _⟩ := h2
              exact ⟨v1, v2, r2, by rw [e1, e2]⟩
            obtain ⟨v1, v2, rest, e⟩ := this
            subst e
            exact ⟨_, rfl, by simpa using p1⟩
      cases e with
      | normal => exact goal (fin hr)
      | ret => exact goal (fin hr)
      | exit n => cases hr

end Go.Ab
