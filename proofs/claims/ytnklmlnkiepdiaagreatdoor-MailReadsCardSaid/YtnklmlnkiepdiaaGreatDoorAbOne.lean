/-
  ONE OPERATION, with its guard, calls with them.
-/
import Derived.Test.YtnklmlnkiepdiaaGreatDoorAbSound
import Derived.TacticsIn
import Derived.OwnWalkIn
import Derived.OrdersIn
import Derived.RangeFuncCalls
set_option linter.unusedVariables false
set_option linter.unusedSectionVars false
set_option linter.unusedSimpArgs false
namespace Go.Ab
variable [Tabs]
open Go.RowKit (Below)

/-! ### frames -/
theorem FRel.put {k : Kx} {fr : Fr} {a : Act} (h : FRel k fr a.tmps) {v : AVal} {u : Value} (hv : ARel k v u) (d : Option Tmp) : FRel k (putT fr d v) (a.put d u).tmps := by
  cases d with
  | none => exact h
  | some d =>
    refine ⟨by simp [putT, Act.put, h.1], fun i => ?_⟩
    have hl : fr.length = a.tmps.size := h.1
    have hi := h.2 i
    simp only [putT, Act.put, rdT, List.getD_eq_getElem?_getD, Array.getD_eq_getD_getElem?, List.getElem?_set, Array.getElem?_setIfInBounds] at hi ⊢
    by_cases he : d = i
    · subst he
      by_cases hlt : d < fr.length
      · rw [if_pos rfl, if_pos hlt, if_pos rfl, if_pos (by rw [← hl]; exact hlt)]; exact hv
      · rw [if_pos rfl, if_neg hlt, if_pos rfl, if_neg (by rw [← hl]; exact hlt)]
        exact Or.inl rfl
    · rw [if_neg he, if_neg he]; exact hi

theorem put_other {a : Act} {d : Option Tmp} {v : Value} {i : Nat} (h : d ≠ some i) : (a.put d v).tmps.getD i undef = a.tmps.getD i undef := by
  cases d with
  | none => rfl
  | some d =>
    simp only [Act.put, Array.getD_eq_getD_getElem?, Array.getElem?_setIfInBounds]
    rw [if_neg (fun e => h (by rw [e]))]

/-- a state of the call that differs in one place at the most -/
structure Near (d : Option Tmp) (a a' : Act) : Prop where
  other : ∀ i, d ≠ some i → a'.tmps.getD i undef = a.tmps.getD i undef
  size : a'.tmps.size = a.tmps.size

theorem near_put {a : Act} {d : Option Tmp} {v : Value} : Near d a (a.put d v) := ⟨fun i hi => put_other hi, by cases d <;> simp [Act.put]⟩

theorem RelA.put {N : Nat} {k0 : Kx} {σ : St} {k : Kx} {a : Act} (h : RelA N k0 σ k a) {v : AVal} {u : Value} (hv : ARel k v u) (d : Option Tmp) : RelA N k0 { σ with fr := putT σ.fr d v } k (a.put d u) :=
  ⟨h.hp, h.nx, h.h, h.f.put hv d, h.ext, h.room, h.below, by cases d <;> exact h.defers⟩

theorem wanted_spec {k : Kx} {fr : Fr} {a : Act} (h : FRel k fr a.tmps) {ops : Array Oper} {o : Oper} {b : Bool} (hw : wantedA ops o fr = some b) : Region.wanted o (yielded ops a.tmps) = b := by
  unfold wantedA at hw
  unfold Region.wanted
  cases hg : o.guard with
  | none => rw [hg] at hw; simp only [Option.some.injEq] at hw; rw [hw]
  | some p =>
    obtain ⟨j, want⟩ := p
    rw [hg] at hw
    simp only at hw ⊢
    cases hd : dstOf ops j with
    | none => rw [hd] at hw; cases hw
    | some d =>
      rw [hd] at hw
      simp only at hw
      split at hw
      · rename_i t ht
        have hv := h.2 d
        rw [ht] at hv
        rcases hv with hv | hv
        · cases hv
        · have hv : [a.tmps.getD d undef] = [.bool t] := hv
          simp only [List.cons.injEq, and_true] at hv
          have hy : yielded ops a.tmps j = some t := by
            unfold yielded
            have hd' : (ops[j]?).bind (·.dst) = some d := hd
            rw [hd']
            simp only [Option.bind_some]
            rw [Array.getD_eq_getD_getElem?] at hv
            cases hx : a.tmps[d]? with
            | none => rw [hx] at hv; simp [undef] at hv
            | some u => rw [hx] at hv; simp only [Option.getD_some] at hv; subst hv; rfl
          rw [hy]
          simp only [Option.some.injEq] at hw
          rw [← hw]
          cases t <;> cases want <;> rfl
      · rename_i ht
        have hv := h.2 d
        rw [ht] at hv
        obtain ⟨vs, hv, hvs⟩ := hv
        have hy : yielded ops a.tmps j = none := by
          unfold yielded
          have hd' : (ops[j]?).bind (·.dst) = some d := hd
          rw [hd']
          simp only [Option.bind_some]
          rw [Array.getD_eq_getD_getElem?] at hv
          cases hx : a.tmps[d]? with
          | none => rfl
          | some u => rw [hx] at hv; simp only [Option.getD_some] at hv; subst hv; rfl
        rw [hy]
        simp only [Option.some.injEq] at hw
        rw [← hw]
        rfl
      · cases hw

theorem footOf_ne {σ : St} {o : Op} {out : Out} : footOf σ o out ≠ .all := by
  unfold footOf
  split <;> simp

/-- the names that an operation may give are free -/
def Fresh (k : Kx) (σ σ' : St) (f : Foot) : Prop := (f = .all → ∀ n, k.U n → n < σ.nx) ∧ (f ≠ .all → ∀ n, k.U n → ¬ (σ.nx ≤ n ∧ n < σ'.nx))

/-- the names that were given behind it -/
def Named (k k' : Kx) (σ σ' : St) (f : Foot) : Prop := (f = .all → ∀ n, k'.U n → n < σ'.nx) ∧ (f ≠ .all → σ.nx ≤ σ'.nx ∧ ∀ n, k'.U n → k.U n ∨ (σ.nx ≤ n ∧ n < σ'.nx))

theorem Named.still {k : Kx} {σ σ' : St} {f : Foot} (hf : f ≠ .all) (h : σ'.nx = σ.nx) : Named k k σ σ' f := ⟨fun e => absurd e hf, fun _ => ⟨by omega, fun n hn => Or.inl hn⟩⟩

/-- What follows an operation that has run. -/
theorem after_done {E : Env} {N : Nat} {k0 : Kx} {σ : St} {k : Kx} {a : Act} (hR : RelA N k0 σ k a) {o : Oper} {out : Out} (h : Done E N k σ.fr a.tmps out (execOp a.eval o)) (hfr : Fresh k σ (σ.after out o.dst) (footOf σ o.op out)) {K : Act → World → Prop} {Q : Exit → Act → World → Prop}
    (hK : ∀ k' a', RelA N k0 (σ.after out o.dst) k' a' → Named k k' σ (σ.after out o.dst) (footOf σ o.op out) → WExt k k' → Near o.dst a a' → K a' k'.w) : o.wp E.P a k.w K Q := by
  obtain ⟨v, k', h1, h2, h3, h4, h5, h6, h7, h8, h9⟩ := h (fun hm hU => hfr.2 footOf_ne _ hU ⟨by rw [hR.nx]; exact Nat.le_refl _, by rw [hR.nx]; show σ.nx < σ.nx + out.made; omega⟩)
  have hrel : RelA N k0 (σ.after out o.dst) k' (a.put o.dst v) := by
    refine ⟨?_, ?_, h4, ?_, hR.ext.trans h8, Nat.le_trans hR.room h8.size, hR.below.trans h7, by cases o.dst <;> exact hR.defers.next h8.wext⟩
    · rw [h2, hR.hp]; rfl
    · rw [h3, hR.nx]; rfl
    · have := FRel.put (a := a) h5 h6 o.dst
      rw [hR.hp] at this
      exact this
  have hK' := hK k' _ hrel ⟨fun e => absurd e footOf_ne, fun _ => ⟨Nat.le_add_right _ _, fun n hn => by have := h9 n hn; rw [hR.nx] at this; exact this⟩⟩ h8.wext near_put
  unfold Oper.wp
  rcases h1 with h1 | ⟨h1, hv⟩
  · rw [h1]; exact hK'
  · rw [h1]; subst hv; exact hK'

theorem rdV_rel {N : Nat} {k0 : Kx} {σ : St} {k : Kx} {a : Act} (hR : RelA N k0 σ k a) (x : Operand) : ARel k (rd σ.fr x) (a.eval x) := rd_rel hR.f rfl x

/-! ### arguments -/
theorem arels_map {N : Nat} {k0 : Kx} {σ : St} {k : Kx} {a : Act} (hR : RelA N k0 σ k a) : ∀ xs : List Operand, ARels k (xs.map (rd σ.fr)) (xs.map a.eval) := by
  intro xs
  induction xs with
  | nil => rfl
  | cons x r ih => exact ⟨_, _, rfl, rdV_rel hR x, ih⟩

theorem ARels.append {k : Kx} : ∀ {as bs : List AVal} {vs us : List Value}, ARels k as vs → ARels k bs us → ARels k (as ++ bs) (vs ++ us) := by
  intro as
  induction as with
  | nil => intro bs vs us h h'; have h : vs = [] := h; subst h; exact h'
  | cons a as ih =>
    intro bs vs us h h'
    obtain ⟨v, r, e, h1, h2⟩ := h
    subst e
    exact ⟨v, r ++ us, rfl, h1, ih h2 h'⟩

theorem arels_cells {k : Kx} : ∀ {as : List AVal} {vs : List Value}, ARels k as vs → as.all known = true → CRels k (as.flatMap cellsOf) (vs.flatMap fun v => v.cells.toList) := by
  intro as
  induction as with
  | nil => intro vs h _; have h : vs = [] := h; subst h; rfl
  | cons a as ih =>
    intro vs h hk
    obtain ⟨v, r, e, h1, h2⟩ := h
    subst e
    simp only [List.all_cons, Bool.and_eq_true] at hk
    exact (h1.cells hk.1).append (ih h2 hk.2)

theorem crels_one {k : Kx} {cs : List Cell} {v : Value} (h : CRels k cs [v]) : ∃ c, cs = [c] ∧ CRel k c v := by
  cases cs with
  | nil => cases h
  | cons c r =>
    obtain ⟨u, us, e, g1, g2⟩ := h
    simp only [List.cons.injEq] at e
    obtain ⟨e1, e2⟩ := e
    subst e1; subst e2
    have : r = [] := List.eq_nil_of_length_eq_zero g2.len
    subst this
    exact ⟨c, rfl, g1⟩

/-- The arguments in the shapes that the callee asks for. -/
theorem arels_deal {k kc : Kx} : ∀ {as : List AVal} {vs : List Value} {cs : List Cell}, ARels k as vs → as.all known = true → CRels kc cs (vs.flatMap fun v => v.cells.toList) → PRels kc (deal (as.map shapeV) cs) vs := by
  intro as
  induction as with
  | nil => intro vs cs h _ _; have h : vs = [] := h; subst h; rfl
  | cons a as ih =>
    intro vs cs h hk hc
    obtain ⟨v, r, e, h1, h2⟩ := h
    subst e
    simp only [List.all_cons, Bool.and_eq_true] at hk
    have hsz : (shapeV a).2 = v.cells.size := by
      cases a with
      | one c =>
        rcases h1 with h1 | h1
        · subst h1; simp [known] at hk
        · simp [shapeV, cells_one h1.one]
      | pure t x =>
        obtain ⟨_, us, e, hv⟩ := h1
        subst e
        simp only [shapeV]
        rw [← hv.len]; simp [Value.cells]
      | agg cs => obtain ⟨us, e, hv⟩ := h1; subst e; simp only [shapeV]; rw [hv.len]; simp [Value.cells]
      | tup ps => simp [known] at hk
    simp only [List.map_cons, deal]
    simp only [List.flatMap_cons] at hc
    have ht := hc.take (shapeV a).2
    have hd := hc.drop (shapeV a).2
    rw [hsz] at ht hd
    rw [List.take_left' (by simp)] at ht
    rw [List.drop_left' (by simp)] at hd
    rw [hsz]
    refine ⟨v, r, rfl, ?_, ih h2 hk.2 hd⟩
    unfold PRel
    cases a with
    | one c =>
      simp only [shapeV, Bool.false_eq_true, if_false]
      rcases h1 with h1 | h1
      · subst h1; simp [known] at hk
      · have e1 := cells_one h1.one
        rw [e1] at ht ⊢
        obtain ⟨c', e2, g1⟩ := crels_one ht
        exact ⟨c', e2, Or.inr ⟨g1, rfl⟩⟩
    | pure t x => obtain ⟨_, us, e, hv⟩ := h1; subst e; exact ⟨us, rfl, ht⟩
    | agg cs' => obtain ⟨us, e, hv⟩ := h1; subst e; exact ⟨us, rfl, ht⟩
    | tup ps => simp [known] at hk

/-! ### calls -/
theorem run_call {P : Program} {w : World} {dst : Option Tmp} {f : Operand} {args : Array Operand} {ats : Array TypeId} {ty : TypeId} {pos : String} {after : Array Edge} {guard : Option (Nat × Bool)} {a : Act} {g : FuncId} {vs : Array Value}
    (hf : a.eval f = .func (.func g) #[] vs) (he : Enters P g) :
    (execOp a.eval ⟨dst, .call { callee := .value f, args := args, argTypes := ats }, ty, pos, after, guard⟩).run P w = .ok (.enter g (args.map a.eval ++ vs)) w := by
  simp only [execOp, resolve, hf, Deferred.ofValue, Sem.run_bind, Sem.run_pure, Result.andThen_ok, invoke]
  rw [Array.empty_append]
  exact he _ _

theorem exec_sound {C : Ctx} (hC : CtxOK C) {N : Nat} {k0 : Kx} {σ σ' : St} {k : Kx} {a : Act} (hR : RelA N k0 σ k a) {o : Oper} {f : Foot} (h : execR C o σ = some (f, σ')) (hfr : Fresh k σ σ' f) {K : Act → World → Prop} {Q : Exit → Act → World → Prop}
    (hK : ∀ k' a', RelA N k0 σ' k' a' → Named k k' σ σ' f → WExt k k' → Near o.dst a a' → K a' k'.w) : o.wp C.E.P a k.w K Q := by
  unfold execR execA at h
  split at h
  · -- a choice
    rename_i c x y ho
    split at h
    · rename_i t hc
      have hv := rdC_rel hR.f (a := a) rfl c (by rw [hc]; simp)
      rw [hc] at hv
      have hv : [a.eval c] = [.bool t] := hv
      simp only [List.cons.injEq, and_true] at hv
      have run : ∀ z, (if t = true then a.eval x else a.eval y) = z → (execOp a.eval o).run C.E.P k.w = .ok (.value z) k.w := by
        intro z hz
        obtain ⟨dst, op, ty, pos, after, guard⟩ := o
        simp only at ho
        subst ho
        simp only [execOp, hv, asBool, Sem.run_bind, Sem.run_pure, Result.andThen_ok]
        rw [← hz]
      split at h
      · rename_i ht
        simp only [Option.some.injEq, Prod.mk.injEq] at h
        obtain ⟨rfl, rfl⟩ := h
        unfold Oper.wp
        rw [run _ (if_pos ht)]
        exact hK k _ (hR.put (rdV_rel hR x) o.dst) (Named.still footOf_ne rfl) (WExt.refl k) near_put
      · rename_i ht
        simp only [Option.some.injEq, Prod.mk.injEq] at h
        obtain ⟨rfl, rfl⟩ := h
        unfold Oper.wp
        rw [run _ (if_neg ht)]
        exact hK k _ (hR.put (rdV_rel hR y) o.dst) (Named.still footOf_ne rfl) (WExt.refl k) near_put
    · cases h
  · -- a call
    rename_i fo args ats ho
    rw [callA_nat hC.nat] at h
    cases hc : callR C (o.dst.getD 0) σ (rdC σ.fr fo) (args.toList.map (rd σ.fr)) with
    | none => rw [hc] at h; cases h
    | some z =>
      rw [hc] at h
      simp only [bindO_some] at h
      unfold callR at hc
      cases hfo : rdC σ.fr fo with
      | fn g caps =>
        have hfv := rdC_rel hR.f (a := a) rfl fo (by rw [hfo]; simp)
        rw [hfo] at hfv hc
        obtain ⟨cvs, hcv, hcl, hcp⟩ := hfv
        have arel := arels_map hR args.toList
        -- in its caller's state
        -- in its caller's state
        have inlJ : (match C.Ψ g (o.dst.getD 0) with | some J => J.run (args.toList.map (rd σ.fr) ++ caps.map fun c => .one (.ptr c.1 c.2)) σ.hp σ.nx (fun v hp nx => some (Sum.inr (v, hp, nx))) none | none => none) = some z → o.wp C.E.P a k.w K Q := by
          intro hc
          cases hJ : C.Ψ g (o.dst.getD 0) with
          | none => rw [hJ] at hc; cases hc
          | some J =>
            rw [hJ] at hc
            simp only at hc
            rw [hC.nat.inl g _ J hJ] at hc
            cases hr : J.run (args.toList.map (rd σ.fr) ++ caps.map fun c => .one (.ptr c.1 c.2)) σ.hp σ.nx (fun v h n => some (v, h, n)) none with
            | none => rw [hr] at hc; cases hc
            | some y =>
              obtain ⟨v, hp', nx'⟩ := y
              rw [hr] at hc
              simp only [bindO_some, Option.some.injEq] at hc
              subst hc
              simp only [Option.some.injEq, Prod.mk.injEq] at h
              obtain ⟨rfl, rfl⟩ := h
              have hS := hC.inl g _ J hJ
              have acap : ∀ (caps : List (Nat × Nat)) (us : List Value), caps.length = us.length → (∀ j (h : j < caps.length) (h' : j < us.length), PtrTo k caps[j].1 caps[j].2 us[j]) → ARels k (caps.map fun c => .one (.ptr c.1 c.2)) us := by
                intro caps
                induction caps with
                | nil => intro us hl _; exact List.eq_nil_of_length_eq_zero hl.symm
                | cons c r ih =>
                  intro us hl hp
                  cases us with
                  | nil => simp at hl
                  | cons u us =>
                    refine ⟨u, us, rfl, Or.inr (hp 0 (by simp) (by simp)), ih us (by simpa using hl) fun j h1 h2 => ?_⟩
                    have := hp (j + 1) (by simp; omega) (by simp; omega)
                    simpa using this
              have hargs : ARels k (args.toList.map (rd σ.fr) ++ caps.map fun c => .one (.ptr c.1 c.2)) (args.map a.eval ++ cvs).toList := by
                rw [Array.toList_append, Array.toList_map]
                exact arel.append (acap caps cvs.toList (by simpa using hcl) fun j h1 h2 => by simpa using hcp j h1 (by simpa using h2))
              have hcall := hS.calls N k _ (args.map a.eval ++ cvs) v hp' nx' hR.h hR.room hargs (by rw [hR.nx]; exact hfr.1 rfl) (by rw [hR.hp, hR.nx]; exact hr)
              unfold Oper.wp
              obtain ⟨dst, op, ty, pos, after, guard⟩ := o
              simp only at ho hK
              subst ho
              rw [run_call hcv hS.enters]
              simp only [Oper.upon_enter]
              refine hcall.mono fun e w' he => ?_
              obtain ⟨u, k', e1, e2, e3, e4, e5, e6, e7, e8, e9⟩ := he
              subst e1; subst e2
              simp only
              refine hK k' _ ?_ ⟨fun _ => by rw [← e4]; exact e9, fun hne => absurd rfl hne⟩ e6.wext near_put
              exact ⟨e3, e4, e5, FRel.put (a := a) (e6.f hR.f) e8 dst, hR.ext.trans e6, Nat.le_trans hR.room e6.size, hR.below.trans e7, by cases dst <;> exact hR.defers.next e6.wext⟩
        -- a method, or in its caller's state
        have inl0 : callM0 C (o.dst.getD 0) σ g caps (args.toList.map (rd σ.fr)) (fun out => some (Sum.inl out)) (fun v hp nx => some (Sum.inr (v, hp, nx))) none = some z → o.wp C.E.P a k.w K Q := by
          intro hc
          unfold callM0 at hc
          split at hc
          · rename_i M n as hM has hcOld
            split at hc
            · rename_i xa hxa
              obtain ⟨x, ar⟩ := xa
              cases hr : M.f (x, ar) with
              | none => rw [hr] at hc; cases hc
              | some ry =>
                obtain ⟨r, y⟩ := ry
                rw [hr] at hc
                simp only [bindO_some, Option.some.injEq] at hc
                subst hc
                simp only [Option.some.injEq, Prod.mk.injEq] at h
                obtain ⟨rfl, rfl⟩ := h
                have hS := hC.meth g M hM
                have hcv0 : cvs = #[] := Array.eq_empty_of_size_eq_zero (by simpa using hcl.symm)
                subst hcv0
                -- the arguments
                unfold mutIn at hxa
                split at hxa
                · rename_i cs hcs
                  split at hxa
                  · rename_i hg
                    simp only [Bool.and_eq_true, decide_eq_true_eq, List.isEmpty_iff, Bool.not_eq_true'] at hg
                    obtain ⟨⟨⟨hkn, hsh⟩, hplain⟩, hnot⟩ := hg
                    split at hxa
                    · rename_i x' ar' hx har
                      simp only [Option.some.injEq, Prod.mk.injEq] at hxa
                      obtain ⟨rfl, rfl⟩ := hxa
                      have hargs0 : ARels k (.one (.ptr n 0) :: as) (args.toList.map a.eval) := by rw [← has]; exact arel
                      obtain ⟨pv, vs, evs, hp, hvs⟩ := hargs0
                      have hcsk : hget k.hp n = some (.var cs) := by rw [hR.hp]; exact hcs
                      obtain ⟨B, row, E, fz0, hμ, hrow, hfz0, hcr⟩ := hR.h.blk n _ hcsk
                      have hpv : pv = .pointer (some ⟨B, 0, none⟩) := by
                        rcases hp with hp | hp
                        · cases hp
                        · obtain ⟨B', h1, h2⟩ := hp.2 cs hcsk
                          rw [hμ] at h1
                          cases h1
                          exact h2
                      obtain ⟨fz, hfz⟩ : ∃ fz, owns (as.flatMap cellsOf) = fz := ⟨_, rfl⟩
                      rw [hfz] at hK hfr
                      obtain ⟨q1, q2, q3, q4, q5, q6⟩ := frzAll_rel fz k σ.fr a.tmps hR.h hR.f
                      have hcells := arels_cells hvs hkn
                      have hclear : Clear k (frzKs k fz).O (as.flatMap cellsOf) := by
                        rw [← hfz]
                        exact clear_frz hR.h _ _ fun c hc n hn => owns_mem hc hn
                      have hO2 : ∀ C, (frzKs k fz).O C → k.O C := fun C hC => (frzKs_O fz k C hR.h hC).1
                      have hvr : VRel k.w (frzKs k fz).O M.arg ar' _ := parseAll_sound hR.h hO2 hcells (by rw [hR.hp]; exact har) hclear
                      have hnone : VRel (noneK k.w 0 (frzKs k fz).O).w (noneK k.w 0 (frzKs k fz).O).O M.arg ar' _ := VRel.mono (fun _ _ _ => rfl) (fun C hC _ => (noneK_O k.w 0 _ C).1 hC) _ _ _ hvr
                      have hdeal := arels_deal hvs hkn ((flat_rel M.arg ar' _).1 hnone)
                      rw [hsh] at hdeal
                      -- the struct's block
                      have hnfz : n ∉ fz := by rw [← hfz]; simpa using hnot
                      obtain ⟨cs1, hcs1⟩ := frzKs_var fz k n cs hcsk hnfz
                      have hOwnB : (frzKs k fz).Own B := ⟨n, _, hcs1, by rw [q6, hμ]; rfl⟩
                      have hcontv : VRel k.w (frzKs k fz).O M.cont x' row.toList := parseAll_sound hR.h hO2 hcr.1 (by rw [hR.hp]; exact hx) fun c hc m hm => by
                        have : m ∈ cs.flatMap namesOfCell := List.mem_flatMap.2 ⟨c, hc, ownOf_names hm⟩
                        rw [hplain] at this
                        cases this
                      have hYc : XOK N (frzKs k fz).O k.w := ⟨fun C hC => by have := q1.cells hC; rw [q4] at this; exact this, by have := q1.xlow.2; rw [q4] at this; exact this⟩
                      have hcall := hS.calls N k.w (frzKs k fz).O B σ.nx x' ar' r y vs.toArray row E fz0 (q1.low B hOwnB).1 (Or.inr hOwnB) hYc hrow hfz0 hcontv (by simpa using hdeal) hr
                      have hargsE : args.map a.eval ++ #[] = #[.pointer (some ⟨B, 0, none⟩)] ++ vs.toArray := by
                        apply Array.ext'
                        rw [Array.append_empty, Array.toList_map, evs, hpv]
                        simp
                      unfold Oper.wp
                      obtain ⟨dst, op, ty, pos, after, guard⟩ := o
                      simp only at ho hK
                      subst ho
                      rw [run_call hcv hS.enters, hargsE]
                      simp only [Oper.upon_enter]
                      refine hcall.mono fun e w' he => ?_
                      obtain ⟨v, μ, row', E', fz', e1, e2, e3, e4, e5, e6, e7, e8⟩ := he
                      subst e1
                      simp only
                      have hvals := flat_vals M.res r
                      have hnames := ownize_names M.own (flat M.res r) 0 σ.nx (vals_names hvals.1)
                      have hkinds := ownize_kinds M.own (flat M.res r) 0 σ.nx hvals.1
                      have hnx : (frzKs k fz).nx = σ.nx := by rw [q5, hR.nx]
                      unfold resK at e6 e7 e8
                      have hM' : MergeM N (frzKs k fz) w' (ownize M.own 0 σ.nx (flat M.res r)).2.1 μ (ownize M.own 0 σ.nx (flat M.res r)).2.2 n B M.cont y := by
                        refine ⟨q1, ⟨_, hcs1⟩, by rw [q6]; exact hμ, by rw [q4]; exact e2, by rw [q4]; exact e3, by rw [hnx]; exact hnames.1, by rw [q4, hnx]; exact e6, fun q hU => ?_, ⟨row', E', fz', e4, e5, by rw [hnx]; exact e7⟩⟩
                        rw [frzKs_U] at hU; rw [hnx]; exact hfr.2 footOf_ne q hU
                      have hxt := (frzKs_ext fz k).trans hM'.ext
                      refine hK (mergeMK (frzKs k fz) w' _ μ _ n M.cont y) _ ?_ ⟨fun e => absurd e footOf_ne, fun _ => ⟨Nat.le_add_right _ _, fun q hq => ?_⟩⟩ hxt.wext near_put
                      rotate_left
                      · rcases hq with hq | hq
                        · rw [frzKs_U] at hq; exact Or.inl hq
                        · rw [hnx] at hq; exact Or.inr hq
                      refine ⟨?_, ?_, hM'.hrel, ?_, hR.ext.trans hxt, Nat.le_trans hR.room hxt.size, hR.below.trans e2, by cases dst <;> exact hR.defers.next hxt.wext⟩
                      · simp only [mergeMK, St.after]
                        rw [q3, hR.hp]
                      · simp only [mergeMK, St.after, hnx]
                      · simp only [St.after]
                        have hfr1 := hM'.ext.f q2
                        rw [hR.hp] at hfr1
                        refine FRel.put (a := a) hfr1 ?_ dst
                        rw [← hnx] at e8
                        refine ARel.res (fun c hc u hu => ?_) (by rw [← hnx]; exact e8)
                        exact hM'.c (by rw [hnx]; exact hnames.2.1 c hc) (hkinds c hc) (by rw [hnx] at hu ⊢; exact hu)
                    · cases hxa
                  · cases hxa
                · cases hxa
            · cases hc
          · exact inlJ hc
        have inl : callM C (o.dst.getD 0) σ g caps (args.toList.map (rd σ.fr)) (fun out => some (Sum.inl out)) (fun v hp nx => some (Sum.inr (v, hp, nx))) none = some z → o.wp C.E.P a k.w K Q := by
          intro hc
          unfold callM at hc
          split at hc
          · rename_i T hT hcOld
            unfold callQ at hc
            split at hc
            · rename_i x hx
              cases hr : T.f x with
              | none => rw [hr] at hc; cases hc
              | some r =>
                rw [hr] at hc
                simp only [bindO_some] at hc
                split at hc
                · cases hc
                · simp only [Option.some.injEq] at hc
                  subst hc
                  simp only [Option.some.injEq, Prod.mk.injEq] at h
                  obtain ⟨rfl, rfl⟩ := h
                  have hS := hC.keep g T hT
                  have hcv0 : cvs = #[] := Array.eq_empty_of_size_eq_zero (by simpa using hcl.symm)
                  subst hcv0
                  have hcall := hS.calls N k _ (args.map a.eval) x r hR.h hR.room (by rw [Array.toList_map]; exact arel) (by rw [hR.hp]; exact hx) hr (by rw [hR.nx]; exact fun n hU => hfr.2 footOf_ne n hU)
                  unfold Oper.wp
                  obtain ⟨dst, op, ty, pos, after, guard⟩ := o
                  simp only at ho hK
                  subst ho
                  rw [run_call hcv hS.enters, Array.append_empty]
                  simp only [Oper.upon_enter]
                  refine hcall.mono fun e w' he => ?_
                  obtain ⟨v, k', e1, e2, e3, e4, e5, e6, e7, e8, e9⟩ := he
                  subst e1; subst e2
                  simp only
                  rw [hR.nx] at e3 e4 e8
                  refine hK k' _ ?_ ⟨fun e => absurd e footOf_ne, fun _ => ⟨Nat.le_add_right _ _, fun n hn => ?_⟩⟩ e6.wext near_put
                  rotate_left
                  · have := e9 n hn
                    rw [e4, hR.nx] at this
                    exact this
                  refine ⟨?_, e4, e5, ?_, hR.ext.trans e6, Nat.le_trans hR.room e6.size, hR.below.trans e7, by cases dst <;> exact hR.defers.next e6.wext⟩
                  · rw [e3, hR.hp]; rfl
                  · exact FRel.put (a := a) (e6.f hR.f) e8 dst
            · cases hc
          · exact inl0 hc
        simp only [callA] at hc
        cases hT : C.Φ g with
        | none => rw [hT] at hc; exact inl hc
        | some T =>
          rw [hT] at hc
          cases caps with
          | cons c r => exact inl hc
          | nil =>
            simp only at hc
            have hcv0 : cvs = #[] := Array.eq_empty_of_size_eq_zero (by simpa using hcl.symm)
            subst hcv0
            split at hc
            · rename_i x hx
              split at hx
              · rename_i hg
                simp only [Bool.and_eq_true, decide_eq_true_eq] at hg
                obtain ⟨hkn, hsh⟩ := hg
                cases hr : T.f x with
                | none => rw [hr] at hc; cases hc
                | some r =>
                  rw [hr] at hc
                  simp only [bindO_some, Option.some.injEq] at hc
                  subst hc
                  simp only [Option.some.injEq, Prod.mk.injEq] at h
                  obtain ⟨rfl, rfl⟩ := h
                  have hS := hC.fns g T hT
                  -- the state in which the callee's arguments are pure data
                  obtain ⟨fz, hfz⟩ : ∃ fz, (if T.fresh = true then [] else owns ((args.toList.map (rd σ.fr)).flatMap cellsOf)) = fz := ⟨_, rfl⟩
                  rw [hfz] at hK
                  obtain ⟨q1, q2, q3, q4, q5, q6⟩ := frzAll_rel fz k σ.fr a.tmps hR.h hR.f
                  let X : Nat → Prop := if T.fresh = true then fun _ => False else (frzKs k fz).O
                  have hXsub : ∀ B, X B → (frzKs k fz).O B := by
                    intro B hB
                    simp only [X] at hB
                    split at hB
                    · exact hB.elim
                    · exact hB
                  have hcells := arels_cells arel hkn
                  have hclear : Clear k X ((args.toList.map (rd σ.fr)).flatMap cellsOf) := by
                    by_cases hfr : T.fresh = true
                    · intro c _ n _ _ B _ hB
                      simp only [X, hfr, if_true] at hB
                    · simp only [X, hfr]
                      rw [← hfz, if_neg hfr]
                      exact clear_frz hR.h _ _ fun c hc n hn => owns_mem hc hn
                  have hO2 : ∀ B, X B → k.O B := fun B hB => (frzKs_O fz k B hR.h (hXsub B hB)).1
                  have hvr : VRel k.w X T.arg x _ := parseAll_sound hR.h hO2 hcells (by rw [hR.hp]; exact hx) hclear
                  have hnone : VRel (noneK k.w 0 X).w (noneK k.w 0 X).O T.arg x _ := VRel.mono (fun _ _ _ => rfl) (fun B hB _ => (noneK_O k.w 0 X B).1 hB) _ _ _ hvr
                  have hdeal := arels_deal arel hkn ((flat_rel T.arg x _).1 hnone)
                  rw [hsh] at hdeal
                  have hcall := hS.calls k.w X σ.nx x r (args.map a.eval) ⟨fun B hB => hR.h.cells (hO2 B hB), hR.h.xlow.2.1, hR.h.xlow.2.2.2, hR.h.xlow.2.2.2⟩ (by rw [Array.toList_map]; exact hdeal) hr
                  unfold Oper.wp
                  obtain ⟨dst, op, ty, pos, after, guard⟩ := o
                  simp only at ho hK
                  subst ho
                  rw [run_call hcv hS.enters, Array.append_empty]
                  simp only [Oper.upon_enter]
                  refine hcall.mono fun e w' he => ?_
                  obtain ⟨v, μ, e1, e2, e3, e4⟩ := he
                  subst e1
                  simp only
                  have hvals := flat_vals T.res r
                  have hnames := ownize_names T.own (flat T.res r) 0 σ.nx (vals_names hvals.1)
                  have hkinds := ownize_kinds T.own (flat T.res r) 0 σ.nx hvals.1
                  have hnx : (frzKs k fz).nx = σ.nx := by rw [q5, hR.nx]
                  have hfresh : T.fresh = true → (∀ t x, .val t x ∈ (ownize T.own 0 σ.nx (flat T.res r)).1 → t.flatOnly = true) ∧ (∀ n e xs, .put n (.arr e xs) ∈ (ownize T.own 0 σ.nx (flat T.res r)).2.1 → e.flatOnly = true) :=
                    fun hfr => ownize_fresh T.own (flat T.res r) 0 σ.nx hvals.1 (by rw [hvals.2]; exact hfr)
                  have hXor : (∀ B, (frzKs k fz).O B → X B) ∨ T.fresh = true := by
                    by_cases hfr : T.fresh = true
                    · exact Or.inr hfr
                    · left; intro B hB; simp only [X, hfr]; exact hB
                  have hM : Merge N (frzKs k fz) w' (ownize T.own 0 σ.nx (flat T.res r)).2.1 μ (ownize T.own 0 σ.nx (flat T.res r)).2.2 X := by
                    refine ⟨q1, by rw [q4]; exact hR.room, by rw [q4]; exact e2, by rw [hnx]; exact hnames.1, by rw [q4, hnx]; exact e3, ?_, fun n hU => ?_⟩
                    · rcases hXor with h | h
                      · exact Or.inl h
                      · exact Or.inr fun b hb n e xs he => (hfresh h).2 n e xs (by rw [← he]; exact hb)
                    · rw [frzKs_U] at hU; rw [hnx]; exact hfr.2 footOf_ne n hU
                  have hxt := (frzKs_ext fz k).trans hM.ext
                  refine hK (mergeK (frzKs k fz) w' _ μ _) _ ?_ ⟨fun e => absurd e footOf_ne, fun _ => ⟨Nat.le_add_right _ _, fun n hn => ?_⟩⟩ hxt.wext near_put
                  rotate_left
                  · rcases hn with hn | hn
                    · rw [frzKs_U] at hn; exact Or.inl hn
                    · rw [hnx] at hn; exact Or.inr hn
                  refine ⟨?_, ?_, hM.hrel, ?_, hR.ext.trans hxt, Nat.le_trans hR.room hxt.size, hR.below.trans (e2.mono hR.room), by cases dst <;> exact hR.defers.next hxt.wext⟩
                  · simp only [mergeK, St.after]
                    rw [q3, hR.hp]
                  · simp only [mergeK, St.after, hnx]
                  · simp only [St.after]
                    have hfr1 := hM.ext.f q2
                    rw [hR.hp] at hfr1
                    refine FRel.put (a := a) hfr1 ?_ dst
                    have e4' : ARel ⟨w', acts [] (ownize T.own 0 σ.nx (flat T.res r)).2.1, μ, (frzKs k fz).nx + (ownize T.own 0 σ.nx (flat T.res r)).2.2, X, fun q => q < (frzKs k fz).nx + (ownize T.own 0 σ.nx (flat T.res r)).2.2⟩ (mkRes T.parts (ownize T.own 0 σ.nx (flat T.res r)).1) v := by rw [hnx]; exact e4
                    refine ARel.res (fun c hc u hu => ?_) e4'
                    refine hM.c (by rw [hnx]; exact hnames.2.1 c hc) ?_ hu
                    rcases hkinds c hc with ⟨t, y, rfl⟩ | h
                    · refine Or.inl ⟨t, y, rfl, ?_⟩
                      rcases hXor with h | h
                      · exact Or.inl h
                      · exact Or.inr ((hfresh h).1 t y hc)
                    · exact Or.inr h
              · cases hx
            · cases hc
      | _ => rw [hfo] at hc; cases hc
  · -- any other
    split at h
    · rename_i out hs
      cases ht : out.test with
      | false => rw [ht] at h; cases h
      | true =>
        rw [ht] at h
        simp only [gate_true, Option.some.injEq, Prod.mk.injEq] at h
        obtain ⟨rfl, rfl⟩ := h
        rw [← hR.hp, ← hR.nx] at hs
        exact after_done hR (step_sound hC.env hR.h hR.f hR.room hs ht) hfr hK
    · cases h

/-! ### in a round's frame, too -/
def fR : Option Nat → Fence
  | none => Fence.wide
  | some l => Fence.wide.inRound l
theorem fR_fn (r : Option Nat) (f : FuncId) : (fR r).fn f := by cases r <;> trivial
theorem fR_depth (r : Option Nat) : (fR r).depth = none := by cases r <;> rfl
theorem fR_round (r : Option Nat) : (fR r).round = r := by cases r <;> rfl

theorem callsIn_fR {P : Program} {r : Option Nat} {n : Nat} {f : FuncId} {args : Array Value} {w : World} {R : Ending → World → Prop} (h : Calls P f args w R) : CallsIn (fR r) n P f args w R := by
  have h0 : CallsIn Fence.wide n P f args w R := callsIn_wide.2 h
  cases r with
  | none => exact h0
  | some l => exact h0.inRound l
theorem rowsIn_fR {P : Program} {r : Option Nat} {n : Nat} {row : String} {args : Array Value} {w : World} {R : Value → World → Prop} (h : Rows P row args w R) : RowsIn (fR r) n P row args w R := by
  intro c cs _
  obtain ⟨v, w', h1, h2⟩ := h c cs
  refine ⟨v, w', h1, ?_⟩
  have h3 := stepsIn_wide.2 h2
  cases r with
  | none => exact h3
  | some l => rw [show fR (some l) = Fence.wide.inRound l from rfl, fenced_inRound]; exact h3

theorem wpIn_of_wp {P : Program} {r : Option Nat} {o : Oper} {a : Act} {w : World} {K : Act → World → Prop} {Q : Exit → Act → World → Prop} (hd : ∀ c, o.op ≠ .defer c) (h : o.wp P a w K Q) : o.wpIn (fR r) 0 P a w K Q := by
  refine ⟨fun f _ => fR_fn r f, ?_⟩
  rw [Oper.semAt_plain (fR r) a.eval o hd]
  unfold Oper.wp at h
  generalize (execOp a.eval o).run P w = z at h
  cases z with
  | ok x w' =>
    cases x with
    | value v => exact h
    | skip => exact h
    | defer d => exact h
    | enter f args => exact ⟨fun hh => (by rw [fR_depth] at hh; cases hh), callsIn_fR h⟩
    | row row args => exact ⟨fun hh => (by rw [fR_depth] at hh; cases hh), rowsIn_fR h⟩
    | _ => exact h.elim
  | halt x w' => cases x <;> first | exact h | exact h.elim

theorem exec_op {C : Ctx} {σ : St} {o : Oper} {x : Foot × St} (h : execR C o σ = some x) : ∀ c, o.op ≠ .defer c := by
  intro c hc
  obtain ⟨dst, op, ty, pos, after, guard⟩ := o
  simp only at hc
  subst hc
  simp [execR, execA, stepA] at h

/-- One operation, its guard with it, where the names that it may give are free. -/
theorem one_soundA {C : Ctx} (hC : CtxOK C) {r : Option Nat} {N : Nat} {k0 : Kx} {σ σ' : St} {k : Kx} {a : Act} (hR : RelA N k0 σ k a) {ops : Array Oper} {o : Oper} {f : Foot} (h : oneR C ops o σ = some (f, σ')) (hfr : Fresh k σ σ' f) {K : Act → World → Prop} {Q : Exit → Act → World → Prop}
    (hK : ∀ k' a', RelA N k0 σ' k' a' → Named k k' σ σ' f → WExt k k' → Near o.dst a a' → K a' k'.w) :
    if Region.wanted o (yielded ops a.tmps) then o.wpIn (fR r) 0 C.E.P a k.w K Q else K (a.put o.dst undef) k.w := by
  rcases one_cases h with ⟨hw, hf, hs⟩ | ⟨hw, he⟩
  · rw [wanted_spec hR.f hw, if_neg (by simp)]
    subst hs
    subst hf
    exact hK k _ (hR.put (v := .tup []) ⟨#[], rfl, rfl⟩ o.dst) (Named.still (by simp) rfl) (WExt.refl k) near_put
  · rw [wanted_spec hR.f hw, if_pos rfl]
    exact wpIn_of_wp (exec_op he) (exec_sound hC hR he hfr hK)

/-- One operation, its guard with it. -/
theorem one_sound {C : Ctx} (hC : CtxOK C) {r : Option Nat} {N : Nat} {k0 : Kx} {σ σ' : St} {k : Kx} {a : Act} (hR : Rel N k0 σ k a) {ops : Array Oper} {o : Oper} {f : Foot} (h : oneR C ops o σ = some (f, σ')) {K : Act → World → Prop} {Q : Exit → Act → World → Prop}
    (hK : ∀ k' a', Rel N k0 σ' k' a' → WExt k k' → Near o.dst a a' → K a' k'.w) :
    if Region.wanted o (yielded ops a.tmps) then o.wpIn (fR r) 0 C.E.P a k.w K Q else K (a.put o.dst undef) k.w :=
  one_soundA hC hR.toRelA h ⟨fun _ => hR.u, fun _ n hn hb => by have := hR.u n hn; omega⟩ fun k' a' h1 h2 h3 h4 => hK k' a' ⟨h1, fun n hn => by
    by_cases hf : f = .all
    · exact h2.1 hf n hn
    · obtain ⟨g1, g2⟩ := h2.2 hf
      rcases g2 n hn with hn | hn
      · have := hR.u n hn; omega
      · exact hn.2⟩ h3 h4

end Go.Ab
