/-
  CODE: the theorem.
-/
import Derived.Test.YtnklmlnkiepdiaaGreatDoorAbRng
import Derived.LoopNIn
set_option linter.unusedVariables false
set_option linter.unusedSimpArgs false
set_option linter.unusedSectionVars false
namespace Go.Ab
variable [Tabs]
open Go.RowKit (Below)

def HT.inner : HT → HT
  | .join _ _ h => h
  | h => h

def LoopOK (C : Ctx) (id : Nat) (b : Code) (h : HT) : Prop :=
  ∀ L, C.Λ id = some L → ∀ (c : L.keep.ty.den) (v : L.T.ty.den), ∃ n, L.run (fun e σ => some (e, σ)) none c v = loopC C b h L.T L.exits L.rets (fun e σ => some (e, σ)) none (L.keep.base c) n v

/-- A range over a function: its run is rngC's; its iterator has a contract. -/
def RngOK (C : Ctx) (id : Nat) (ps : Array Tmp) (a b : Code) (h : HT) : Prop :=
  ∀ L, C.Γ id = some L → (∀ (c : L.keep.ty.den) (xs : List L.te.den) (v : L.T.ty.den), L.run (fun e σ => some (e, σ)) none c xs v = rngC C a b h ps.toList L (fun e σ => some (e, σ)) none (L.keep.base c) xs v) ∧
    GetOKW C.E.P L.te L.parts L.get ∧ L.parts.length = ps.size ∧ noRange a = true ∧ noRange b = true

def LoopsOK (C : Ctx) : Code → HT → Prop
  | .seq a b, h => LoopsOK C a h.inner.l ∧ LoopsOK C b h.inner.r
  | .cond _ a b, h => LoopsOK C a h.inner.l ∧ LoopsOK C b h.inner.r
  | .block _ a, h => LoopsOK C a h.inner.l
  | .loop b, .loop id h => LoopOK C id b h ∧ LoopsOK C b h
  | .rangeFunc _ ps a b, .rng id h => RngOK C id ps a b h ∧ LoopsOK C a h.l ∧ LoopsOK C b h.r
  | _, _ => True


/-- operations that are still -/
theorem path_still {C : Ctx} (hC : NatCtx C) {ops : Array Oper} : ∀ (L : Tr) (σ σf : St), Path C ops L σ σf → (∀ x ∈ L, x.2.2.isStill = true) → σf.hp = σ.hp ∧ σf.nx = σ.nx ∧ ∀ i, (∀ x ∈ L, x.2.1.dst ≠ some i) → rdT σf.fr i = rdT σ.fr i := by
  intro L
  induction L with
  | nil => intro σ σf h _; have h : σ = σf := h; subst h; exact ⟨rfl, rfl, fun _ _ => rfl⟩
  | cons x r ih =>
    intro σ σf h hs
    obtain ⟨σ', h1, h2⟩ := h
    obtain ⟨j, o, f⟩ := x
    have hf := hs (j, o, f) (by simp)
    cases f with
    | still ns ls =>
      obtain ⟨v, e, _⟩ := step_still hC h1
      obtain ⟨g1, g2, g3⟩ := ih σ' σf h2 (fun y hy => hs y (by simp [hy]))
      subst e
      refine ⟨g1, g2, fun i hi => ?_⟩
      rw [g3 i (fun y hy => hi y (by simp [hy]))]
      exact rdT_put fun d hd e => hi (j, o, .still ns ls) (by simp) (by rw [hd, e])
    | _ => simp [Foot.isStill] at hf

theorem clearFr_rd : ∀ (l : List Oper) (fr : Fr) (i : Nat), (rdT (clearFr fr l) i = .one .undef ∨ ((∀ o ∈ l, o.dst ≠ some i) ∧ rdT (clearFr fr l) i = rdT fr i)) ∧ (clearFr fr l).length = fr.length := by
  intro l
  induction l with
  | nil => intro fr i; exact ⟨Or.inr ⟨fun o ho => by (cases ho), rfl⟩, rfl⟩
  | cons o r ih =>
    intro fr i
    simp only [clearFr]
    obtain ⟨h1, h2⟩ := ih (putT fr o.dst (.one .undef)) i
    refine ⟨?_, by rw [h2]; cases o.dst <;> simp [putT]⟩
    rcases h1 with h1 | ⟨h1, h3⟩
    · exact Or.inl h1
    · by_cases hd : o.dst = some i
      · left
        rw [h3, hd]
        simp only [putT, rdT, List.getD_eq_getElem?_getD, List.getElem?_set]
        rw [if_pos trivial]
        split <;> rfl
      · refine Or.inr ⟨fun o' ho => ?_, ?_⟩
        · rcases List.mem_cons.1 ho with h | h
          · subst h; exact hd
          · exact h1 o' h
        · rw [h3]
          exact rdT_put fun d hd' e => hd (by rw [hd', e])

theorem opsWrite_kept {keep : List Nat} {l : List Oper} (h : opsWrite keep l = false) {i : Nat} (hi : i ∈ keep) : ∀ o ∈ l, o.dst ≠ some i := by
  intro o ho hd
  have : opsWrite keep l = true := List.any_eq_true.2 ⟨o, ho, by rw [hd]; simpa using hi⟩
  rw [h] at this
  cases this

theorem same_region {id : Nat} {ops : Array Oper} {draw : Bool} {a a' : Act} (h : Kept ops.toList a a') : Same (.region id ops draw) a a' :=
  ⟨fun keep hw i hi => h.other i (opsWrite_kept (by simpa [writes] using hw) hi), h.size⟩

theorem rounds_mono {F : Fence} {m : Nat} {P : Program} {c : Code} {Q Q' : Exit → Act → World → Prop} (hq : ∀ e a w, Q e a w → Q' e a w) : ∀ (n : Nat) (a : Act) (w : World), Code.roundsIn F m P c Q n a w → Code.roundsIn F m P c Q' n a w := by
  intro n
  induction n with
  | zero => intro a w h; exact h.elim
  | succ n ih =>
    intro a w h
    rw [roundsIn_succ] at h ⊢
    refine Go.Code.wpIn_mono (fun e a w h => ?_) h
    cases e <;> first | exact ih _ _ h | exact hq _ _ _ h

section
variable {C : Ctx} (hC : CtxOK C) {r : Option Nat} (hmix : C.E.P.follows .mixedOrders = true) {N : Nat} {k0 : Kx} (hlo : ∀ n, k0.U n → n < C.lo)
include hC hmix hlo

/-- the frame that a join or a loop starts from, later -/
theorem join_ok {T : Tmpl} {σ σ1 : St} {k k1 : Kx} {a a1 : Act} {keep : List Nat} {v : T.ty.den} (hR : Rel N k0 σ k a) (hR1 : Rel N k0 σ1 k1 a1) (hW : WExt k k1) (hsz : a1.tmps.size = a.tmps.size) (hsl : ∀ i ∈ keep, a1.tmps.getD i undef = a.tmps.getD i undef) (hp : T.pack C.lo σ1 = some v) :
    ∃ k', k'.w = k1.w ∧ Rel N k0 (T.unpack (keepFr keep σ.fr) v) k' a1 ∧ WExt k k' := by
  obtain ⟨h1, h2⟩ := keepFr_ok hR.f keep
  obtain ⟨k', e1, e2, e3⟩ := pack_sound (base := keepFr keep σ.fr) hR1 hlo hp fun k' hw hW' => by
    exact solid_later h2 h1 (hW.trans hW').weak hsz hsl
  exact ⟨k', e1, e2, hW.trans e3⟩

/-- Rounds of a loop. -/
theorem loop_ok {b : Code} {h : HT} (ih : ∀ (σ σ' : St) (e : Ex) (k : Kx) (a : Act), codeR C b h σ = some (e, σ') → Rel N k0 σ k a → b.wpIn (fR r) 0 C.E.P (Post N k0 b e σ' k a) a k.w) {T : Tmpl} {exits : List (Nat × Tmpl)} {rets : Option Tmpl} {keep : List Nat} {base : Fr}
    (hS : SolidFr keep base) (hw : writes keep b = false) {kb : Kx} {ab : Act} (hF : FRel kb base ab.tmps) {e : Ex} {σ' : St} :
    ∀ (n : Nat) (v : T.ty.den) (k : Kx) (a : Act), loopC C b h T exits rets (fun e σ => some (e, σ)) none base n v = some (e, σ') → Rel N k0 (T.unpack base v) k a → WExt kb k → Same b ab a →
      Code.roundsIn (fR r) 0 C.E.P b (fun e' a' w' => e' = exOf e ∧ ∃ k', k'.w = w' ∧ Rel N k0 σ' k' a' ∧ WExt kb k' ∧ Same b ab a') n a k.w := by
  intro n
  induction n with
  | zero => intro v k a hl; simp [loopC, iter] at hl
  | succ n ihn =>
    intro v k a hl hR hW hSm
    have hl' : roundC C b h T exits rets (fun e σ => some (e, σ)) none base (loopC C b h T exits rets (fun e σ => some (e, σ)) none base n) v = some (e, σ') := hl
    unfold roundC at hl'
    rw [denC_nat hC.nat] at hl'
    cases hc : codeR C b h (T.unpack base v) with
    | none => rw [hc] at hl'; cases hl'
    | some p =>
      obtain ⟨e1, σ1⟩ := p
      rw [hc] at hl'
      simp only [bindO_some] at hl'
      rw [roundsIn_succ]
      refine Go.Code.wpIn_mono ?_ (ih _ σ1 e1 k a hc hR)
      intro e' a' w' hpost
      obtain ⟨he', k1, hw1, hR1, hW1, hS1⟩ := hpost
      subst he'; subst hw1
      have hWb := hW.trans hW1
      have hSb : Same b ab a' := ⟨fun kp hk i hi => (hS1.slots kp hk i hi).trans (hSm.slots kp hk i hi), hS1.size.trans hSm.size⟩
      have hpk : ∀ (Tx : Tmpl) (u : Tx.ty.den), Tx.pack C.lo σ1 = some u → ∃ k', k'.w = k1.w ∧ Rel N k0 (Tx.unpack base u) k' a' ∧ WExt kb k' := by
        intro Tx u hu
        obtain ⟨k', g1, g2, g3⟩ := pack_sound (base := base) hR1 hlo hu fun k' hw' hW' => by
          exact solid_later hS hF (hWb.trans hW').weak hSb.size (hSb.slots keep hw)
        exact ⟨k', g1, g2, hWb.trans g3⟩
      cases e1 with
      | normal =>
        simp only [roundK] at hl'
        cases hu : T.pack C.lo σ1 with
        | none => rw [hu] at hl'; cases hl'
        | some u =>
          rw [hu] at hl'
          simp only at hl'
          obtain ⟨k', g1, g2, g3⟩ := hpk T u hu
          have := ihn u k' a' hl' g2 g3 hSb
          rw [g1] at this
          exact this
      | exit m =>
        simp only [roundK] at hl'
        cases hx : findT exits m with
        | none => rw [hx] at hl'; cases hl'
        | some Tx =>
          rw [hx] at hl'
          simp only at hl'
          cases hu : Tx.pack C.lo σ1 with
          | none => rw [hu] at hl'; cases hl'
          | some u =>
            rw [hu] at hl'
            simp only [Option.some.injEq, Prod.mk.injEq] at hl'
            obtain ⟨rfl, rfl⟩ := hl'
            obtain ⟨k', g1, g2, g3⟩ := hpk Tx u hu
            exact ⟨rfl, k', g1, g2, g3, hSb⟩
      | ret =>
        simp only [roundK] at hl'
        cases hx : rets with
        | none => rw [hx] at hl'; cases hl'
        | some Tx =>
          rw [hx] at hl'
          simp only at hl'
          cases hu : Tx.pack C.lo σ1 with
          | none => rw [hu] at hl'; cases hl'
          | some u =>
            rw [hu] at hl'
            simp only [Option.some.injEq, Prod.mk.injEq] at hl'
            obtain ⟨rfl, rfl⟩ := hl'
            obtain ⟨k', g1, g2, g3⟩ := hpk Tx u hu
            exact ⟨rfl, k', g1, g2, g3, hSb⟩

end

section
variable {C : Ctx} (hC : CtxOK C) (hmix : C.E.P.follows .mixedOrders = true) {N : Nat}
include hC hmix

theorem code_sound0 : ∀ (c : Code) (h : HT), LoopsOK C c h → ∀ (k0 : Kx), (∀ n, k0.U n → n < C.lo) → ∀ (r : Option Nat), (r = none ∨ noRange c = true) → ∀ (σ σ' : St) (e : Ex) (k : Kx) (a : Act), codeR C c h σ = some (e, σ') → Rel N k0 σ k a → c.wpIn (fR r) 0 C.E.P (Post N k0 c e σ' k a) a k.w := by
  intro c
  induction c with
  | skip =>
    intro h _ k0 hlo r hr σ σ' e k a hc hR
    simp only [codeR, denC, Option.some.injEq, Prod.mk.injEq] at hc
    obtain ⟨rfl, rfl⟩ := hc
    exact wpIn_skip ⟨rfl, k, rfl, hR, WExt.refl k, Same.refl _ a⟩
  | exit n =>
    intro h _ k0 hlo r hr σ σ' e k a hc hR
    have hc : some (Ex.exit n, σ) = some (e, σ') := by cases h <;> exact hc
    simp only [Option.some.injEq, Prod.mk.injEq] at hc
    obtain ⟨rfl, rfl⟩ := hc
    exact wpIn_exit ⟨rfl, k, rfl, hR, WExt.refl k, Same.refl _ a⟩
  | ret =>
    intro h _ k0 hlo r hr σ σ' e k a hc hR
    have hc : some (Ex.ret, σ) = some (e, σ') := by cases h <;> exact hc
    simp only [Option.some.injEq, Prod.mk.injEq] at hc
    obtain ⟨rfl, rfl⟩ := hc
    exact wpIn_ret ⟨rfl, k, rfl, hR, WExt.refl k, Same.refl _ a⟩
  | region id ops draw =>
    intro h _ k0 hlo r hr σ σ' e k a hc hR
    have plain : ∀ od b ms q, orderOf draw ops b ms = some od → denOps C ops od q ops.toList 0 [] σ (fun σ => some (Ex.normal, σ)) none = some (e, σ') → (Code.region id ops draw).wpIn (fR r) 0 C.E.P (Post N k0 (.region id ops draw) e σ' k a) a k.w := by
      intro od b ms q ho hd
      rw [denOps_nat hC.nat] at hd
      cases hr : opsR C ops od q ops.toList 0 [] σ with
      | none => rw [hr] at hd; cases hd
      | some σf =>
        rw [hr] at hd
        simp only [bindO_some, Option.some.injEq, Prod.mk.injEq] at hd
        obtain ⟨rfl, rfl⟩ := hd
        exact region_sound hC hmix ho hr hR fun k' a' h1 h2 h3 => ⟨rfl, k', rfl, h1, h2, same_region h3⟩
    have undrawn : draw = false → denOps C ops none false ops.toList 0 [] σ (fun σ => some (Ex.normal, σ)) none = some (e, σ') → (Code.region id ops draw).wpIn (fR r) 0 C.E.P (Post N k0 (.region id ops draw) e σ' k a) a k.w := by
      intro hd
      exact plain none false [] false (by subst hd; rfl)
    unfold codeR at hc
    cases h with
    | test d ms =>
      simp only [denC] at hc
      cases ho : orderOf draw ops false ms with
      | none => rw [ho] at hc; cases hc
      | some od =>
        rw [ho] at hc
        simp only at hc
        rw [denOps_nat hC.nat] at hc
        cases hr : opsR C ops od true ops.toList 0 [] σ with
        | none => rw [hr] at hc; cases hc
        | some σf =>
          rw [hr] at hc
          simp only [bindO_some] at hc
          cases hb : boolAt σf.fr d with
          | none => rw [hb] at hc; cases hc
          | some b =>
            rw [hb] at hc
            simp only [bindO_some, Option.some.injEq, Prod.mk.injEq] at hc
            obtain ⟨rfl, rfl⟩ := hc
            obtain ⟨L, e1, e2, e3, e4, _⟩ := opsR_path hC.nat ops.toList 0 [] σ σf hr
            obtain ⟨g1, g2, g3⟩ := path_still hC.nat L σ σf e3 (e4 rfl)
            refine region_sound hC hmix ho hr hR fun k' a' h1 h2 h3 => ⟨rfl, k', rfl, ?_, h2, same_region h3⟩
            have hv : rdT σf.fr d = .one (.val .bool b) := by
              unfold boolAt at hb
              split at hb
              · rename_i b' hb'; simp only [Option.some.injEq] at hb; subst hb; exact hb'
              · cases hb
            refine ⟨⟨h1.hp.trans g1, h1.nx.trans g2, h1.h, ?_, h1.ext, h1.room, h1.below, h1.defers⟩, fun n hn => by have := h1.u n hn; rw [g2] at this; exact this⟩
            have hclear : FRel k' (clearFr σ.fr ops.toList) a'.tmps := by
              refine ⟨by rw [(clearFr_rd ops.toList σ.fr 0).2, hR.f.1, h3.size], fun i => ?_⟩
              rcases (clearFr_rd ops.toList σ.fr i).1 with h4 | ⟨h4, h5⟩
              · rw [h4]; exact Or.inl rfl
              · rw [h5, ← g3 i (fun x hx => h4 x.2.1 (by rw [← e1]; exact List.mem_map.2 ⟨x, hx, rfl⟩))]
                exact h1.f.2 i
            refine hclear.set ?_
            rw [← hv]
            exact h1.f.2 d
    | draw ms =>
      simp only [denC] at hc
      cases ho : orderOf draw ops false ms with
      | none => rw [ho] at hc; cases hc
      | some od => rw [ho] at hc; exact plain od false ms false ho hc
    | pair ms =>
      simp only [denC] at hc
      cases ho : orderOf draw ops true ms with
      | none => rw [ho] at hc; cases hc
      | some od => rw [ho] at hc; exact plain od true ms false ho hc
    | nil => cases draw with | true => cases hc | false => simp only [denC] at hc; exact undrawn rfl hc
    | node l r => cases draw with | true => cases hc | false => simp only [denC] at hc; exact undrawn rfl hc
    | join T keep h => cases draw with | true => cases hc | false => simp only [denC] at hc; exact undrawn rfl hc
    | loop id h => cases draw with | true => cases hc | false => simp only [denC] at hc; exact undrawn rfl hc
    | rng id h => cases draw with | true => cases hc | false => simp only [denC] at hc; exact undrawn rfl hc
  | seq x y ihx ihy =>
    intro h hL k0 hlo r hr σ σ' e k a hc hR
    have hrx : r = none ∨ noRange x = true := hr.imp id fun h => by simp only [noRange, Bool.and_eq_true] at h; exact h.1
    have hry : r = none ∨ noRange y = true := hr.imp id fun h => by simp only [noRange, Bool.and_eq_true] at h; exact h.2
    have plain : ∀ (ha hb : HT), LoopsOK C x ha → LoopsOK C y hb → denC C x ha σ (fun e σ' => match e with | .normal => denC C y hb σ' (fun e σ => some (e, σ)) none | .exit n => some (.exit n, σ') | .ret => some (.ret, σ')) none = some (e, σ') →
        (Code.seq x y).wpIn (fR r) 0 C.E.P (Post N k0 (.seq x y) e σ' k a) a k.w := by
      intro ha hb hLa hLb hd
      rw [denC_nat hC.nat] at hd
      cases h1 : codeR C x ha σ with
      | none => rw [h1] at hd; cases hd
      | some p =>
        obtain ⟨e1, σ1⟩ := p
        rw [h1] at hd
        simp only [bindO_some] at hd
        refine wpIn_seq (Go.Code.wpIn_mono ?_ (ihx ha hLa k0 hlo r hrx σ σ1 e1 k a h1 hR))
        intro e' a' w' hpost
        obtain ⟨he', k1, hw1, hR1, hW1, hS1⟩ := hpost
        subst he'; subst hw1
        have hSx : ∀ kp, writes kp (.seq x y) = false → writes kp x = false ∧ writes kp y = false := fun kp hk => by simpa [writes] using hk
        cases e1 with
        | normal =>
          refine Go.Code.wpIn_mono ?_ (ihy hb hLb k0 hlo r hry σ1 σ' e k1 a' hd hR1)
          intro e'' a'' w'' hpost
          obtain ⟨he'', k2, hw2, hR2, hW2, hS2⟩ := hpost
          exact ⟨he'', k2, hw2, hR2, hW1.trans hW2, ⟨fun kp hk i hi => (hS2.slots kp (hSx kp hk).2 i hi).trans (hS1.slots kp (hSx kp hk).1 i hi), hS2.size.trans hS1.size⟩⟩
        | exit m =>
          simp only [Option.some.injEq, Prod.mk.injEq] at hd
          obtain ⟨rfl, rfl⟩ := hd
          exact ⟨rfl, k1, rfl, hR1, hW1, ⟨fun kp hk i hi => hS1.slots kp (hSx kp hk).1 i hi, hS1.size⟩⟩
        | ret =>
          simp only [Option.some.injEq, Prod.mk.injEq] at hd
          obtain ⟨rfl, rfl⟩ := hd
          exact ⟨rfl, k1, rfl, hR1, hW1, ⟨fun kp hk i hi => hS1.slots kp (hSx kp hk).1 i hi, hS1.size⟩⟩
    unfold codeR at hc
    cases h with
    | join T keep h =>
      simp only [denC, joinK] at hc
      cases hg : (!writes keep x && !writes keep y) with
      | false => rw [hg] at hc; cases hc
      | true =>
        rw [hg] at hc
        simp only [gate_true] at hc
        simp only [Bool.and_eq_true, Bool.not_eq_true'] at hg
        rw [denC_nat hC.nat] at hc
        cases h1 : codeR C x h.l σ with
        | none => rw [h1] at hc; cases hc
        | some p =>
          obtain ⟨e1, σ1⟩ := p
          rw [h1] at hc
          simp only [bindO_some] at hc
          cases e1 with
          | exit m => cases hc
          | ret => cases hc
          | normal =>
            simp only at hc
            rw [denC_nat hC.nat] at hc
            cases h2 : codeR C y h.r σ1 with
            | none => rw [h2] at hc; cases hc
            | some p =>
              obtain ⟨e2, σ2⟩ := p
              rw [h2] at hc
              simp only [bindO_some] at hc
              cases e2 with
              | exit m => cases hc
              | ret => cases hc
              | normal =>
                simp only at hc
                cases hp : T.pack C.lo σ2 with
                | none => rw [hp] at hc; cases hc
                | some v =>
                  rw [hp] at hc
                  simp only [bindO_some, Option.some.injEq, Prod.mk.injEq] at hc
                  obtain ⟨rfl, rfl⟩ := hc
                  refine wpIn_seq (Go.Code.wpIn_mono ?_ (ihx h.l hL.1 k0 hlo r hrx σ σ1 .normal k a h1 hR))
                  intro e' a' w' hpost
                  obtain ⟨he', k1, hw1, hR1, hW1, hS1⟩ := hpost
                  subst he'; subst hw1
                  refine Go.Code.wpIn_mono ?_ (ihy h.r hL.2 k0 hlo r hry σ1 σ2 .normal k1 a' h2 hR1)
                  intro e'' a'' w'' hpost
                  obtain ⟨he'', k2, hw2, hR2, hW2, hS2⟩ := hpost
                  subst he''; subst hw2
                  have hSx : ∀ kp, writes kp (.seq x y) = false → writes kp x = false ∧ writes kp y = false := fun kp hk => by simpa [writes] using hk
                  have hSm : Same (.seq x y) a a'' := ⟨fun kp hk i hi => (hS2.slots kp (hSx kp hk).2 i hi).trans (hS1.slots kp (hSx kp hk).1 i hi), hS2.size.trans hS1.size⟩
                  obtain ⟨k', q1, q2, q3⟩ := join_ok hC hmix hlo hR hR2 (hW1.trans hW2) hSm.size (hSm.slots keep (by simp [writes, hg.1, hg.2])) hp
                  exact ⟨rfl, k', q1, q2, q3, hSm⟩
    | nil => simp only [denC] at hc; exact plain _ _ hL.1 hL.2 hc
    | node l r => simp only [denC] at hc; exact plain _ _ hL.1 hL.2 hc
    | loop id h => simp only [denC] at hc; exact plain _ _ hL.1 hL.2 hc
    | rng id h => simp only [denC] at hc; exact plain _ _ hL.1 hL.2 hc
    | test d ms => simp only [denC] at hc; exact plain _ _ hL.1 hL.2 hc
    | draw ms => simp only [denC] at hc; exact plain _ _ hL.1 hL.2 hc
    | pair ms => simp only [denC] at hc; exact plain _ _ hL.1 hL.2 hc
  | cond c x y ihx ihy =>
    intro h hL k0 hlo r hr σ σ' e k a hc hR
    have hrx : r = none ∨ noRange x = true := hr.imp id fun h => by simp only [noRange, Bool.and_eq_true] at h; exact h.1
    have hry : r = none ∨ noRange y = true := hr.imp id fun h => by simp only [noRange, Bool.and_eq_true] at h; exact h.2
    have hSx : ∀ kp, writes kp (.cond c x y) = false → writes kp x = false ∧ writes kp y = false := fun kp hk => by simpa [writes] using hk
    have test : ∀ t, rdC σ.fr c = .val .bool t → a.eval c = .bool t := by
      intro t ht
      have := rdC_rel hR.f (a := a) rfl c (by rw [ht]; simp)
      rw [ht] at this
      have this : [a.eval c] = [.bool t] := this
      simpa using this
    have armx : ∀ t, rdC σ.fr c = .val .bool t → t = true → ∀ {Q : Exit → Act → World → Prop}, x.wpIn (fR r) 0 C.E.P Q a k.w → (Code.cond c x y).wpIn (fR r) 0 C.E.P Q a k.w := fun t h1 h2 {Q} hx => wpIn_cond_true (by rw [test t h1, h2]) hx
    have army : ∀ t, rdC σ.fr c = .val .bool t → ¬ t = true → ∀ {Q : Exit → Act → World → Prop}, y.wpIn (fR r) 0 C.E.P Q a k.w → (Code.cond c x y).wpIn (fR r) 0 C.E.P Q a k.w := fun t h1 h2 {Q} hx => wpIn_cond_false (by rw [test t h1]; simp only [Bool.not_eq_true] at h2; rw [h2]) hx
    have plain : ∀ (ha hb : HT), LoopsOK C x ha → LoopsOK C y hb → (match rdC σ.fr c with | .val .bool t => if t = true then denC C x ha σ (fun e σ => some (e, σ)) none else denC C y hb σ (fun e σ => some (e, σ)) none | _ => none) = some (e, σ') →
        (Code.cond c x y).wpIn (fR r) 0 C.E.P (Post N k0 (.cond c x y) e σ' k a) a k.w := by
      intro ha hb hLa hLb hd
      split at hd
      · rename_i t ht
        split at hd
        · rename_i h1
          refine armx t ht h1 (Go.Code.wpIn_mono ?_ (ihx ha hLa k0 hlo r hrx σ σ' e k a hd hR))
          intro e' a' w' hpost
          obtain ⟨he', k1, hw1, hR1, hW1, hS1⟩ := hpost
          exact ⟨he', k1, hw1, hR1, hW1, ⟨fun kp hk i hi => hS1.slots kp (hSx kp hk).1 i hi, hS1.size⟩⟩
        · rename_i h1
          refine army t ht h1 (Go.Code.wpIn_mono ?_ (ihy hb hLb k0 hlo r hry σ σ' e k a hd hR))
          intro e' a' w' hpost
          obtain ⟨he', k1, hw1, hR1, hW1, hS1⟩ := hpost
          exact ⟨he', k1, hw1, hR1, hW1, ⟨fun kp hk i hi => hS1.slots kp (hSx kp hk).2 i hi, hS1.size⟩⟩
      · cases hd
    unfold codeR at hc
    cases h with
    | join T keep h =>
      simp only [denC] at hc
      split at hc
      · rename_i t ht
        simp only [joinK] at hc
        cases hg : (!writes keep x && !writes keep y) with
        | false => rw [hg] at hc; cases hc
        | true =>
          rw [hg] at hc
          simp only [gate_true] at hc
          simp only [Bool.and_eq_true, Bool.not_eq_true'] at hg
          split at hc
          · rename_i h0
            rw [denC_nat hC.nat] at hc
            cases h1 : codeR C x h.l σ with
            | none => rw [h1] at hc; cases hc
            | some p =>
              obtain ⟨e1, σ1⟩ := p
              rw [h1] at hc
              simp only [bindO_some] at hc
              cases e1 with
              | exit m => cases hc
              | ret => cases hc
              | normal =>
                simp only at hc
                cases hp : T.pack C.lo σ1 with
                | none => rw [hp] at hc; cases hc
                | some v =>
                  rw [hp] at hc
                  simp only [bindO_some, Option.some.injEq, Prod.mk.injEq] at hc
                  obtain ⟨rfl, rfl⟩ := hc
                  refine armx t ht h0 (Go.Code.wpIn_mono ?_ (ihx h.l hL.1 k0 hlo r hrx σ σ1 .normal k a h1 hR))
                  intro e' a' w' hpost
                  obtain ⟨he', k1, hw1, hR1, hW1, hS1⟩ := hpost
                  subst he'; subst hw1
                  obtain ⟨k', q1, q2, q3⟩ := join_ok hC hmix hlo hR hR1 hW1 hS1.size (hS1.slots keep hg.1) hp
                  exact ⟨rfl, k', q1, q2, q3, ⟨fun kp hk i hi => hS1.slots kp (hSx kp hk).1 i hi, hS1.size⟩⟩
          · rename_i h0
            rw [denC_nat hC.nat] at hc
            cases h1 : codeR C y h.r σ with
            | none => rw [h1] at hc; cases hc
            | some p =>
              obtain ⟨e1, σ1⟩ := p
              rw [h1] at hc
              simp only [bindO_some] at hc
              cases e1 with
              | exit m => cases hc
              | ret => cases hc
              | normal =>
                simp only at hc
                cases hp : T.pack C.lo σ1 with
                | none => rw [hp] at hc; cases hc
                | some v =>
                  rw [hp] at hc
                  simp only [bindO_some, Option.some.injEq, Prod.mk.injEq] at hc
                  obtain ⟨rfl, rfl⟩ := hc
                  refine army t ht h0 (Go.Code.wpIn_mono ?_ (ihy h.r hL.2 k0 hlo r hry σ σ1 .normal k a h1 hR))
                  intro e' a' w' hpost
                  obtain ⟨he', k1, hw1, hR1, hW1, hS1⟩ := hpost
                  subst he'; subst hw1
                  obtain ⟨k', q1, q2, q3⟩ := join_ok hC hmix hlo hR hR1 hW1 hS1.size (hS1.slots keep hg.2) hp
                  exact ⟨rfl, k', q1, q2, q3, ⟨fun kp hk i hi => hS1.slots kp (hSx kp hk).2 i hi, hS1.size⟩⟩
      · cases hc
    | nil => simp only [denC] at hc; exact plain _ _ hL.1 hL.2 hc
    | node l r => simp only [denC] at hc; exact plain _ _ hL.1 hL.2 hc
    | loop id h => simp only [denC] at hc; exact plain _ _ hL.1 hL.2 hc
    | rng id h => simp only [denC] at hc; exact plain _ _ hL.1 hL.2 hc
    | test d ms => simp only [denC] at hc; exact plain _ _ hL.1 hL.2 hc
    | draw ms => simp only [denC] at hc; exact plain _ _ hL.1 hL.2 hc
    | pair ms => simp only [denC] at hc; exact plain _ _ hL.1 hL.2 hc
  | block id x ihx =>
    intro h hL k0 hlo r hr σ σ' e k a hc hR
    have hrx : r = none ∨ noRange x = true := hr
    have hSx : ∀ {a' : Act}, Same x a a' → Same (.block id x) a a' := fun hS => ⟨fun kp hk i hi => hS.slots kp (by simpa [writes] using hk) i hi, hS.size⟩
    have plain : ∀ (ha : HT), LoopsOK C x ha → denC C x ha σ (fun e σ' => match e with | .normal => some (.normal, σ') | .exit n => if n = id then some (.normal, σ') else some (.exit n, σ') | .ret => some (.ret, σ')) none = some (e, σ') →
        (Code.block id x).wpIn (fR r) 0 C.E.P (Post N k0 (.block id x) e σ' k a) a k.w := by
      intro ha hLa hd
      rw [denC_nat hC.nat] at hd
      cases h1 : codeR C x ha σ with
      | none => rw [h1] at hd; cases hd
      | some p =>
        obtain ⟨e1, σ1⟩ := p
        rw [h1] at hd
        simp only [bindO_some] at hd
        refine wpIn_block (Go.Code.wpIn_mono ?_ (ihx ha hLa k0 hlo r hrx σ σ1 e1 k a h1 hR))
        intro e' a' w' hpost
        obtain ⟨he', k1, hw1, hR1, hW1, hS1⟩ := hpost
        subst he'; subst hw1
        cases e1 with
        | normal =>
          simp only [Option.some.injEq, Prod.mk.injEq] at hd
          obtain ⟨rfl, rfl⟩ := hd
          exact ⟨rfl, k1, rfl, hR1, hW1, hSx hS1⟩
        | exit m =>
          simp only at hd
          simp only [exOf, Exit.inBlock]
          split at hd
          · rename_i hm
            simp only [Option.some.injEq, Prod.mk.injEq] at hd
            obtain ⟨rfl, rfl⟩ := hd
            rw [if_pos hm]
            exact ⟨rfl, k1, rfl, hR1, hW1, hSx hS1⟩
          · rename_i hm
            simp only [Option.some.injEq, Prod.mk.injEq] at hd
            obtain ⟨rfl, rfl⟩ := hd
            rw [if_neg hm]
            exact ⟨rfl, k1, rfl, hR1, hW1, hSx hS1⟩
        | ret =>
          simp only [Option.some.injEq, Prod.mk.injEq] at hd
          obtain ⟨rfl, rfl⟩ := hd
          exact ⟨rfl, k1, rfl, hR1, hW1, hSx hS1⟩
    unfold codeR at hc
    cases h with
    | join T keep h =>
      simp only [denC, joinK] at hc
      cases hg : (!writes keep x) with
      | false => rw [hg] at hc; cases hc
      | true =>
        rw [hg] at hc
        simp only [gate_true] at hc
        simp only [Bool.not_eq_true'] at hg
        rw [denC_nat hC.nat] at hc
        cases h1 : codeR C x h.l σ with
        | none => rw [h1] at hc; cases hc
        | some p =>
          obtain ⟨e1, σ1⟩ := p
          rw [h1] at hc
          simp only [bindO_some] at hc
          have fin : ∀ v, T.pack C.lo σ1 = some v → (e1 = .normal ∨ e1 = .exit id) → bindO (some v) (fun v => (some (Ex.normal, T.unpack (keepFr keep σ.fr) v) : Option (Ex × St))) none = some (e, σ') → (Code.block id x).wpIn (fR r) 0 C.E.P (Post N k0 (.block id x) e σ' k a) a k.w := by
            intro v hp he1 hd
            simp only [bindO_some, Option.some.injEq, Prod.mk.injEq] at hd
            obtain ⟨rfl, rfl⟩ := hd
            refine wpIn_block (Go.Code.wpIn_mono ?_ (ihx h.l hL k0 hlo r hrx σ σ1 e1 k a h1 hR))
            intro e' a' w' hpost
            obtain ⟨he', k1, hw1, hR1, hW1, hS1⟩ := hpost
            subst he'; subst hw1
            obtain ⟨k', q1, q2, q3⟩ := join_ok hC hmix hlo hR hR1 hW1 hS1.size (hS1.slots keep hg) hp
            have : Post N k0 (.block id x) .normal (T.unpack (keepFr keep σ.fr) v) k a .normal a' k1.w := ⟨rfl, k', q1, q2, q3, hSx hS1⟩
            rcases he1 with he1 | he1
            · subst he1; exact this
            · subst he1; simp only [exOf, Exit.inBlock]; rw [if_pos trivial]; exact this
          cases e1 with
          | normal =>
            simp only at hc
            cases hp : T.pack C.lo σ1 with
            | none => rw [hp] at hc; cases hc
            | some v => rw [hp] at hc; exact fin v hp (Or.inl rfl) hc
          | exit m =>
            simp only at hc
            split at hc
            · rename_i hm
              subst hm
              cases hp : T.pack C.lo σ1 with
              | none => rw [hp] at hc; cases hc
              | some v => rw [hp] at hc; exact fin v hp (Or.inr rfl) hc
            · cases hc
          | ret => cases hc
    | nil => simp only [denC] at hc; exact plain _ hL hc
    | node l r => simp only [denC] at hc; exact plain _ hL hc
    | loop id h => simp only [denC] at hc; exact plain _ hL hc
    | rng id h => simp only [denC] at hc; exact plain _ hL hc
    | test d ms => simp only [denC] at hc; exact plain _ hL hc
    | draw ms => simp only [denC] at hc; exact plain _ hL hc
    | pair ms => simp only [denC] at hc; exact plain _ hL hc
  | loop b ihb =>
    intro h hL k0 hlo r hr σ σ' e k a hc hR
    unfold codeR at hc
    cases h with
    | loop id hb =>
      simp only [denC] at hc
      cases hLm : C.Λ id with
      | none => rw [hLm] at hc; cases hc
      | some L =>
        rw [hLm] at hc
        simp only at hc
        split at hc
        · rename_i c v hck hv
          split at hc
          · cases hc
          · rename_i hwr
            simp only [Bool.not_eq_true] at hwr
            obtain ⟨hLo, hLb⟩ := hL
            obtain ⟨n, hn⟩ := hLo L hLm c v
            rw [hn] at hc
            obtain ⟨hF, hS⟩ := packK_ok hR hck
            obtain ⟨k', q1, q2, q3⟩ := pack_sound (base := L.keep.base c) hR hlo hv fun k' hw hW' => by
              exact solid_later hS hF hW'.weak rfl (fun _ _ => rfl)
            have key := loop_ok hC hmix hlo (fun σ σ' e k a hc hR => ihb hb hLb k0 hlo r hr σ σ' e k a hc hR) hS hwr hF n v k' a hc q2 q3 (Same.refl b a)
            rw [q1] at key
            refine wpIn_loop_rounds n ?_
            refine rounds_mono (fun e' a' w' hq => ?_) n _ _ key
            obtain ⟨g1, k'', g2, g3, g4, g5⟩ := hq
            exact ⟨g1, k'', g2, g3, g4, ⟨fun kp hk i hi => g5.slots kp (by simpa [writes] using hk) i hi, g5.size⟩⟩
        · cases hc
    | _ => cases hc
  | rangeFunc g ps x y ihx ihy =>
    intro h hL k0 hlo r hr σ σ' e k a hc hR
    unfold codeR at hc
    cases h with
    | rng id hb =>
      rcases hr with rfl | hr
      · simp only [denC] at hc
        split at hc
        · rename_i L f caps hLm hf
          obtain ⟨hRg, hLx, hLy⟩ := hL
          obtain ⟨hrn, hGet, hpl, nx, ny⟩ := hRg L hLm
          cases hgt : L.get (hget σ.hp) f caps with
          | none => rw [hgt] at hc; cases hc
          | some xs =>
            rw [hgt] at hc
            simp only [bindO_some] at hc
            split at hc
            · rename_i c v hck hv
              split at hc
              · cases hc
              · rename_i hwr
                simp only [Bool.or_eq_true, not_or, Bool.not_eq_true, List.any_eq_false, List.contains_iff_mem] at hwr
                obtain ⟨hw1, hw2, hw3⟩ := hwr
                rw [hrn] at hc
                exact rng_ok hC hlo (fun k0 hlo l σ σ' e k t h1 h2 => ihx hb.l hLx k0 hlo (some l) (.inr nx) σ σ' e k t h1 h2) (fun k0 hlo l σ σ' e k t h1 h2 => ihy hb.r hLy k0 hlo (some l) (.inr ny) σ σ' e k t h1 h2) hf hgt hGet hpl hck hv hw1 hw2 hw3 hc hR
            · cases hc
        · cases hc
      · cases hr
    | _ => cases hc
  | _ => intro h _ k0 hlo r _ σ σ' e k a hc _; cases h <;> cases hc
end

section
variable {C : Ctx} (hC : CtxOK C) (hmix : C.E.P.follows .mixedOrders = true) {N : Nat} {k0 : Kx} (hlo : ∀ n, k0.U n → n < C.lo)
include hC hmix hlo

/-- What denC comes to is what the code does. -/
theorem code_sound : ∀ (c : Code) (h : HT), LoopsOK C c h → ∀ (r : Option Nat), (r = none ∨ noRange c = true) → ∀ (σ σ' : St) (e : Ex) (k : Kx) (a : Act), codeR C c h σ = some (e, σ') → Rel N k0 σ k a → c.wpIn (fR r) 0 C.E.P (Post N k0 c e σ' k a) a k.w := fun c h hL => code_sound0 hC hmix c h hL k0 hlo

end

end Go.Ab
