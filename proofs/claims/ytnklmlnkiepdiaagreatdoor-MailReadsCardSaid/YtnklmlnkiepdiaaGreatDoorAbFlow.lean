/-
  WHAT RUNS, WHATEVER IT IS HANDED ON TO: an abstract run is a partial function, then what follows.
-/
import Derived.Test.YtnklmlnkiepdiaaGreatDoorAbStep8
set_option linter.unusedVariables false
set_option linter.unusedSectionVars false
set_option linter.unusedSimpArgs false
namespace Go.Ab
variable [Tabs]

def NatI (J : InlSum) : Prop := ∀ {R : Type} (args : List AVal) (hp : Hp) (nx : Nat) (K : AVal → Hp → Nat → R) (s : R), J.run args hp nx K s = bindO (J.run args hp nx (fun v h n => some (v, h, n)) none) (fun x => K x.1 x.2.1 x.2.2) s
def NatR (L : RngSum) : Prop := ∀ {R : Type} (K : Ex → St → R) (s : R) c xs v, L.run K s c xs v = bindO (L.run (fun e σ => some (e, σ)) none c xs v) (fun x => K x.1 x.2) s
def NatL (L : LoopSum) : Prop := ∀ {R : Type} (K : Ex → St → R) (s : R) c v, L.run K s c v = bindO (L.run (fun e σ => some (e, σ)) none c v) (fun x => K x.1 x.2) s

/-- What is asked of the table of functions run in their caller's state: they hand on what they come to. -/
structure NatIn (C : Ctx) : Prop where
  inl : ∀ g d J, C.Ψ g d = some J → NatI J

/-- The same of the loops. -/
structure NatCtx (C : Ctx) : Prop extends NatIn C where
  loop : ∀ id L, C.Λ id = some L → NatL L
  rng : ∀ id L, C.Γ id = some L → NatR L

/-- The same of the loops that stand in a hint. -/
def NatH (C : Ctx) : HT → Prop
  | .node l r => NatH C l ∧ NatH C r
  | .join _ _ h => NatH C h
  | .loop id _ => ∀ L, C.Λ id = some L → NatL L
  | .rng id _ => ∀ L, C.Γ id = some L → NatR L
  | _ => True

theorem NatCtx.hint {C : Ctx} (hC : NatCtx C) : ∀ h : HT, NatH C h := by
  intro h
  induction h with
  | nil => trivial
  | node l r h1 h2 => exact ⟨h1, h2⟩
  | join T k h ih => exact ih
  | loop id h _ => exact hC.loop id
  | rng id h _ => exact hC.rng id
  | test d ms => trivial
  | draw ms => trivial
  | pair ms => trivial

theorem NatH.l {C : Ctx} {h : HT} (hh : NatH C h) : NatH C h.l := by cases h <;> first | trivial | exact hh.1
theorem NatH.r {C : Ctx} {h : HT} (hh : NatH C h) : NatH C h.r := by cases h <;> first | trivial | exact hh.2

theorem bindO_bindO {α β R : Type} (o : Option α) (f : α → Option β) (K : β → R) (s : R) : bindO (bindO o f none) K s = bindO o (fun a => bindO (f a) K s) s := by cases o <;> rfl
theorem bindO_some {α R : Type} (a : α) (K : α → R) (s : R) : bindO (some a) K s = K a := rfl
theorem bindO_none {α R : Type} (K : α → R) (s : R) : bindO none K s = s := rfl
theorem gate_true {R : Type} (a b : R) : gate true a b = a := rfl
theorem gate_false {R : Type} (a b : R) : gate false a b = b := rfl

def execR (C : Ctx) (o : Oper) (σ : St) : Option (Foot × St) := execA C o σ (fun f σ => some (f, σ)) none
def oneR (C : Ctx) (ops : Array Oper) (o : Oper) (σ : St) : Option (Foot × St) := oneA C ops o σ (fun f σ => some (f, σ)) none
def opsR (C : Ctx) (ops : Array Oper) (ms : Option (Bool × List Nat)) (q : Bool) (l : List Oper) (j : Nat) (tr : Tr) (σ : St) : Option St := denOps C ops ms q l j tr σ some none
def codeR (C : Ctx) (c : Code) (h : HT) (σ : St) : Option (Ex × St) := denC C c h σ (fun e σ => some (e, σ)) none

/-- What a call comes to: a value that is handed back, or a state. -/
def callR (C : Ctx) (d : Nat) (σ : St) (f : Cell) (args : List AVal) : Option (Out ⊕ (AVal × Hp × Nat)) :=
  callA C d σ f args (fun out => some (.inl out)) (fun v hp nx => some (.inr (v, hp, nx))) none

theorem callM0_nat' {C : Ctx} (hC : NatIn C) {R : Type} (d : Nat) (σ : St) (g : Nat) (caps : List (Nat × Nat)) (args : List AVal) (K : Out → R) (I : AVal → Hp → Nat → R) (s : R) :
    callM0 C d σ g caps args K I s = bindO (callM0 C d σ g caps args (fun out => some (Sum.inl (β := AVal × Hp × Nat) out)) (fun v hp nx => some (Sum.inr (v, hp, nx))) none) (fun x => match x with | .inl out => K out | .inr y => I y.1 y.2.1 y.2.2) s := by
  unfold callM0
  split
  · split
    · rw [bindO_bindO]
      rfl
    · rfl
  · cases hJ : C.Ψ g d with
    | none => rfl
    | some J =>
      simp only
      rw [hC.inl g d J hJ _ _ _ I s, hC.inl g d J hJ _ _ _ (fun v hp nx => some (Sum.inr (v, hp, nx))) none, bindO_bindO]
      rfl

theorem callQ_nat {R : Type} (T : TFun) (σ : St) (args : List AVal) (K : Out → R) (I : AVal → Hp → Nat → R) (s : R) :
    callQ T σ args K s = bindO (callQ T σ args (fun out => some (Sum.inl (β := AVal × Hp × Nat) out)) none) (fun x => match x with | .inl out => K out | .inr y => I y.1 y.2.1 y.2.2) s := by
  unfold callQ
  split
  · rw [bindO_bindO]
    congr 1
    funext r
    simp only
    split <;> rfl
  · rfl

theorem callM_nat' {C : Ctx} (hC : NatIn C) {R : Type} (d : Nat) (σ : St) (g : Nat) (caps : List (Nat × Nat)) (args : List AVal) (K : Out → R) (I : AVal → Hp → Nat → R) (s : R) :
    callM C d σ g caps args K I s = bindO (callM C d σ g caps args (fun out => some (Sum.inl (β := AVal × Hp × Nat) out)) (fun v hp nx => some (Sum.inr (v, hp, nx))) none) (fun x => match x with | .inl out => K out | .inr y => I y.1 y.2.1 y.2.2) s := by
  unfold callM
  split
  · exact callQ_nat _ σ args K I s
  · exact callM0_nat' hC d σ g _ args K I s

theorem callA_nat' {C : Ctx} (hC : NatIn C) {R : Type} (d : Nat) (σ : St) (f : Cell) (args : List AVal) (K : Out → R) (I : AVal → Hp → Nat → R) (s : R) :
    callA C d σ f args K I s = bindO (callR C d σ f args) (fun x => match x with | .inl out => K out | .inr y => I y.1 y.2.1 y.2.2) s := by
  unfold callR
  cases f with
  | fn g caps =>
    have inl := callM_nat' hC d σ g caps args K I s
    simp only [callA]
    cases hT : C.Φ g with
    | none => exact inl
    | some T =>
      cases caps with
      | cons c r => exact inl
      | nil =>
        simp only
        split
        · rw [bindO_bindO]
          rfl
        · rfl
  | _ => rfl

theorem execA_nat' {C : Ctx} (hC : NatIn C) {R : Type} (o : Oper) (σ : St) (K : Foot → St → R) (s : R) : execA C o σ K s = bindO (execR C o σ) (fun x => K x.1 x.2) s := by
  unfold execR execA
  split
  · split
    · split <;> rfl
    · rfl
  · rw [callA_nat' hC, callA_nat' hC _ _ _ _ _ _ none, bindO_bindO]
    congr 1
    funext x
    cases x <;> rfl
  · split
    · rename_i out _
      cases out.test <;> rfl
    · rfl

theorem oneA_nat' {C : Ctx} (hC : NatIn C) {R : Type} (ops : Array Oper) (o : Oper) (σ : St) (K : Foot → St → R) (s : R) : oneA C ops o σ K s = bindO (oneR C ops o σ) (fun x => K x.1 x.2) s := by
  unfold oneR oneA
  split
  · exact execA_nat' hC _ _ _ _
  · split
    · split
      · split
        · split
          · exact execA_nat' hC _ _ _ _
          · rfl
        · split
          · rfl
          · exact execA_nat' hC _ _ _ _
      · rfl
      · rfl
    · rfl

theorem denOps_nat' {C : Ctx} (hC : NatIn C) (ops : Array Oper) (ms : Option (Bool × List Nat)) (q : Bool) : ∀ (l : List Oper) {R : Type} (j : Nat) (tr : Tr) (σ : St) (K : St → R) (s : R),
    denOps C ops ms q l j tr σ K s = bindO (opsR C ops ms q l j tr σ) K s := by
  intro l
  induction l with
  | nil => intro R j tr σ K s; rfl
  | cons o r ih =>
    intro R j tr σ K s
    unfold opsR
    simp only [denOps]
    rw [oneA_nat' hC, oneA_nat' hC (R := Option St), bindO_bindO]
    congr 1
    funext x
    cases hq : (!q || x.1.isStill) with
    | false => rfl
    | true =>
      simp only [gate_true]
      cases ms with
      | none =>
        simp only
        rw [ih, ih (R := Option St)]
        rw [bindO_bindO]
        rfl
      | some m =>
        simp only
        cases fitsTr m.1 ops (m.2.getD j 0) o x.1 tr with
        | false => rfl
        | true =>
          simp only [gate_true]
          rw [ih, ih (R := Option St)]
          rw [bindO_bindO]
          rfl

theorem joinK_nat {R : Type} (T : Tmpl) (ok : Bool) (base : Fr) (o : Option T.ty.den) (K : Ex → St → R) (s : R) :
    joinK T ok base o K s = bindO (joinK T ok base o (fun e σ => some (e, σ)) none) (fun x => K x.1 x.2) s := by
  unfold joinK
  cases ok with
  | false => rfl
  | true => cases o <;> rfl

theorem denC_natH {C : Ctx} (hC : NatIn C) : ∀ (c : Code) (h : HT), NatH C h → ∀ {R : Type} (σ : St) (K : Ex → St → R) (s : R), denC C c h σ K s = bindO (codeR C c h σ) (fun x => K x.1 x.2) s := by
  intro c
  induction c with
  | skip => intro h hh R σ K s; rfl
  | region id ops draw =>
    intro h hh R σ K s
    unfold codeR
    have plain : ∀ od q, denOps C ops od q ops.toList 0 [] σ (K .normal) s = bindO (denOps C ops od q ops.toList 0 [] σ (fun σ => some (Ex.normal, σ)) none) (fun x => K x.1 x.2) s := by
      intro od q
      rw [denOps_nat' hC, denOps_nat' hC (R := Option (Ex × St)), bindO_bindO]
      rfl
    cases h with
    | test d ms =>
      simp only [denC]
      cases orderOf draw ops false ms with
      | none => rfl
      | some od =>
        simp only
        rw [bindO_bindO]
        rfl
    | draw ms =>
      simp only [denC]
      cases orderOf draw ops false ms with
      | none => rfl
      | some od => exact plain od false
    | pair ms =>
      simp only [denC]
      cases orderOf draw ops true ms with
      | none => rfl
      | some od => exact plain od false
    | nil => cases draw with | true => rfl | false => simp only [denC]; exact plain none false
    | node l r => cases draw with | true => rfl | false => simp only [denC]; exact plain none false
    | join T keep h => cases draw with | true => rfl | false => simp only [denC]; exact plain none false
    | loop id h => cases draw with | true => rfl | false => simp only [denC]; exact plain none false
    | rng id h => cases draw with | true => rfl | false => simp only [denC]; exact plain none false
  | seq a b iha ihb =>
    intro h hh R σ K s
    have plain : ∀ (ha hb : HT), NatH C ha → NatH C hb → denC C a ha σ (fun e σ' => match e with | .normal => denC C b hb σ' K s | .exit n => K (.exit n) σ' | .ret => K .ret σ') s =
        bindO (denC C a ha σ (fun e σ' => match e with | .normal => denC C b hb σ' (fun e σ => some (e, σ)) none | .exit n => some (.exit n, σ') | .ret => some (.ret, σ')) none) (fun x => K x.1 x.2) s := by
      intro ha hb na nb
      rw [iha ha na, iha ha na (R := Option (Ex × St)), bindO_bindO]
      congr 1
      funext x
      obtain ⟨e, σ'⟩ := x
      cases e with
      | normal => simp only; rw [ihb hb nb]; rfl
      | _ => rfl
    unfold codeR
    cases h with
    | join T keep h => simp only [denC]; exact joinK_nat _ _ _ _ _ _
    | nil => simp only [denC]; exact plain _ _ hh.l hh.r
    | node l r => simp only [denC]; exact plain _ _ hh.l hh.r
    | loop id h => simp only [denC]; exact plain _ _ hh.l hh.r
    | rng id h => simp only [denC]; exact plain _ _ hh.l hh.r
    | test d ms => simp only [denC]; exact plain _ _ hh.l hh.r
    | draw ms => simp only [denC]; exact plain _ _ hh.l hh.r
    | pair ms => simp only [denC]; exact plain _ _ hh.l hh.r
  | cond c a b iha ihb =>
    intro h hh R σ K s
    unfold codeR
    have plain : ∀ (ha hb : HT), NatH C ha → NatH C hb → (match rdC σ.fr c with | .val .bool t => if t = true then denC C a ha σ K s else denC C b hb σ K s | _ => s) =
        bindO (match rdC σ.fr c with | .val .bool t => if t = true then denC C a ha σ (fun e σ => some (e, σ)) none else denC C b hb σ (fun e σ => some (e, σ)) none | _ => none) (fun x => K x.1 x.2) s := by
      intro ha hb na nb
      split
      · split
        · exact iha ha na _ _ _
        · exact ihb hb nb _ _ _
      · rfl
    cases h with
    | join T keep h =>
      simp only [denC]
      split
      · exact joinK_nat _ _ _ _ _ _
      · rfl
    | nil => simp only [denC]; exact plain _ _ hh.l hh.r
    | node l r => simp only [denC]; exact plain _ _ hh.l hh.r
    | loop id h => simp only [denC]; exact plain _ _ hh.l hh.r
    | rng id h => simp only [denC]; exact plain _ _ hh.l hh.r
    | test d ms => simp only [denC]; exact plain _ _ hh.l hh.r
    | draw ms => simp only [denC]; exact plain _ _ hh.l hh.r
    | pair ms => simp only [denC]; exact plain _ _ hh.l hh.r
  | block id a iha =>
    intro h hh R σ K s
    unfold codeR
    have plain : ∀ (ha : HT), NatH C ha → denC C a ha σ (fun e σ' => match e with | .normal => K .normal σ' | .exit n => if n = id then K .normal σ' else K (.exit n) σ' | .ret => K .ret σ') s =
        bindO (denC C a ha σ (fun e σ' => match e with | .normal => some (.normal, σ') | .exit n => if n = id then some (.normal, σ') else some (.exit n, σ') | .ret => some (.ret, σ')) none) (fun x => K x.1 x.2) s := by
      intro ha na
      rw [iha ha na, iha ha na (R := Option (Ex × St)), bindO_bindO]
      congr 1
      funext x
      obtain ⟨e, σ'⟩ := x
      cases e with
      | exit n => simp only; split <;> rfl
      | _ => rfl
    cases h with
    | join T keep h => simp only [denC]; exact joinK_nat _ _ _ _ _ _
    | nil => simp only [denC]; exact plain _ hh.l
    | node l r => simp only [denC]; exact plain _ hh.l
    | loop id h => simp only [denC]; exact plain _ hh.l
    | rng id h => simp only [denC]; exact plain _ hh.l
    | test d ms => simp only [denC]; exact plain _ hh.l
    | draw ms => simp only [denC]; exact plain _ hh.l
    | pair ms => simp only [denC]; exact plain _ hh.l
  | loop b ihb =>
    intro h hh R σ K s
    unfold codeR
    cases h with
    | loop id hb =>
      simp only [denC]
      cases hL : C.Λ id with
      | none => rfl
      | some L =>
        simp only
        split
        · split
          · rfl
          · exact hh L hL K s _ _
        · rfl
    | _ => rfl
  | rangeFunc g ps a b _ _ =>
    intro h hh R σ K s
    unfold codeR
    cases h with
    | rng id hb =>
      simp only [denC]
      split
      · rename_i L f caps hL hf
        cases L.get (hget σ.hp) f caps with
        | none => rfl
        | some xs =>
          simp only [bindO_some]
          split
          · split
            · rfl
            · exact hh L hL K s _ _ _
          · rfl
      · rfl
    | _ => rfl
  | exit n => intro h hh R σ K s; cases h <;> rfl
  | ret => intro h hh R σ K s; cases h <;> rfl
  | _ => intro h hh R σ K s; cases h <;> rfl

theorem callA_nat {C : Ctx} (hC : NatCtx C) {R : Type} (d : Nat) (σ : St) (f : Cell) (args : List AVal) (K : Out → R) (I : AVal → Hp → Nat → R) (s : R) :
    callA C d σ f args K I s = bindO (callR C d σ f args) (fun x => match x with | .inl out => K out | .inr y => I y.1 y.2.1 y.2.2) s := callA_nat' hC.toNatIn d σ f args K I s
theorem execA_nat {C : Ctx} (hC : NatCtx C) {R : Type} (o : Oper) (σ : St) (K : Foot → St → R) (s : R) : execA C o σ K s = bindO (execR C o σ) (fun x => K x.1 x.2) s := execA_nat' hC.toNatIn o σ K s
theorem oneA_nat {C : Ctx} (hC : NatCtx C) {R : Type} (ops : Array Oper) (o : Oper) (σ : St) (K : Foot → St → R) (s : R) : oneA C ops o σ K s = bindO (oneR C ops o σ) (fun x => K x.1 x.2) s := oneA_nat' hC.toNatIn ops o σ K s
theorem denOps_nat {C : Ctx} (hC : NatCtx C) (ops : Array Oper) (ms : Option (Bool × List Nat)) (q : Bool) (l : List Oper) {R : Type} (j : Nat) (tr : Tr) (σ : St) (K : St → R) (s : R) :
    denOps C ops ms q l j tr σ K s = bindO (opsR C ops ms q l j tr σ) K s := denOps_nat' hC.toNatIn ops ms q l j tr σ K s
theorem denC_nat {C : Ctx} (hC : NatCtx C) (c : Code) (h : HT) {R : Type} (σ : St) (K : Ex → St → R) (s : R) : denC C c h σ K s = bindO (codeR C c h σ) (fun x => K x.1 x.2) s := denC_natH hC.toNatIn c h (hC.hint h) σ K s

/-! ### loops -/
theorem roundK_nat {R : Type} {lo : Nat} {T : Tmpl} {exits : List (Nat × Tmpl)} {rets : Option Tmpl} {base : Fr} (K : Ex → St → R) (s : R) (again : T.ty.den → R) (again' : T.ty.den → Option (Ex × St)) (ha : ∀ v, again v = bindO (again' v) (fun x => K x.1 x.2) s) (e : Ex) (σ : St) :
    roundK lo T exits rets K s base again e σ = bindO (roundK lo T exits rets (fun e σ => some (e, σ)) none base again' e σ) (fun x => K x.1 x.2) s := by
  unfold roundK
  cases e with
  | normal =>
    simp only
    cases T.pack lo σ with
    | none => rfl
    | some v => exact ha v
  | exit n =>
    simp only
    cases findT exits n with
    | none => rfl
    | some Tx => simp only; cases Tx.pack lo σ <;> rfl
  | ret =>
    simp only
    cases rets with
    | none => rfl
    | some Tx => simp only; cases Tx.pack lo σ <;> rfl

theorem loopC_nat {C : Ctx} (hC : NatIn C) {b : Code} {h : HT} (hh : NatH C h) {T : Tmpl} {exits : List (Nat × Tmpl)} {rets : Option Tmpl} {base : Fr} {R : Type} (K : Ex → St → R) (s : R) : ∀ (n : Nat) (v : T.ty.den),
    loopC C b h T exits rets K s base n v = bindO (loopC C b h T exits rets (fun e σ => some (e, σ)) none base n v) (fun x => K x.1 x.2) s := by
  intro n
  induction n with
  | zero => intro v; rfl
  | succ n ih =>
    intro v
    show roundC C b h T exits rets K s base (loopC C b h T exits rets K s base n) v = bindO (roundC C b h T exits rets (fun e σ => some (e, σ)) none base (loopC C b h T exits rets (fun e σ => some (e, σ)) none base n) v) (fun x => K x.1 x.2) s
    unfold roundC
    rw [denC_natH hC b h hh, denC_natH hC b h hh (R := Option (Ex × St)), bindO_bindO]
    congr 1
    funext x
    exact roundK_nat K s _ _ ih x.1 x.2

theorem rngC_nat {C : Ctx} (hC : NatIn C) {a b : Code} {h : HT} (ha : NatH C h.l) (hb : NatH C h.r) {ps : List Tmp} {L : RngSum} {base : Fr} {R : Type} (K : Ex → St → R) (s : R) : ∀ (xs : List L.te.den) (v : L.T.ty.den),
    rngC C a b h ps L K s base xs v = bindO (rngC C a b h ps L (fun e σ => some (e, σ)) none base xs v) (fun x => K x.1 x.2) s := by
  intro xs
  induction xs with
  | nil => intro v; rfl
  | cons x xs ih =>
    intro v
    show roundR C a b h ps L K s base x (rngC C a b h ps L K s base xs) v = bindO (roundR C a b h ps L (fun e σ => some (e, σ)) none base x (rngC C a b h ps L (fun e σ => some (e, σ)) none base xs) v) (fun x => K x.1 x.2) s
    unfold roundR
    rw [denC_natH hC a h.l ha, denC_natH hC a h.l ha (R := Option (Ex × St)), bindO_bindO]
    congr 1
    funext y
    obtain ⟨e, σ⟩ := y
    cases e with
    | normal =>
      simp only
      rw [denC_natH hC b h.r hb, denC_natH hC b h.r hb (R := Option (Ex × St)), bindO_bindO]
      congr 1
      funext z
      exact roundK_nat K s _ _ ih z.1 z.2
    | _ => rfl

/-- A range over a function whose run is rngC's. -/
def RngIs (C : Ctx) (id : Nat) (a b : Code) (h : HT) (ps : List Tmp) : Prop :=
  ∀ L, C.Γ id = some L → ∀ {R : Type} (K : Ex → St → R) (s : R) (c : L.keep.ty.den) (xs : List L.te.den) (v : L.T.ty.den), L.run K s c xs v = rngC C a b h ps L K s (L.keep.base c) xs v

theorem RngIs.nat {C : Ctx} (hC : NatIn C) {id : Nat} {a b : Code} {h : HT} {ps : List Tmp} (ha : NatH C h.l) (hb : NatH C h.r) (hL : RngIs C id a b h ps) : ∀ L, C.Γ id = some L → NatR L := by
  intro L h1 R K s c xs v
  rw [hL L h1 K s c xs v, hL L h1 (fun e σ => some (e, σ)) none c xs v]
  exact rngC_nat hC ha hb K s xs v

theorem rngIs_of {C : Ctx} {id : Nat} {a b : Code} {h : HT} {ps : List Tmp} (L : RngSum) (hL : C.Γ id = some L) (F : {R : Type} → (Ex → St → R) → R → L.keep.ty.den → L.te.den → (L.T.ty.den → R) → L.T.ty.den → R)
    (hrun : ∀ {R : Type} (K : Ex → St → R) (s : R) (c : L.keep.ty.den) (xs : List L.te.den) (v : L.T.ty.den), L.run K s c xs v = foldR (F K s c) (fun v => K .normal (L.T.unpack (L.keep.base c) v)) xs v)
    (hstep : ∀ {R : Type} (K : Ex → St → R) (s : R) (c : L.keep.ty.den) (x : L.te.den) (again : L.T.ty.den → R) (v : L.T.ty.den), roundR C a b h ps L K s (L.keep.base c) x again v = F K s c x again v) : RngIs C id a b h ps := by
  intro L' h1
  rw [hL] at h1
  have h1 : L = L' := Option.some.inj h1
  subst h1
  intro R K s c xs v
  rw [hrun]
  unfold rngC
  have : F K s c = fun x again v => roundR C a b h ps L K s (L.keep.base c) x again v := by
    funext x again v
    exact (hstep K s c x again v).symm
  rw [this]

/-- A loop whose run is loopC's. -/
def LoopIs (C : Ctx) (id : Nat) (b : Code) (h : HT) (n : Nat) : Prop :=
  ∀ L, C.Λ id = some L → ∀ {R : Type} (K : Ex → St → R) (s : R) (c : L.keep.ty.den) (v : L.T.ty.den), L.run K s c v = loopC C b h L.T L.exits L.rets K s (L.keep.base c) n v

theorem LoopIs.nat {C : Ctx} (hC : NatIn C) {id : Nat} {b : Code} {h : HT} {n : Nat} (hh : NatH C h) (hL : LoopIs C id b h n) : ∀ L, C.Λ id = some L → NatL L := by
  intro L h1 R K s c v
  rw [hL L h1 K s c v, hL L h1 (fun e σ => some (e, σ)) none c v]
  exact loopC_nat hC hh K s n v

/-- A loop's theorem from that of its round. -/
theorem loopIs_of {C : Ctx} {id : Nat} {b : Code} {h : HT} {n : Nat} (L : LoopSum) (hL : C.Λ id = some L) (F : {R : Type} → (Ex → St → R) → R → L.keep.ty.den → (L.T.ty.den → R) → L.T.ty.den → R)
    (hrun : ∀ {R : Type} (K : Ex → St → R) (s : R) (c : L.keep.ty.den) (v : L.T.ty.den), L.run K s c v = iter (F K s c) s n v)
    (hstep : ∀ {R : Type} (K : Ex → St → R) (s : R) (c : L.keep.ty.den) (again : L.T.ty.den → R) (v : L.T.ty.den), roundC C b h L.T L.exits L.rets K s (L.keep.base c) again v = F K s c again v) : LoopIs C id b h n := by
  intro L' h1
  rw [hL] at h1
  have h1 : L = L' := Option.some.inj h1
  subst h1
  intro R K s c v
  rw [hrun]
  unfold loopC
  have : F K s c = roundC C b h L.T L.exits L.rets K s (L.keep.base c) := by
    funext again v
    exact (hstep K s c again v).symm
  rw [this]

/-- A function that is run in place hands on what it comes to. -/
theorem inl_nat {C : Ctx} (hC : NatIn C) {fn : Func} {h : HT} (hh : NatH C h) : NatI (inl C fn h) := by
  intro R args hp nx K s
  unfold inl
  simp only
  cases fn.body with
  | none => rfl
  | some c =>
    simp only
    cases decide (nx ≤ C.lo) with
    | false => rfl
    | true =>
      simp only [gate_true]
      rw [denC_natH hC c h hh, denC_natH hC c h hh (R := Option (AVal × Hp × Nat)), bindO_bindO]
      congr 1
      funext x
      obtain ⟨e, σ⟩ := x
      cases e with
      | exit n => rfl
      | normal => simp only; cases resCells σ.hp σ.fr C.E fn.results.toList <;> rfl
      | ret => simp only; cases resCells σ.hp σ.fr C.E fn.results.toList <;> rfl

end Go.Ab

/-
  WHAT ONE OPERATION LOOKS AT: its operands, and the blocks that they name.
-/
set_option linter.unusedVariables false
set_option linter.unusedSimpArgs false
namespace Go.Ab
variable [Tabs]

/-! ### operands -/
theorem rdC_fr {fr fr' : Fr} {x : Operand} (h : rd fr' x = rd fr x) : rdC fr' x = rdC fr x := by unfold rdC; rw [h]
theorem intAt_fr {fr fr' : Fr} {x : Operand} (h : rd fr' x = rd fr x) : intAt fr' x = intAt fr x := by unfold intAt; rw [rdC_fr h]
theorem bound_fr {fr fr' : Fr} {x : Option Operand} {d : Int} (h : ∀ y, x = some y → rd fr' y = rd fr y) : bound fr' x d = bound fr x d := by
  cases x with
  | none => rfl
  | some y => exact intAt_fr (h y rfl)
theorem capsA_fr {fr fr' : Fr} : ∀ (xs : List Operand), (∀ x ∈ xs, rd fr' x = rd fr x) → capsA fr' xs = capsA fr xs := by
  intro xs
  induction xs with
  | nil => intro _; rfl
  | cons x r ih =>
    intro h
    simp only [capsA]
    rw [rdC_fr (h x (by simp)), ih (fun y hy => h y (by simp [hy]))]
theorem elemsA_fr {look : Nat → Option Blk} {fr fr' : Fr} {e : Ty} : ∀ (ps : List (Nat × Operand)) (j : Nat), (∀ p ∈ ps, rd fr' p.2 = rd fr p.2) → elemsA look fr' e j ps = elemsA look fr e j ps := by
  intro ps
  induction ps with
  | nil => intro j _; rfl
  | cons p r ih =>
    intro j h
    obtain ⟨i, x⟩ := p
    simp only [elemsA]
    rw [h (i, x) (by simp), ih (j + 1) (fun y hy => h y (by simp [hy]))]
theorem buildParts_fr {place : Nat → Option (Nat × Nat)} {fr fr' : Fr} : ∀ (ps : List (Nat × Operand)) (cs : List Cell), (∀ p ∈ ps, rd fr' p.2 = rd fr p.2) → buildParts place fr' cs ps = buildParts place fr cs ps := by
  intro ps
  induction ps with
  | nil => intro cs _; rfl
  | cons p r ih =>
    intro cs h
    obtain ⟨i, x⟩ := p
    simp only [buildParts]
    rw [h (i, x) (by simp)]
    cases place i with
    | none => rfl
    | some q => simp only; rw [ih _ (fun y hy => h y (by simp [hy]))]
theorem flatMap_fr {fr fr' : Fr} : ∀ (ps : List (Nat × Operand)), (∀ p ∈ ps, rd fr' p.2 = rd fr p.2) → ps.flatMap (fun p => cellsOf (rd fr' p.2)) = ps.flatMap (fun p => cellsOf (rd fr p.2)) := by
  intro ps h
  rw [List.flatMap_def, List.flatMap_def]
  congr 1
  exact List.map_congr_left fun p hp => by rw [h p hp]
theorem mapC_fr {fr fr' : Fr} : ∀ (xs : List Operand), (∀ x ∈ xs, rd fr' x = rd fr x) → xs.map (rdC fr') = xs.map (rdC fr) := fun xs h => List.map_congr_left fun x hx => rdC_fr (h x hx)

theorem builtinA_fr {E : Env} {look : Nat → Option Blk} {fr fr' : Fr} {nx : Nat} {b : Builtin} {args : List Operand} {ats : List TypeId} (h : ∀ x ∈ args, rd fr' x = rd fr x) :
    builtinA E look fr' nx b args ats = builtinA E look fr nx b args ats := by
  unfold builtinA
  match b, args, ats, h with
  | .len, [x], t :: r, h => simp only [rdC_fr (h x (by simp))]
  | .append, [x, y], t :: u :: r, h => simp only [rdC_fr (h x (by simp)), rdC_fr (h y (by simp))]
  | .copy, [x, y], t :: r, h => simp only [rdC_fr (h x (by simp)), rdC_fr (h y (by simp))]
  | .clear, [x], t :: r, h => simp only [rdC_fr (h x (by simp))]
  | .clear, [], _, _ => rfl
  | .clear, [x], [], _ => rfl
  | .clear, x :: y :: r, _, _ => rfl
  | .min, x :: r, ts, h => simp only [rdC_fr (h x (by simp)), mapC_fr r (fun u hu => h u (by simp [hu]))]
  | .max, x :: r, ts, h => simp only [rdC_fr (h x (by simp)), mapC_fr r (fun u hu => h u (by simp [hu]))]
  | .len, [], _, _ => rfl
  | .len, [x], [], _ => rfl
  | .len, x :: y :: r, _, _ => rfl
  | .append, [], _, _ => rfl
  | .append, [x], _, _ => rfl
  | .append, x :: y :: z :: r, _, _ => rfl
  | .append, [x, y], [], _ => rfl
  | .append, [x, y], [t], _ => rfl
  | .copy, [], _, _ => rfl
  | .copy, [x], _, _ => rfl
  | .copy, x :: y :: z :: r, _, _ => rfl
  | .copy, [x, y], [], _ => rfl
  | .min, [], _, _ => rfl
  | .max, [], _, _ => rfl
  | .cap, [x], t :: r, h => simp only [rdC_fr (h x (by simp))]
  | .cap, [], _, _ => rfl
  | .cap, [x], [], _ => rfl
  | .cap, x :: y :: r, _, _ => rfl
  | .close, _, _, _ => rfl
  | .complex, _, _, _ => rfl
  | .delete, _, _, _ => rfl
  | .imag, _, _, _ => rfl
  | .panic, _, _, _ => rfl
  | .print, _, _, _ => rfl
  | .println, _, _, _ => rfl
  | .real, _, _, _ => rfl
  | .recover, _, _, _ => rfl
  | .make, _, _, _ => rfl
  | .new, _, _, _ => rfl
  | .unsafeAdd, _, _, _ => rfl
  | .unsafeSlice, _, _, _ => rfl
  | .unsafeSliceData, _, _, _ => rfl
  | .unsafeString, _, _, _ => rfl
  | .unsafeStringData, _, _, _ => rfl
  | .unsafeSizeof, _, _, _ => rfl
  | .unsafeAlignof, _, _, _ => rfl
  | .unsafeOffsetof, _, _, _ => rfl

theorem stepA_fr {E : Env} {look : Nat → Option Blk} {fr fr' : Fr} {nx : Nat} {o : Op} (h : ∀ x ∈ o.operands.toList, rd fr' x = rd fr x) : stepA E look fr' nx o = stepA E look fr nx o := by
  cases o with
  | move x => simp only [stepA]; rw [h x (by simp [Op.operands])]
  | assign x => simp only [stepA]; rw [h x (by simp [Op.operands])]
  | box t x => simp only [stepA]; rw [h x (by simp [Op.operands])]
  | build t ps =>
    have : ∀ p ∈ ps.toList, rd fr' p.2 = rd fr p.2 := fun p hp => h p.2 (by simp only [Op.operands]; exact List.mem_map.2 ⟨p, hp, rfl⟩)
    have key : ∀ place cs, buildParts place fr' cs ps.toList = buildParts place fr cs ps.toList := fun _ _ => buildParts_fr _ _ this
    simp only [stepA, buildA, key]
  | buildSlice t n ps =>
    have : ∀ p ∈ ps.toList, rd fr' p.2 = rd fr p.2 := fun p hp => h p.2 (by simp only [Op.operands]; exact List.mem_map.2 ⟨p, hp, rfl⟩)
    simp only [stepA, buildSliceA, elemsA_fr _ _ this, flatMap_fr _ this]
  | load t x => simp only [stepA]; rw [rdC_fr (h x (by simp [Op.operands]))]
  | store t x v => simp only [stepA]; rw [rdC_fr (h x (by simp [Op.operands])), h v (by simp [Op.operands])]
  | nilCheck x => simp only [stepA]; rw [rdC_fr (h x (by simp [Op.operands]))]
  | binOp op t x y yt => simp only [stepA]; rw [rdC_fr (h x (by simp [Op.operands])), rdC_fr (h y (by simp [Op.operands])), h x (by simp [Op.operands]), h y (by simp [Op.operands])]
  | unOp op t x => simp only [stepA]; rw [rdC_fr (h x (by simp [Op.operands]))]
  | convert s d x => simp only [stepA]; rw [rdC_fr (h x (by simp [Op.operands]))]
  | makeFunc fn first caps =>
    have : ∀ x ∈ caps.toList, rd fr' x = rd fr x := fun x hx => h x (by simp only [Op.operands, Array.toList_append]; exact List.mem_append_right _ hx)
    cases fn with
    | func f => simp only [stepA, capsA_fr _ this]
    | _ => rfl
  | makeMap t r =>
    have : optInt fr' r = optInt fr r := by
      cases r with
      | none => rfl
      | some x => simp only [optInt]; rw [intAt_fr (h x (by simp [Op.operands]))]
    simp only [stepA, makeMapA, this]
  | lookup t x i ok => simp only [stepA]; rw [rdC_fr (h x (by simp [Op.operands])), rdC_fr (h i (by simp [Op.operands]))]
  | mapUpdate t m i x => simp only [stepA]; rw [rdC_fr (h m (by simp [Op.operands])), rdC_fr (h i (by simp [Op.operands])), h x (by simp [Op.operands])]
  | insert t m i x => simp only [stepA]; rw [rdC_fr (h m (by simp [Op.operands])), rdC_fr (h i (by simp [Op.operands])), h x (by simp [Op.operands])]
  | makeSlice t l c => simp only [stepA]; rw [intAt_fr (h l (by simp [Op.operands])), intAt_fr (h c (by simp [Op.operands]))]
  | slice t x lo hi mx =>
    have hx := rdC_fr (h x (by simp [Op.operands]))
    have hl : ∀ d, bound fr' lo d = bound fr lo d := fun d => bound_fr fun y hy => h y (by subst hy; simp [Op.operands])
    have hh : ∀ d, bound fr' hi d = bound fr hi d := fun d => bound_fr fun y hy => h y (by subst hy; simp [Op.operands])
    have hm : ∀ m, mx = some m → intAt fr' m = intAt fr m := fun m hm => intAt_fr (h m (by subst hm; simp [Op.operands]))
    simp only [stepA, sliceA, hx, hl, hh]
    cases mx with
    | none => rfl
    | some m => simp only [hm m rfl]
  | fieldAddr s x f => simp only [stepA]; rw [rdC_fr (h x (by simp [Op.operands]))]
  | field s x f => simp only [stepA]; rw [h x (by simp [Op.operands])]
  | indexAddr t x i => simp only [stepA]; rw [rdC_fr (h x (by simp [Op.operands])), intAt_fr (h i (by simp [Op.operands]))]
  | index t x i => simp only [stepA]; rw [h x (by simp [Op.operands]), intAt_fr (h i (by simp [Op.operands]))]
  | extract t i => simp only [stepA]; rw [h t (by simp [Op.operands])]
  | call c =>
    obtain ⟨callee, args, ats⟩ := c
    cases callee with
    | builtin b =>
      have : ∀ x ∈ args.toList, rd fr' x = rd fr x := fun x hx => h x (by simpa [Op.operands, Call.operands] using hx)
      simp only [stepA]
      exact builtinA_fr this
    | _ => rfl
  | _ => rfl

/-! ### blocks -/
theorem cellAs_look {look look' : Nat → Option Blk} {t : Ty} {c : Cell} (h : ∀ n ∈ ownOf c, look' n = look n) : cellAs look' t c = cellAs look t c := by
  cases t with
  | slice e =>
    cases c with
    | own n e' => simp only [cellAs]; rw [h n (by simp [ownOf])]
    | sub n e' lo hi => simp only [cellAs]; rw [h n (by simp [ownOf])]
    | clp n e' lo hi => simp only [cellAs]; rw [h n (by simp [ownOf])]
    | _ => rfl
  | map k v =>
    cases c with
    | mp n k' v' => simp only [cellAs]; rw [h n (by simp [ownOf])]
    | _ => rfl
  | _ => cases c <;> rfl

theorem parse_look {look look' : Nat → Option Blk} : ∀ (t : Ty) (cs : List Cell), (∀ c ∈ cs, ∀ n ∈ ownOf c, look' n = look n) → parse look' t cs = parse look t cs := by
  have rest : ∀ (t : Ty) (cs r : List Cell) (x : t.den), parse look t cs = some (x, r) → ∀ c ∈ r, c ∈ cs := by
    intro t
    induction t with
    | unit => intro cs r x h; simp only [parse, Option.some.injEq, Prod.mk.injEq] at h; obtain ⟨_, rfl⟩ := h; exact fun c hc => hc
    | pair a b iha ihb =>
      intro cs r x h
      simp only [parse] at h
      cases h1 : parse look a cs with
      | none => rw [h1] at h; cases h
      | some p =>
        obtain ⟨y, r1⟩ := p
        rw [h1] at h
        simp only at h
        cases h2 : parse look b r1 with
        | none => rw [h2] at h; cases h
        | some q =>
          obtain ⟨z, r2⟩ := q
          rw [h2] at h
          simp only [Option.some.injEq, Prod.mk.injEq] at h
          obtain ⟨_, rfl⟩ := h
          exact fun c hc => iha _ _ _ h1 c (ihb _ _ _ h2 c hc)
    | _ =>
      intro cs r x h
      cases cs with
      | nil => simp [parse] at h
      | cons c cs =>
        simp only [parse, Option.map_eq_some_iff] at h
        obtain ⟨y, _, h⟩ := h
        simp only [Prod.mk.injEq] at h
        obtain ⟨_, rfl⟩ := h
        exact fun d hd => by simp [hd]
  intro t
  induction t with
  | unit => intro cs _; rfl
  | pair a b iha ihb =>
    intro cs h
    simp only [parse]
    rw [iha cs h]
    cases h1 : parse look a cs with
    | none => rfl
    | some p =>
      obtain ⟨y, r1⟩ := p
      simp only
      rw [ihb r1 (fun c hc => h c (rest _ _ _ _ h1 c hc))]
  | _ =>
    intro cs h
    cases cs with
    | nil => rfl
    | cons c cs => simp only [parse]; rw [cellAs_look (h c (by simp))]

theorem parseAll_look {look look' : Nat → Option Blk} {t : Ty} {cs : List Cell} (h : ∀ c ∈ cs, ∀ n ∈ ownOf c, look' n = look n) : parseAll look' t cs = parseAll look t cs := by
  unfold parseAll
  rw [parse_look t cs h]

theorem ownOf_names {c : Cell} {n : Nat} (h : n ∈ ownOf c) : n ∈ namesOfCell c := by
  cases c <;> first | exact h | (simp [ownOf] at h)

theorem touched_mem {fr : Fr} {o : Op} {x : Operand} (hx : x ∈ o.operands.toList) {n : Nat} (hn : n ∈ namesOfV (rd fr x)) : n ∈ touched fr o := by
  have lit : ∀ v : Value, namesOfCell (litCell v) = [] := by
    intro v
    cases v with
    | int k m => simp only [litCell]; split <;> rfl
    | string s => simp only [litCell]; split <;> rfl
    | slice a l c =>
      cases a with
      | some a => rfl
      | none => cases l with
        | succ l => rfl
        | zero => cases c <;> rfl
    | _ => rfl
  have lits : ∀ v : Value, namesOfV (litV v) = [] := by
    intro v
    have one : ∀ v : Value, namesOfV (.one (litCell v)) = [] := fun v => lit v
    cases v with
    | agg cs =>
      simp only [litV]
      split
      · simp only [namesOfV, List.flatMap_map]
        exact List.flatMap_eq_nil_iff.2 fun c _ => lit c
      · rfl
    | _ => exact one _
  cases x with
  | tmp t => exact List.mem_flatMap.2 ⟨_, hx, hn⟩
  | const v => simp only [rd] at hn; rw [lits] at hn; cases hn
  | func f => simp [rd, namesOfV, namesOfCell] at hn
  | global g => simp [rd, namesOfV, namesOfCell] at hn

theorem rdC_names {fr : Fr} {x : Operand} {n : Nat} (h : n ∈ namesOfCell (rdC fr x)) : n ∈ namesOfV (rd fr x) := by
  unfold rdC at h
  split at h
  · rename_i c hc; rw [hc]; exact h
  · simp [namesOfCell] at h

theorem loadA_look {E : Env} {look look' : Nat → Option Blk} {t : TypeId} {c : Cell} (h : ∀ n ∈ namesOfCell c, look' n = look n) : loadA E look' t c = loadA E look t c := by
  unfold loadA
  cases c with
  | ptr n off => simp only [h n (by simp [namesOfCell])]
  | eptr n e i off => simp only [h n (by simp [namesOfCell])]
  | val ty x => cases ty <;> rfl
  | _ => rfl

theorem indexAddrA_look {E : Env} {look look' : Nat → Option Blk} {t : TypeId} {c : Cell} {i : Int} (h : ∀ n ∈ namesOfCell c, look' n = look n) : indexAddrA E look' t c i = indexAddrA E look t c i := by
  unfold indexAddrA
  cases c with
  | own n e => simp only [h n (by simp [namesOfCell])]
  | sub n e lo hi => simp only [h n (by simp [namesOfCell])]
  | val ty x => cases ty <;> rfl
  | _ => rfl

theorem lenA_look {E : Env} {look look' : Nat → Option Blk} {t : TypeId} {c : Cell} (h : ∀ n ∈ namesOfCell c, look' n = look n) : lenA E look' t c = lenA E look t c := by
  have : ∀ b, lenOfCell look' b c = lenOfCell look b c := by
    intro b
    cases c with
    | own n e => simp only [lenOfCell, h n (by simp [namesOfCell])]
    | sub n e lo hi => simp only [lenOfCell, h n (by simp [namesOfCell])]
    | clp n e lo hi => simp only [lenOfCell, h n (by simp [namesOfCell])]
    | val ty x => cases ty <;> rfl
    | _ => rfl
  unfold lenA
  simp only [this]

theorem mapOfA_look {look look' : Nat → Option Blk} {k v : Ty} {c : Cell} (h : ∀ n ∈ namesOfCell c, look' n = look n) : mapOfA look' k v c = mapOfA look k v c := by
  unfold mapOfA
  cases c with
  | mp n k' v' => simp only [h n (by simp [namesOfCell])]
  | _ => rfl

theorem mapLenA_look {E : Env} {look look' : Nat → Option Blk} {t : TypeId} {c : Cell} (h : ∀ n ∈ namesOfCell c, look' n = look n) : mapLenA E look' t c = mapLenA E look t c := by
  have h1 : ∀ k v, mapOfA look' k v c = mapOfA look k v c := fun k v => mapOfA_look h
  unfold mapLenA
  simp only [h1]

theorem clearA_look {E : Env} {look look' : Nat → Option Blk} {t : TypeId} {x : Cell} (hx : ∀ n ∈ namesOfCell x, look' n = look n) : clearA E look' t x = clearA E look t x := by
  unfold clearA
  cases x with
  | own n e => simp only [hx n (by simp [namesOfCell])]
  | sub n e lo hi => simp only [hx n (by simp [namesOfCell])]
  | _ => rfl

theorem lookupA_look {E : Env} {look look' : Nat → Option Blk} {t : TypeId} {x i : Cell} {ok : Bool} (hx : ∀ n ∈ namesOfCell x, look' n = look n) (hi : ∀ n ∈ namesOfCell i, look' n = look n) : lookupA E look' t x i ok = lookupA E look t x i ok := by
  have h2 : ∀ k, cellAs look' k i = cellAs look k i := fun k => cellAs_look fun n hn => hi n (by cases i <;> first | exact hn | (simp [ownOf] at hn))
  have h1 : ∀ k v, mapOfA look' k v x = mapOfA look k v x := fun k v => mapOfA_look hx
  unfold lookupA
  simp only [h1, h2]

theorem sliceA_look {E : Env} {look look' : Nat → Option Blk} {fr : Fr} {t : TypeId} {c : Cell} {lo hi mx : Option Operand} (h : ∀ n ∈ namesOfCell c, look' n = look n) : sliceA E look' fr t c lo hi mx = sliceA E look fr t c lo hi mx := by
  unfold sliceA
  cases c with
  | own n e => simp only [h n (by simp [namesOfCell])]
  | sub n e lo hi => simp only [h n (by simp [namesOfCell])]
  | val ty x => cases ty <;> rfl
  | _ => rfl

/-- An operation that leaves the blocks alone does the same where the blocks that its operands name are the same. -/
theorem stepA_look {E : Env} {look look' : Nat → Option Blk} {fr : Fr} {nx nx' : Nat} {o : Op} {out : Out} (hs : stepA E look fr nx o = some out) (h1 : out.acts = []) (h2 : out.made = 0) (h : ∀ n ∈ touched fr o, look' n = look n) :
    stepA E look' fr nx' o = some out := by
  have hx : ∀ x ∈ o.operands.toList, ∀ n ∈ namesOfCell (rdC fr x), look' n = look n := fun x hx n hn => h n (touched_mem hx (rdC_names hn))
  cases o with
  | alloc t =>
    simp only [stepA] at hs
    split at hs
    · simp only [Option.some.injEq] at hs; subst hs; simp at h2
    · split at hs
      · split at hs
        · simp only [Option.some.injEq] at hs; subst hs; simp at h2
        · cases hs
      · cases hs
  | box t x =>
    simp only [stepA] at hs
    split at hs
    · simp only [Option.some.injEq] at hs; subst hs; simp at h2
    · cases hs
  | buildSlice t n ps =>
    exfalso
    simp only [stepA, buildSliceA] at hs
    repeat' split at hs
    all_goals first | (cases hs; done) | (simp only [Option.some.injEq] at hs; subst hs; simp at h2)
  | load t x => simp only [stepA] at hs ⊢; rw [loadA_look (hx x (by simp [Op.operands]))]; exact hs
  | store t x v =>
    exfalso
    simp only [stepA, storeA] at hs
    repeat' split at hs
    all_goals first | (cases hs; done) | (simp only [Option.some.injEq] at hs; subst hs; simp at h1)
  | convert s d x =>
    have hc := hx x (by simp [Op.operands])
    simp only [stepA] at hs ⊢
    unfold convertA at hs ⊢
    split at hs
    · exact hs
    · exact hs
    · exact hs
    · split at hs
      · rw [cellAs_look (fun n hn => hc n (ownOf_names hn))]
        exact hs
      · cases hs
    · split at hs
      · split at hs
        · simp only [Option.some.injEq] at hs; subst hs; simp at h2
        · cases hs
      · cases hs
    · cases hs
  | makeSlice t l c =>
    exfalso
    simp only [stepA, makeA] at hs
    repeat' split at hs
    all_goals first | (cases hs; done) | (simp only [Option.some.injEq] at hs; subst hs; simp at h2)
  | slice t x lo hi mx => simp only [stepA] at hs ⊢; rw [sliceA_look (hx x (by simp [Op.operands]))]; exact hs
  | makeMap t r =>
    exfalso
    simp only [stepA, makeMapA] at hs
    repeat' split at hs
    all_goals first | (cases hs; done) | (simp only [Option.some.injEq] at hs; subst hs; simp at h2)
  | lookup t x i ok => simp only [stepA] at hs ⊢; rw [lookupA_look (hx x (by simp [Op.operands])) (hx i (by simp [Op.operands]))]; exact hs
  | mapUpdate t m i x =>
    exfalso
    simp only [stepA, mapUpdateA] at hs
    repeat' split at hs
    all_goals first | (cases hs; done) | (simp only [Option.some.injEq] at hs; subst hs; simp at h1)
  | insert t m i x =>
    exfalso
    simp only [stepA, mapUpdateA] at hs
    repeat' split at hs
    all_goals first | (cases hs; done) | (simp only [Option.some.injEq] at hs; subst hs; simp at h1)
  | indexAddr t x i =>
    simp only [stepA] at hs ⊢
    split at hs
    · rw [indexAddrA_look (hx x (by simp [Op.operands]))]; exact hs
    · cases hs
  | call c =>
    obtain ⟨callee, args, ats⟩ := c
    cases callee with
    | builtin b =>
      have hx' : ∀ x ∈ args.toList, ∀ n ∈ namesOfCell (rdC fr x), look' n = look n := fun x hm => hx x (by simpa [Op.operands, Call.operands] using hm)
      simp only [stepA] at hs ⊢
      unfold builtinA at hs ⊢
      generalize args.toList = l at hs hx'
      generalize ats.toList = ts at hs
      split at hs
      · rename_i x t r
        rw [lenA_look (hx' x (by simp)), mapLenA_look (hx' x (by simp))]
        exact hs
      · exfalso
        split at hs
        · unfold appendA at hs
          repeat' split at hs
          all_goals first | (cases hs; done) | (simp only [Option.some.injEq, Option.map_eq_some_iff] at hs; first | (subst hs; simp at h2) | (obtain ⟨_, _, rfl⟩ := hs; simp at h2))
        · split at hs
          · unfold growA at hs
            repeat' split at hs
            all_goals first | (cases hs; done) | (simp only [Option.some.injEq, Option.map_eq_some_iff] at hs; first | (subst hs; simp at h2) | (obtain ⟨_, _, rfl⟩ := hs; simp at h2))
          · cases hs
      · exact hs
      · exfalso
        unfold copyA at hs
        repeat' split at hs
        all_goals first | (cases hs; done) | (simp only [Option.some.injEq, Option.map_eq_some_iff] at hs; first | (subst hs; simp at h1) | (obtain ⟨_, _, rfl⟩ := hs; simp at h1))
      · rename_i x t r
        rw [clearA_look (hx' x (by simp))]
        exact hs
      · exact hs
      · exact hs
      · cases hs
    | _ => exact hs
  | makeFunc fn first caps => cases fn <;> exact hs
  | _ => exact hs

/-! ### the same names: whatever it does -/
theorem srcAs_look {look look' : Nat → Option Blk} {e : Ty} {c : Cell} (h : ∀ n ∈ ownOf c, look' n = look n) : srcAs look' e c = srcAs look e c := by
  unfold srcAs
  split
  · rfl
  · exact cellAs_look h

theorem appendA_look {E : Env} {look look' : Nat → Option Blk} {nx : Nat} {t : TypeId} {x y : Cell} (hx : ∀ n ∈ namesOfCell x, look' n = look n) (hy : ∀ n ∈ namesOfCell y, look' n = look n) : appendA E look' nx t x y = appendA E look nx t x y := by
  unfold appendA
  have hy' : ∀ n ∈ ownOf y, look' n = look n := fun n hn => hy n (ownOf_names hn)
  cases x with
  | own n e => simp only [srcAs_look hy', hx n (by simp [namesOfCell])]
  | sub n e lo hi => simp only [srcAs_look hy', hx n (by simp [namesOfCell])]
  | clp n e lo hi => simp only [srcAs_look hy', hx n (by simp [namesOfCell])]
  | _ => simp only [srcAs_look hy']

theorem copyA_look {E : Env} {look look' : Nat → Option Blk} {t : TypeId} {x y : Cell} (hx : ∀ n ∈ namesOfCell x, look' n = look n) (hy : ∀ n ∈ namesOfCell y, look' n = look n) : copyA E look' t x y = copyA E look t x y := by
  unfold copyA
  have hy' : ∀ n ∈ ownOf y, look' n = look n := fun n hn => hy n (ownOf_names hn)
  cases x with
  | own n e => simp only [srcAs_look hy', hx n (by simp [namesOfCell])]
  | sub n e lo hi => simp only [srcAs_look hy', hx n (by simp [namesOfCell])]
  | _ => simp only [srcAs_look hy']

theorem cells_names {v : AVal} {c : Cell} (hc : c ∈ cellsOf v) {n : Nat} (hn : n ∈ ownOf c) : n ∈ namesOfV v := by
  cases v with
  | one d => simp only [cellsOf, List.mem_singleton] at hc; subst hc; exact ownOf_names hn
  | pure t x => rw [flat_own t x c hc] at hn; cases hn
  | agg cs => exact List.mem_flatMap.2 ⟨c, hc, ownOf_names hn⟩
  | tup ps => cases hc

theorem reify_look {look look' : Nat → Option Blk} {t : Ty} {v : AVal} (h : ∀ n ∈ namesOfV v, look' n = look n) : reify look' t v = reify look t v := by
  unfold reify
  split
  · rfl
  · rw [parseAll_look fun c hc n hn => h n (cells_names hc hn)]

theorem elemsA_look {look look' : Nat → Option Blk} {fr : Fr} {e : Ty} : ∀ (ps : List (Nat × Operand)) (j : Nat), (∀ p ∈ ps, ∀ n ∈ namesOfV (rd fr p.2), look' n = look n) → elemsA look' fr e j ps = elemsA look fr e j ps := by
  intro ps
  induction ps with
  | nil => intro j _; rfl
  | cons p r ih =>
    intro j h
    obtain ⟨i, x⟩ := p
    simp only [elemsA]
    rw [reify_look (h (i, x) (by simp)), ih (j + 1) fun q hq => h q (by simp [hq])]

theorem storeA_look {E : Env} {look look' : Nat → Option Blk} {t : TypeId} {a : Cell} {v : AVal} (ha : ∀ n ∈ namesOfCell a, look' n = look n) (hv : ∀ n ∈ namesOfV v, look' n = look n) : storeA E look' t a v = storeA E look t a v := by
  unfold storeA
  cases a with
  | ptr n off => simp only [ha n (by simp [namesOfCell])]
  | eptr n e i off =>
    simp only [ha n (by simp [namesOfCell])]
    have hp : ∀ xs : List e.den, parseAll look' e (splice (flat e (getI e.dflt xs i)) off (cellsOf v)) = parseAll look e (splice (flat e (getI e.dflt xs i)) off (cellsOf v)) := fun xs => by
      refine parseAll_look fun c hc m hm => ?_
      unfold splice at hc
      rcases List.mem_append.1 hc with hc | hc
      · rcases List.mem_append.1 hc with hc | hc
        · rw [flat_own e _ c (List.mem_of_mem_take hc)] at hm; cases hm
        · exact hv m (cells_names hc hm)
      · rw [flat_own e _ c (List.mem_of_mem_drop hc)] at hm; cases hm
    simp only [hp]
  | _ => rfl

theorem convertA_look {E : Env} {look look' : Nat → Option Blk} {nx : Nat} {s d : TypeId} {c : Cell} (h : ∀ n ∈ namesOfCell c, look' n = look n) : convertA E look' nx s d c = convertA E look nx s d c := by
  have hc : ∀ t, cellAs look' t c = cellAs look t c := fun t => cellAs_look (fun n hn => h n (ownOf_names hn))
  unfold convertA
  split
  · rfl
  · rfl
  · rfl
  · rw [hc]
  · rfl
  · rfl

theorem mapUpdateA_look {E : Env} {look look' : Nat → Option Blk} {t : TypeId} {m i : Cell} {x : AVal} (hm : ∀ n ∈ namesOfCell m, look' n = look n) (hi : ∀ n ∈ namesOfCell i, look' n = look n) (hv : ∀ n ∈ namesOfV x, look' n = look n) : mapUpdateA E look' t m i x = mapUpdateA E look t m i x := by
  have h2 : ∀ k, cellAs look' k i = cellAs look k i := fun k => cellAs_look fun n hn => hi n (ownOf_names hn)
  have h3 : ∀ t, reify look' t x = reify look t x := fun t => reify_look hv
  unfold mapUpdateA
  cases m with
  | mp n k v => simp only [h2, h3, hm n (by simp [namesOfCell])]
  | _ => rfl

theorem stepA_look2 {E : Env} {look look' : Nat → Option Blk} {fr : Fr} {nx : Nat} {o : Op} (h : ∀ n ∈ touched fr o, look' n = look n) : stepA E look' fr nx o = stepA E look fr nx o := by
  have hv : ∀ x ∈ o.operands.toList, ∀ n ∈ namesOfV (rd fr x), look' n = look n := fun x hx n hn => h n (touched_mem hx hn)
  have hx : ∀ x ∈ o.operands.toList, ∀ n ∈ namesOfCell (rdC fr x), look' n = look n := fun x hx n hn => hv x hx n (rdC_names hn)
  cases o with
  | buildSlice t n ps =>
    simp only [stepA, buildSliceA]
    have he : ∀ e : Ty, elemsA look' fr e 0 ps.toList = elemsA look fr e 0 ps.toList := fun e => elemsA_look ps.toList 0 fun p hp => hv p.2 (by simp only [Op.operands, Array.toList_map, List.mem_map]; exact ⟨p, hp, rfl⟩)
    simp only [he]
  | load t x => simp only [stepA]; rw [loadA_look (hx x (by simp [Op.operands]))]
  | store t x v => simp only [stepA]; rw [storeA_look (hx x (by simp [Op.operands])) (hv v (by simp [Op.operands]))]
  | convert s d x => simp only [stepA]; rw [convertA_look (hx x (by simp [Op.operands]))]
  | slice t x lo hi mx => simp only [stepA]; rw [sliceA_look (hx x (by simp [Op.operands]))]
  | indexAddr t x i =>
    have he : ∀ i, indexAddrA E look' t (rdC fr x) i = indexAddrA E look t (rdC fr x) i := fun i => indexAddrA_look (hx x (by simp [Op.operands]))
    simp only [stepA, he]
  | lookup t x i ok => simp only [stepA]; rw [lookupA_look (hx x (by simp [Op.operands])) (hx i (by simp [Op.operands]))]
  | mapUpdate t m i x => simp only [stepA]; rw [mapUpdateA_look (hx m (by simp [Op.operands])) (hx i (by simp [Op.operands])) (hv x (by simp [Op.operands]))]
  | insert t m i x => simp only [stepA]; rw [mapUpdateA_look (hx m (by simp [Op.operands])) (hx i (by simp [Op.operands])) (hv x (by simp [Op.operands]))]
  | makeFunc fn first caps => cases fn <;> rfl
  | call c =>
    obtain ⟨callee, args, ats⟩ := c
    cases callee with
    | builtin b =>
      have hx' : ∀ x ∈ args.toList, ∀ n ∈ namesOfCell (rdC fr x), look' n = look n := fun x hm => hx x (by simpa [Op.operands, Call.operands] using hm)
      simp only [stepA]
      unfold builtinA
      generalize args.toList = l at hx'
      generalize ats.toList = ts
      split
      · rename_i x t r; rw [lenA_look (hx' x (by simp)), mapLenA_look (hx' x (by simp))]
      · rename_i x y t u r; rw [appendA_look (hx' x (by simp)) (hx' y (by simp))]
      · rfl
      · rename_i x y t r; rw [copyA_look (hx' x (by simp)) (hx' y (by simp))]
      · rename_i x t r; rw [clearA_look (hx' x (by simp))]
      · rfl
      · rfl
      · rfl
    | _ => rfl
  | _ => rfl

end Go.Ab

/-
  TWO OPERATIONS THAT LET EACH OTHER BE may come in either order.
-/
set_option linter.unusedVariables false
set_option linter.unusedSimpArgs false
namespace Go.Ab
variable [Tabs]

/-! ### freezing -/
theorem frzCell_names {n : Nat} {b : Blk} {c : Cell} (h : n ∉ namesOfCell c) : frzCell n b c = c := by
  cases c with
  | own m e => simp only [frzCell]; rw [if_neg (fun e => h (by simp [namesOfCell, e]))]
  | sub m e lo hi => simp only [frzCell]; rw [if_neg (fun e => h (by simp [namesOfCell, e]))]
  | clp m e lo hi => simp only [frzCell]; rw [if_neg (fun e => h (by simp [namesOfCell, e]))]
  | mp m k v => simp only [frzCell]; rw [if_neg (fun e => h (by simp [namesOfCell, e]))]
  | _ => rfl

theorem frzV_names {n : Nat} {b : Blk} {v : AVal} (h : n ∉ namesOfV v) : frzV n b v = v := by
  have list : ∀ cs : List Cell, n ∉ cs.flatMap namesOfCell → cs.map (frzCell n b) = cs := by
    intro cs hn
    conv => rhs; rw [← List.map_id cs]
    exact List.map_congr_left fun c hc => frzCell_names fun hm => hn (List.mem_flatMap.2 ⟨c, hc, hm⟩)
  cases v with
  | one c => simp only [frzV]; rw [frzCell_names h]
  | pure t x => rfl
  | agg cs => simp only [frzV]; rw [list cs h]
  | tup ps =>
    simp only [frzV]
    congr 1
    conv => rhs; rw [← List.map_id ps]
    refine List.map_congr_left fun p hp => ?_
    rw [list p.2 (fun hm => h (List.mem_flatMap.2 ⟨p, hp, hm⟩))]
    rfl

/-- a block that freezing leaves alone -/
def Calm (ns : List Nat) (hp : Hp) (n : Nat) : Prop := n ∉ ns ∧ ∀ cs, hget hp n = some (.var cs) → ∀ m ∈ cs.flatMap namesOfCell, m ∉ ns

theorem calm_of_holders {ns : List Nat} {n : Nat} (h1 : n ∉ ns) : ∀ {hp : Hp}, n ∉ holders ns hp → Calm ns hp n := by
  intro hp
  induction hp with
  | nil => intro _; exact ⟨h1, fun cs h => by simp [hget] at h⟩
  | cons p r ih =>
    intro h
    obtain ⟨m, b⟩ := p
    refine ⟨h1, fun cs hc => ?_⟩
    simp only [hget] at hc
    by_cases hm : m = n
    · subst hm
      rw [if_pos rfl] at hc
      simp only [Option.some.injEq] at hc
      subst hc
      simp only [holders] at h
      by_cases ha : (cs.flatMap namesOfCell).any ns.contains = true
      · rw [if_pos ha] at h; simp at h
      · intro k hk hkn
        exact ha (List.any_eq_true.2 ⟨k, hk, by simpa using hkn⟩)
    · rw [if_neg hm] at hc
      refine (ih ?_).2 cs hc
      intro hr
      apply h
      cases b with
      | arr e xs => exact hr
      | map kt vt xs => exact hr
      | var cs' =>
        simp only [holders]
        split
        · exact List.mem_cons_of_mem _ hr
        · exact hr

/-- Freezing is a map over the frame. -/
theorem frzAll_map : ∀ (ns : List Nat) (hp : Hp), ∃ (g : AVal → AVal) (hp' : Hp), (∀ fr, frzAll fr hp ns = (fr.map g, hp')) ∧ (∀ v, (∀ n ∈ namesOfV v, n ∉ ns) → g v = v) ∧ (∀ n, Calm ns hp n → hget hp' n = hget hp n) := by
  intro ns
  induction ns with
  | nil => intro hp; exact ⟨id, hp, fun fr => by simp [frzAll], fun v _ => rfl, fun n _ => rfl⟩
  | cons n r ih =>
    intro hp
    cases hb : hget hp n with
    | none =>
      obtain ⟨g, hp', h1, h2, h3⟩ := ih hp
      refine ⟨g, hp', fun fr => by simp only [frzAll, frz1, hb]; exact h1 fr, fun v hv => h2 v fun m hm hr => hv m hm (by simp [hr]), fun m hm => h3 m ⟨fun hr => hm.1 (by simp [hr]), fun cs hc k hk hr => hm.2 cs hc k hk (by simp [hr])⟩⟩
    | some b =>
      obtain ⟨g, hp', h1, h2, h3⟩ := ih ((hrem hp n).map fun e => (e.1, frzB n b e.2))
      refine ⟨g ∘ frzV n b, hp', fun fr => ?_, fun v hv => ?_, fun m hm => ?_⟩
      · simp only [frzAll, frz1, hb]
        rw [h1]
        simp
      · have e : frzV n b v = v := frzV_names fun hn => hv n hn (by simp)
        show g (frzV n b v) = v
        rw [e]
        exact h2 v fun m hm hr => hv m hm (by simp [hr])
      · have hmn : m ≠ n := fun e => hm.1 (by simp [e])
        have hget1 : hget ((hrem hp n).map fun e => (e.1, frzB n b e.2)) m = (hget hp m).map (frzB n b) := by
          rw [hget_map, hget_hrem, if_neg hmn]
        have same : (hget hp m).map (frzB n b) = hget hp m := by
          cases hc : hget hp m with
          | none => rfl
          | some c =>
            cases c with
            | arr e xs => rfl
            | map kt vt xs => rfl
            | var cs =>
              have hcs : cs.map (frzCell n b) = cs := by
                conv => rhs; rw [← List.map_id cs]
                exact List.map_congr_left fun c hcc => frzCell_names fun hk => hm.2 cs hc n (List.mem_flatMap.2 ⟨c, hcc, hk⟩) (by simp)
              simp only [Option.map_some, frzB, hcs]
        rw [h3 m ⟨fun hr => hm.1 (by simp [hr]), fun cs hc k hk hr => ?_⟩, hget1, same]
        rw [hget1, same] at hc
        exact hm.2 cs hc k hk (by simp [hr])

theorem acts_get : ∀ (as : List HAct) (hp : Hp) (n : Nat), n ∉ as.map HAct.name → hget (acts hp as) n = hget hp n := by
  intro as
  induction as with
  | nil => intro hp n _; rfl
  | cons a r ih =>
    intro hp n h
    simp only [List.map_cons, List.mem_cons, not_or] at h
    simp only [acts]
    rw [ih _ _ h.2]
    cases a with
    | put m b => simp only [act, hget_hput]; exact if_neg h.1
    | rem m => simp only [act, hget_hrem]; exact if_neg h.1

/-! ### frames -/
theorem rdT_set {fr : Fr} {d t : Nat} {v : AVal} (h : t ≠ d) : rdT (fr.set d v) t = rdT fr t := by
  simp only [rdT, List.getD_eq_getElem?_getD, List.getElem?_set_ne (Ne.symm h)]

theorem rdT_put {fr : Fr} {d : Option Tmp} {t : Nat} {v : AVal} (h : ∀ d', d = some d' → t ≠ d') : rdT (putT fr d v) t = rdT fr t := by
  cases d with
  | none => rfl
  | some d => exact rdT_set (h d rfl)

theorem rdT_map {fr : Fr} {g : AVal → AVal} (hg : g (.one .undef) = .one .undef) (t : Nat) : rdT (fr.map g) t = g (rdT fr t) := by
  simp only [rdT, List.getD_eq_getElem?_getD, List.getElem?_map]
  cases fr[t]? with
  | none => exact hg.symm
  | some v => rfl

theorem putT_map {fr : Fr} {g : AVal → AVal} {d : Option Tmp} {v : AVal} : (putT fr d v).map g = putT (fr.map g) d (g v) := by
  cases d with
  | none => rfl
  | some d => simp [putT, List.map_set]

theorem putT_comm {fr : Fr} {d d' : Option Tmp} {v v' : AVal} (h : ∀ x, d = some x → d' ≠ some x) : putT (putT fr d v) d' v' = putT (putT fr d' v') d v := by
  cases d with
  | none => rfl
  | some d =>
    cases d' with
    | none => rfl
    | some d' => simp only [putT]; exact List.set_comm _ _ fun e => h d rfl (by rw [e])

theorem set_same {fr : Fr} {d : Nat} {v : AVal} (h : rdT fr d = v) (hv : v ≠ .one .undef) : fr.set d v = fr := by
  simp only [rdT, List.getD_eq_getElem?_getD] at h
  cases hd : fr[d]? with
  | none => rw [hd] at h; exact absurd h.symm hv
  | some u =>
    rw [hd] at h
    simp only [Option.getD_some] at h
    subst h
    obtain ⟨hlt, he⟩ := List.getElem?_eq_some_iff.1 hd
    rw [← he]
    exact List.set_getElem_self hlt

/-! ### one operation -/
/-- Is a guarded operation wanted? -/
def wantedA (ops : Array Oper) (o : Oper) (fr : Fr) : Option Bool :=
  match o.guard with
  | none => some true
  | some (j, want) => match dstOf ops j with
    | some d => match rdT fr d with
      | .one (.val .bool t) => some (t == want)
      | .tup [] => some false
      | _ => none
    | none => none

/-- What an operation comes to, calls that are run in place aside. -/
def outE (C : Ctx) (o : Oper) (σ : St) : Option Out :=
  match o.op with
  | .pick c a b => match rdC σ.fr c with
    | .val .bool t => if t = true then some { test := true, v := rd σ.fr a } else some { test := true, v := rd σ.fr b }
    | _ => none
  | .call { callee := .value f, args, .. } => match callR C (o.dst.getD 0) σ (rdC σ.fr f) (args.toList.map (rd σ.fr)) with
    | some (.inl out) => some out
    | _ => none
  | op => match stepA C.E (hget σ.hp) σ.fr σ.nx op with
    | some out => if out.test = true then some out else none
    | none => none

theorem after_still {σ : St} {out : Out} {d : Option Tmp} (h1 : out.frz = []) (h2 : out.acts = []) (h3 : out.made = 0) : σ.after out d = { fr := putT σ.fr d out.v, hp := σ.hp, nx := σ.nx } := by
  simp [St.after, h1, h2, h3, frzAll, acts]

theorem exec_cases {C : Ctx} (hC : NatCtx C) {o : Oper} {σ σ' : St} {f : Foot} (h : execR C o σ = some (f, σ')) : (∃ out, outE C o σ = some out ∧ f = footOf σ o.op out ∧ σ' = σ.after out o.dst) ∨ f = .all := by
  unfold execR execA at h
  unfold outE
  split at h
  · rename_i c a b ho
    split at h
    · rename_i t hc
      split at h
      · rename_i ht
        simp only [Option.some.injEq, Prod.mk.injEq] at h
        obtain ⟨rfl, rfl⟩ := h
        left
        simp only [ho, hc, ht, if_true]
        exact ⟨_, rfl, rfl, rfl⟩
      · rename_i ht
        simp only [Option.some.injEq, Prod.mk.injEq] at h
        obtain ⟨rfl, rfl⟩ := h
        left
        simp only [ho, hc, ht]
        exact ⟨_, rfl, rfl, rfl⟩
    · cases h
  · rename_i fo args at_ ho
    simp only [ho]
    rw [callA_nat hC] at h
    cases hc : callR C (o.dst.getD 0) σ (rdC σ.fr fo) (args.toList.map (rd σ.fr)) with
    | none => rw [hc] at h; cases h
    | some x =>
      rw [hc] at h
      cases x with
      | inl out =>
        simp only [bindO_some, Option.some.injEq, Prod.mk.injEq] at h
        obtain ⟨rfl, rfl⟩ := h
        left
        exact ⟨_, rfl, by rw [← ho], rfl⟩
      | inr y =>
        simp only [bindO_some, Option.some.injEq, Prod.mk.injEq] at h
        exact Or.inr h.1.symm
  · split at h
    · rename_i out hs
      left
      cases ht : out.test with
      | false => rw [ht] at h; cases h
      | true =>
        rw [ht] at h
        simp only [gate_true, Option.some.injEq, Prod.mk.injEq] at h
        obtain ⟨rfl, rfl⟩ := h
        refine ⟨out, ?_, rfl, rfl⟩
        split
        · exact (‹∀ (c a b : Operand), o.op = Op.pick c a b → False› _ _ _ (by assumption)).elim
        · exact (‹∀ (f : Operand) (args : Array Operand) (at_ : Array TypeId), o.op = Op.call { callee := .value f, args := args, argTypes := at_ } → False› _ _ _ (by assumption)).elim
        · rw [hs]; simp [ht]
    · cases h

theorem exec_out {C : Ctx} (hC : NatCtx C) {o : Oper} {σ : St} {out : Out} (h : outE C o σ = some out) : execR C o σ = some (footOf σ o.op out, σ.after out o.dst) := by
  unfold outE at h
  unfold execR execA
  split at h
  · rename_i c a b ho
    split at h
    · rename_i t hc
      simp only [ho, hc]
      split at h
      · rename_i ht
        simp only [Option.some.injEq] at h; subst h
        simp only [ht, if_true]
        rw [after_still (out := { test := true, v := rd σ.fr a }) rfl rfl rfl]
      · rename_i ht
        simp only [Option.some.injEq] at h; subst h
        simp only [ht]
        rw [after_still (out := { test := true, v := rd σ.fr b }) rfl rfl rfl]
        rfl
    · cases h
  · rename_i fo args at_ ho
    simp only [ho]
    rw [callA_nat hC]
    cases hc : callR C (o.dst.getD 0) σ (rdC σ.fr fo) (args.toList.map (rd σ.fr)) with
    | none => rw [hc] at h; cases h
    | some x =>
      rw [hc] at h
      cases x with
      | inl out' => simp only [Option.some.injEq] at h; subst h; rfl
      | inr y => cases h
  · split at h
    · rename_i out' hs
      split at h
      · rename_i ht
        simp only [Option.some.injEq] at h; subst h
        split
        · exact (‹∀ (c a b : Operand), o.op = Op.pick c a b → False› _ _ _ (by assumption)).elim
        · exact (‹∀ (f : Operand) (args : Array Operand) (at_ : Array TypeId), o.op = Op.call { callee := .value f, args := args, argTypes := at_ } → False› _ _ _ (by assumption)).elim
        · rw [hs]; simp [ht, gate]
      · cases h
    · cases h

theorem setBool {fr : Fr} {d : Nat} {t : Bool} (h : rdT fr d = .one (.val .bool t)) : fr.set d (.one (.val .bool t)) = fr := set_same h (by simp)

theorem oneR_eq {C : Ctx} (ops : Array Oper) (o : Oper) (σ : St) : oneR C ops o σ = match wantedA ops o σ.fr with
    | some true => execR C o σ
    | some false => some (.still [] [], { σ with fr := putT σ.fr o.dst (.tup []) })
    | none => none := by
  unfold oneR oneA wantedA
  cases hg : o.guard with
  | none => rfl
  | some p =>
    obtain ⟨j, want⟩ := p
    simp only
    cases hd : dstOf ops j with
    | none => rfl
    | some d =>
      simp only
      cases hv : rdT σ.fr d with
      | one c =>
        cases c with
        | val ty t =>
          cases ty with
          | bool =>
            simp only
            cases t with
            | true => rw [if_pos rfl, setBool hv]; cases want <;> rfl
            | false => rw [if_neg (by simp), setBool hv]; cases want <;> rfl
          | _ => rfl
        | _ => rfl
      | tup ps => cases ps <;> rfl
      | _ => rfl

theorem one_cases {C : Ctx} {ops : Array Oper} {o : Oper} {σ σ' : St} {f : Foot} (h : oneR C ops o σ = some (f, σ')) :
    (wantedA ops o σ.fr = some false ∧ f = .still [] [] ∧ σ' = { σ with fr := putT σ.fr o.dst (.tup []) }) ∨
    (wantedA ops o σ.fr = some true ∧ execR C o σ = some (f, σ')) := by
  rw [oneR_eq] at h
  split at h
  · rename_i hw; exact Or.inr ⟨hw, h⟩
  · rename_i hw
    simp only [Option.some.injEq, Prod.mk.injEq] at h
    exact Or.inl ⟨hw, h.1.symm, h.2.symm⟩
  · cases h

theorem one_of_wanted {C : Ctx} {ops : Array Oper} {o : Oper} {σ : St} (h : wantedA ops o σ.fr = some true) : oneR C ops o σ = execR C o σ := by
  rw [oneR_eq, h]

theorem one_of_skip {C : Ctx} {ops : Array Oper} {o : Oper} {σ : St} (h : wantedA ops o σ.fr = some false) : oneR C ops o σ = some (.still [] [], { σ with fr := putT σ.fr o.dst (.tup []) }) := by
  rw [oneR_eq, h]

/-! ### what it looks at -/
theorem rd_of_looks {ops : Array Oper} {o : Oper} {fr fr' : Fr} (h : ∀ t ∈ o.looksAt ops, rdT fr' t = rdT fr t) : ∀ x ∈ o.op.operands.toList, rd fr' x = rd fr x := by
  intro x hx
  cases x with
  | tmp t => exact h t (List.mem_append_left _ (List.mem_filterMap.2 ⟨.tmp t, hx, rfl⟩))
  | _ => rfl

theorem wanted_of_looks {ops : Array Oper} {o : Oper} {fr fr' : Fr} (h : ∀ t ∈ o.looksAt ops, rdT fr' t = rdT fr t) : wantedA ops o fr' = wantedA ops o fr := by
  unfold wantedA
  cases hg : o.guard with
  | none => rfl
  | some p =>
    obtain ⟨j, want⟩ := p
    simp only
    cases hd : dstOf ops j with
    | none => rfl
    | some d =>
      simp only
      rw [h d]
      refine List.mem_append_right _ ?_
      rw [hg]
      show d ∈ ((ops[j]?).bind (·.dst)).toList
      have hd' : (ops[j]?).bind (·.dst) = some d := hd
      rw [hd']
      simp

theorem touched_fr {fr fr' : Fr} {o : Op} (h : ∀ x ∈ o.operands.toList, rd fr' x = rd fr x) : touched fr' o = touched fr o := by
  unfold touched
  rw [List.flatMap_def, List.flatMap_def]
  congr 1
  refine List.map_congr_left fun x hx => ?_
  cases x with
  | tmp t => have : rdT fr' t = rdT fr t := h _ hx; simp only [this]
  | _ => rfl

theorem callR_fr {C : Ctx} {d : Nat} {σ : St} {fr' : Fr} {f : Cell} {args : List AVal} : callR C d { σ with fr := fr' } f args = callR C d σ f args := rfl

theorem outE_fr {C : Ctx} {o : Oper} {σ : St} {fr' : Fr} (h : ∀ x ∈ o.op.operands.toList, rd fr' x = rd σ.fr x) : outE C o { σ with fr := fr' } = outE C o σ := by
  unfold outE
  split
  · rename_i c a b ho
    rw [ho] at h
    simp only [rdC_fr (h c (by simp [Op.operands])), h a (by simp [Op.operands]), h b (by simp [Op.operands])]
  · rename_i f args at_ ho
    rw [ho] at h
    have ha : args.toList.map (rd fr') = args.toList.map (rd σ.fr) := List.map_congr_left fun x hx => h x (by simp [Op.operands, Call.operands]; exact Or.inr (by simpa using hx))
    simp only [rdC_fr (h f (by simp [Op.operands, Call.operands])), ha, callR_fr]
  · simp only [stepA_fr h]

theorem lookedAt_fr {fr fr' : Fr} {o : Op} (h : ∀ x ∈ o.operands.toList, rd fr' x = rd fr x) : lookedAt fr' o = lookedAt fr o := by
  unfold lookedAt
  rw [touched_fr h]

theorem foot_fr {o : Oper} {σ : St} {fr' : Fr} {out : Out} (h : ∀ x ∈ o.op.operands.toList, rd fr' x = rd σ.fr x) : footOf { σ with fr := fr' } o.op out = footOf σ o.op out := by
  unfold footOf
  simp only [touched_fr h, lookedAt_fr h]

theorem foot_still {σ : St} {o : Op} {out : Out} {ns ls : List Nat} (h : footOf σ o out = .still ns ls) : out.frz = [] ∧ out.acts = [] ∧ out.made = 0 ∧ ns = touched σ.fr o ++ namesOfV out.v ∧ ls = lookedAt σ.fr o := by
  unfold footOf at h
  split at h
  · rename_i h1 h2 h3; simp only [Foot.still.injEq] at h; exact ⟨h1, h2, h3, h.1.symm, h.2.symm⟩
  · cases h

theorem ownize_none : ∀ (own : List Nat) (cs : List Cell) (k nx nx' : Nat), (ownize own k nx cs).2.2 = 0 → ownize own k nx' cs = ownize own k nx cs := by
  intro own cs
  induction cs with
  | nil => intro k nx nx' _; rfl
  | cons c r ih =>
    intro k nx nx' h
    simp only [ownize] at h ⊢
    split
    · rename_i hc
      rw [if_pos hc] at h
      split
      · rename_i e xs
        simp at h
      · rename_i c' hne
        split at h
        · exact absurd rfl (hne _ _)
        · rw [ih (k + 1) nx nx' h]
    · rename_i hc
      rw [if_neg hc] at h
      rw [ih (k + 1) nx nx' h]

/-- what a method does to blocks -/
theorem callM0_acts {C : Ctx} (hC : NatCtx C) {d : Nat} {σ : St} {g : Nat} {caps : List (Nat × Nat)} {args : List AVal} {out : Out} (h : callM0 C d σ g caps args (fun out => some (Sum.inl (β := AVal × Hp × Nat) out)) (fun v hp nx => some (Sum.inr (v, hp, nx))) none = some (Sum.inl out)) :
    ∃ n b, HAct.put n b ∈ out.acts := by
  unfold callM0 at h
  split at h
  · rename_i M n as hM
    split at h
    · rename_i x hx
      cases hr : M.f x with
      | none => rw [hr] at h; cases h
      | some p =>
        rw [hr] at h
        simp only [bindO_some, Option.some.injEq, Sum.inl.injEq] at h
        subst h
        exact ⟨n, _, List.mem_append_right _ (List.mem_singleton.2 rfl)⟩
    · cases h
  · exfalso
    split at h
    · rename_i J hJ
      rw [hC.inl g _ J hJ] at h
      unfold bindO at h
      split at h <;> cases h
    · cases h

theorem callM0_look {C : Ctx} (hC : NatCtx C) {d : Nat} {σ : St} {hp' : Hp} {g : Nat} {caps : List (Nat × Nat)} {args : List AVal} {out : Out} (hl : ∀ v ∈ args, ∀ n ∈ namesOfV v, hget hp' n = hget σ.hp n)
    (h : callM0 C d σ g caps args (fun out => some (Sum.inl (β := AVal × Hp × Nat) out)) (fun v hp nx => some (Sum.inr (v, hp, nx))) none = some (Sum.inl out)) :
    callM0 C d { fr := σ.fr, hp := hp', nx := σ.nx } g caps args (fun out => some (Sum.inl (β := AVal × Hp × Nat) out)) (fun v hp nx => some (Sum.inr (v, hp, nx))) none = some (Sum.inl out) := by
  unfold callM0 at h ⊢
  split at h
  · rename_i M n as hM
    have hn : hget hp' n = hget σ.hp n := hl (.one (.ptr n 0)) (by simp) n (by simp [namesOfV, namesOfCell])
    have hargs : parseAll (hget hp') M.arg (as.flatMap cellsOf) = parseAll (hget σ.hp) M.arg (as.flatMap cellsOf) := parseAll_look fun c hc m hm => by
      obtain ⟨v, hv, hcv⟩ := List.mem_flatMap.1 hc
      exact hl v (by simp [hv]) m (cells_names hcv hm)
    have hin : mutIn M (hget hp') n as = mutIn M (hget σ.hp) n as := by
      unfold mutIn
      rw [hn]
      split
      · rename_i cs hcs
        split
        · rename_i hg
          simp only [Bool.and_eq_true, List.isEmpty_iff] at hg
          have hcont : parseAll (hget hp') M.cont cs = parseAll (hget σ.hp) M.cont cs := parseAll_look fun c hc m hm => by
            have : m ∈ cs.flatMap namesOfCell := List.mem_flatMap.2 ⟨c, hc, ownOf_names hm⟩
            rw [hg.1.2] at this
            cases this
          rw [hcont, hargs]
        · rfl
      · rfl
    simp only
    rw [hin]
    exact h
  · exfalso
    split at h
    · rename_i J hJ
      rw [hC.inl g _ J hJ] at h
      unfold bindO at h
      split at h <;> cases h
    · cases h

theorem callQ_acts {T : TFun} {σ : St} {args : List AVal} {out : Out} (h : callQ T σ args (fun out => some (Sum.inl (β := AVal × Hp × Nat) out)) none = some (Sum.inl out)) :
    ∃ n b, HAct.put n b ∈ out.acts := by
  unfold callQ at h
  split at h
  · rename_i a ha
    cases hr : T.f a with
    | none => rw [hr] at h; cases h
    | some r =>
      rw [hr] at h
      simp only [bindO_some] at h
      split at h
      · cases h
      · rename_i hne
        simp only [Option.some.injEq, Sum.inl.injEq] at h
        subst h
        have hall : ∀ (own : List Nat) (cs : List Cell) (k nx : Nat), ∀ a ∈ (ownize own k nx cs).2.1, ∃ n b, a = HAct.put n b := by
          intro own cs
          induction cs with
          | nil => intro k nx a ha; simp [ownize] at ha
          | cons c r ih =>
            intro k nx a ha
            simp only [ownize] at ha
            split at ha
            · split at ha
              · rcases List.mem_cons.1 ha with ha | ha
                · exact ⟨_, _, ha⟩
                · exact ih _ _ a ha
              · exact ih _ _ a ha
            · exact ih _ _ a ha
        cases hl : (ownize T.own 0 σ.nx (flat T.res r)).2.1 with
        | nil => rw [hl] at hne; exact absurd rfl hne
        | cons x xs =>
          obtain ⟨n, b, hx⟩ := hall T.own (flat T.res r) 0 σ.nx x (by rw [hl]; simp)
          exact ⟨n, b, by simp [hx]⟩
  · cases h

theorem callQ_look {T : TFun} {σ : St} {hp' : Hp} {args : List AVal} {R : Type} (K : Out → R) (s : R) (hl : ∀ v ∈ args, ∀ n ∈ namesOfV v, hget hp' n = hget σ.hp n) : callQ T { fr := σ.fr, hp := hp', nx := σ.nx } args K s = callQ T σ args K s := by
  have : qIn T (hget hp') args = qIn T (hget σ.hp) args := by
    unfold qIn
    rw [parseAll_look fun c hc m hm => ?_]
    obtain ⟨v, hv, hcv⟩ := List.mem_flatMap.1 hc
    exact hl v hv m (cells_names hcv hm)
  unfold callQ
  simp only [this]

theorem callM_acts {C : Ctx} (hC : NatCtx C) {d : Nat} {σ : St} {g : Nat} {caps : List (Nat × Nat)} {args : List AVal} {out : Out} (h : callM C d σ g caps args (fun out => some (Sum.inl (β := AVal × Hp × Nat) out)) (fun v hp nx => some (Sum.inr (v, hp, nx))) none = some (Sum.inl out)) :
    ∃ n b, HAct.put n b ∈ out.acts := by
  unfold callM at h
  split at h
  · exact callQ_acts h
  · exact callM0_acts hC h

theorem callM_look {C : Ctx} (hC : NatCtx C) {d : Nat} {σ : St} {hp' : Hp} {g : Nat} {caps : List (Nat × Nat)} {args : List AVal} {out : Out} (hl : ∀ v ∈ args, ∀ n ∈ namesOfV v, hget hp' n = hget σ.hp n)
    (h : callM C d σ g caps args (fun out => some (Sum.inl (β := AVal × Hp × Nat) out)) (fun v hp nx => some (Sum.inr (v, hp, nx))) none = some (Sum.inl out)) :
    callM C d { fr := σ.fr, hp := hp', nx := σ.nx } g caps args (fun out => some (Sum.inl (β := AVal × Hp × Nat) out)) (fun v hp nx => some (Sum.inr (v, hp, nx))) none = some (Sum.inl out) := by
  unfold callM at h ⊢
  split at h
  · rename_i T hT
    exact (callQ_look _ _ hl).trans h
  · exact callM0_look hC hl h

theorem outE_look {C : Ctx} (hC : NatCtx C) {o : Oper} {σ : St} {out : Out} {hp' : Hp} {nx' : Nat} (h : outE C o σ = some out) (h1 : out.frz = []) (h2 : out.acts = []) (h3 : out.made = 0) (hl : ∀ n ∈ touched σ.fr o.op, hget hp' n = hget σ.hp n) :
    outE C o { fr := σ.fr, hp := hp', nx := nx' } = some out := by
  unfold outE at h ⊢
  split at h
  · rename_i c a b ho; exact h
  · rename_i f args at_ ho
    cases hc : callR C (o.dst.getD 0) σ (rdC σ.fr f) (args.toList.map (rd σ.fr)) with
    | none => rw [hc] at h; cases h
    | some x =>
      rw [hc] at h
      cases x with
      | inr y => cases h
      | inl out' =>
        simp only [Option.some.injEq] at h; subst h
        have hnames : ∀ c ∈ (args.toList.map (rd σ.fr)).flatMap cellsOf, ∀ n ∈ ownOf c, hget hp' n = hget σ.hp n := by
          intro c hcm n hn
          obtain ⟨v, hv, hcv⟩ := List.mem_flatMap.1 hcm
          obtain ⟨x, hx, rfl⟩ := List.mem_map.1 hv
          refine hl n (touched_mem (x := x) (by rw [ho]; simp [Op.operands, Call.operands]; exact Or.inr (by simpa using hx)) ?_)
          cases hr : rd σ.fr x with
          | one c' => rw [hr] at hcv; simp [cellsOf] at hcv; subst hcv; exact ownOf_names hn
          | pure t y => rw [hr] at hcv; rw [flat_own t y c hcv] at hn; cases hn
          | agg cs => rw [hr] at hcv; exact List.mem_flatMap.2 ⟨c, hcv, ownOf_names hn⟩
          | tup ps => rw [hr] at hcv; cases hcv
        have key : callR C (o.dst.getD 0) { fr := σ.fr, hp := hp', nx := nx' } (rdC σ.fr f) (args.toList.map (rd σ.fr)) = some (.inl out') := by
          rw [← hc]
          unfold callR callA at hc ⊢
          have inl : ∀ {g : Nat} {caps : List (Nat × Nat)}, callM C (o.dst.getD 0) σ g caps (args.toList.map (rd σ.fr)) (fun out => some (Sum.inl (β := AVal × Hp × Nat) out)) (fun v hp nx => some (Sum.inr (v, hp, nx))) none = some (Sum.inl out') → False := by
            intro g caps h
            obtain ⟨n, b, hm⟩ := callM_acts hC h
            rw [h2] at hm
            simp at hm
          cases hf : rdC σ.fr f with
          | fn g caps =>
            rw [hf] at hc
            simp only at hc ⊢
            cases hT : C.Φ g with
            | none =>
              rw [hT] at hc
              exact (inl hc).elim
            | some T =>
              rw [hT] at hc
              cases caps with
              | cons c r => exact (inl hc).elim
              | nil =>
                simp only at hc ⊢
                rw [parseAll_look hnames]
                split at hc
                · rename_i a ha
                  cases hr : T.f a with
                  | none => rw [hr] at hc; cases hc
                  | some r =>
                    rw [hr] at hc
                    simp only [bindO_some, Option.some.injEq, Sum.inl.injEq] at hc ⊢
                    subst hc
                    simp only at h3
                    rw [ownize_none _ _ _ _ nx' h3]
                · cases hc
          | _ => rw [hf] at hc; first | done | cases hc
        rw [key]
  · split at h
    · rename_i out' hs
      split at h
      · rename_i ht
        simp only [Option.some.injEq] at h; subst h
        simp only [stepA_look hs h2 h3 hl]
        simp [ht]
      · cases h
    · cases h

/-! ### the swap -/
theorem foot_eff {σ : St} {o : Op} {out : Out} {n : Nat} (h : match footOf σ o out with | .still _ _ => True | .eff _ ms _ => n ∉ ms | .all => False) :
    Calm out.frz σ.hp n ∧ n ∉ out.acts.map HAct.name := by
  unfold footOf at h
  split at h
  · rename_i ns hf
    split at hf
    · rename_i h1 h2 h3
      rw [h1, h2]
      exact ⟨⟨by simp, fun cs _ m _ => by simp⟩, by simp⟩
    · cases hf
  · rename_i rs ms fz hf
    split at hf
    · cases hf
    · rename_i hne
      simp only [Foot.eff.injEq] at hf
      obtain ⟨_, rfl, _⟩ := hf
      simp only [List.mem_append, not_or] at h
      exact ⟨calm_of_holders h.1.2 h.2, h.1.1⟩
  · exact h.elim

theorem foot_nofz {σ : St} {o : Op} {out : Out} {rs ms : List Nat} (h : footOf σ o out = .eff rs ms false) : out.frz = [] ∧ ∀ n, n ∉ ms → n ∉ out.acts.map HAct.name := by
  unfold footOf at h
  split at h
  · cases h
  · simp only [Foot.eff.injEq] at h
    obtain ⟨_, rfl, h⟩ := h
    refine ⟨?_, fun n hn => ?_⟩
    · cases hf : out.frz with
      | nil => rfl
      | cons a r => rw [hf] at h; simp at h
    · simp only [List.mem_append, not_or] at hn
      exact hn.1.1

theorem disj_iff {xs ys : List Nat} : disj xs ys = true ↔ ∀ n ∈ xs, n ∉ ys := by
  simp [disj]

/-- what a step does: written value, blocks -/
theorem step_shape {C : Ctx} (hC : NatCtx C) {ops : Array Oper} {o : Oper} {σ σ' : St} {f : Foot} (h : oneR C ops o σ = some (f, σ')) (hf : f ≠ .all) :
    (wantedA ops o σ.fr = some false ∧ f = .still [] [] ∧ σ' = { σ with fr := putT σ.fr o.dst (.tup []) }) ∨
    (wantedA ops o σ.fr = some true ∧ ∃ out, outE C o σ = some out ∧ f = footOf σ o.op out ∧ σ' = σ.after out o.dst) := by
  rcases one_cases h with h | ⟨hw, he⟩
  · exact Or.inl h
  · rcases exec_cases hC he with ⟨out, h1, h2, h3⟩ | h
    · exact Or.inr ⟨hw, out, h1, h2, h3⟩
    · exact absurd h hf

def guardTmp (ops : Array Oper) (o : Oper) : Option Tmp :=
  match o.guard with
  | none => none
  | some (j, _) => dstOf ops j

theorem guard_looks {ops : Array Oper} {o : Oper} {d : Tmp} (h : guardTmp ops o = some d) : d ∈ o.looksAt ops := by
  unfold guardTmp at h
  refine List.mem_append_right _ ?_
  cases hg : o.guard with
  | none => rw [hg] at h; cases h
  | some p =>
    rw [hg] at h
    show d ∈ ((ops[p.1]?).bind (·.dst)).toList
    have hd' : (ops[p.1]?).bind (·.dst) = some d := h
    rw [hd']
    simp

theorem wanted_of_guard {ops : Array Oper} {o : Oper} {fr fr' : Fr} (h : ∀ d, guardTmp ops o = some d → rdT fr' d = rdT fr d) : wantedA ops o fr' = wantedA ops o fr := by
  unfold wantedA
  unfold guardTmp at h
  cases hg : o.guard with
  | none => rfl
  | some p =>
    obtain ⟨j, want⟩ := p
    rw [hg] at h
    simp only at h ⊢
    cases hd : dstOf ops j with
    | none => rfl
    | some d => simp only; rw [h d hd]

theorem wanted_guard {ops : Array Oper} {o : Oper} {fr : Fr} {b : Bool} (h : wantedA ops o fr = some b) : ∀ d, guardTmp ops o = some d → namesOfV (rdT fr d) = [] := by
  intro d hd
  unfold wantedA at h
  unfold guardTmp at hd
  cases hg : o.guard with
  | none => rw [hg] at hd; cases hd
  | some p =>
    obtain ⟨j, want⟩ := p
    rw [hg] at h hd
    simp only at h hd
    rw [hd] at h
    simp only at h
    split at h
    · rename_i t ht; rw [ht]; rfl
    · rename_i ht; rw [ht]; rfl
    · cases h

theorem step_still {C : Ctx} (hC : NatCtx C) {ops : Array Oper} {o : Oper} {σ σ' : St} {ns ls : List Nat} (h : oneR C ops o σ = some (.still ns ls, σ')) :
    ∃ v, σ' = { σ with fr := putT σ.fr o.dst v } ∧ (∀ n ∈ namesOfV v, n ∈ ns) ∧
      -- the same where it sees the same
      ∀ (fr' : Fr) (hp' : Hp) (nx' : Nat), (∀ t ∈ o.looksAt ops, (∀ n ∈ namesOfV (rdT σ.fr t), n ∈ ns) → rdT fr' t = rdT σ.fr t) → (∀ n ∈ ns, hget hp' n = hget σ.hp n) →
        oneR C ops o { fr := fr', hp := hp', nx := nx' } = some (.still ns ls, { fr := putT fr' o.dst v, hp := hp', nx := nx' }) := by
  rcases step_shape hC h (by simp) with ⟨hw, hf, hs⟩ | ⟨hw, out, ho, hf, hs⟩
  · simp only [Foot.still.injEq] at hf
    obtain ⟨rfl, rfl⟩ := hf
    refine ⟨.tup [], hs, fun n hn => by simp [namesOfV, namesOfCell] at hn, fun fr' hp' nx' h1 h2 => ?_⟩
    rw [one_of_skip]
    have hg := wanted_guard hw
    rw [← hw]
    exact wanted_of_guard fun d hd => h1 d (guard_looks hd) fun n hn => by rw [hg d hd] at hn; cases hn
  · obtain ⟨e1, e2, e3, e4, e5⟩ := foot_still hf.symm
    refine ⟨out.v, by rw [hs, after_still e1 e2 e3], fun n hn => by rw [e4]; exact List.mem_append_right _ hn, fun fr' hp' nx' h1 h2 => ?_⟩
    have hg := wanted_guard hw
    have h1 : ∀ t ∈ o.looksAt ops, rdT fr' t = rdT σ.fr t := by
      intro t ht
      refine h1 t ht fun n hn => ?_
      rcases List.mem_append.1 ht with ht | ht
      · obtain ⟨x, hx, hxt⟩ := List.mem_filterMap.1 ht
        rw [e4]
        refine List.mem_append_left _ (touched_mem hx ?_)
        cases x <;> simp at hxt
        subst hxt
        exact hn
      · have hd : guardTmp ops o = some t := by
          unfold guardTmp
          cases hgd : o.guard with
          | none => rw [hgd] at ht; cases ht
          | some p => rw [hgd] at ht; simp only [Option.mem_toList] at ht; exact ht
        rw [hg t hd] at hn
        cases hn
    have hrd := rd_of_looks h1
    have g1 : outE C o { fr := σ.fr, hp := hp', nx := nx' } = some out := outE_look hC ho e1 e2 e3 fun n hn => h2 n (by rw [e4]; exact List.mem_append_left _ hn)
    have g2 : outE C o { fr := fr', hp := hp', nx := nx' } = some out := by
      rw [← g1]
      exact outE_fr (σ := { fr := σ.fr, hp := hp', nx := nx' }) hrd
    rw [one_of_wanted (by rw [← hw]; exact wanted_of_looks h1), exec_out hC g2, after_still e1 e2 e3]
    congr 2
    unfold footOf
    rw [e1, e2, e3, e4, e5, touched_fr hrd, lookedAt_fr hrd]
    rfl

/-- Two steps, the first of which lets the second one be. -/
theorem swap {C : Ctx} (hC : NatCtx C) {ops : Array Oper} {x y : Oper} {σ σ1 σ2 : St} {fx fy : Foot} (hy : oneR C ops y σ = some (fy, σ1)) (hx : oneR C ops x σ1 = some (fx, σ2)) (hap : Oper.apart ops y x = true) (hc : compat fy fx = true) :
    ∃ σ1', oneR C ops x σ = some (fx, σ1') ∧ oneR C ops y σ1' = some (fy, σ2) := by
  obtain ⟨a1, a2, a3⟩ := Oper.apart_spec hap
  -- the second one sees the first one's frame as it was
  have see : ∀ (fr : Fr) (v : AVal) (t : Nat), t ∈ x.looksAt ops → rdT (putT fr y.dst v) t = rdT fr t := fun fr v t ht => rdT_put fun d hd e => a1 d hd (by rw [← e]; exact ht)
  have see' : ∀ (fr : Fr) (v : AVal) (t : Nat), t ∈ y.looksAt ops → rdT (putT fr x.dst v) t = rdT fr t := fun fr v t ht => rdT_put fun d hd e => a3 d hd (by rw [← e]; exact ht)
  cases fy with
  | all => simp [compat] at hc
  | still ns ls =>
    obtain ⟨vy, e1, hvn, again⟩ := step_still hC hy
    subst e1
    have hfx : fx ≠ .all := by rintro rfl; simp [compat] at hc
    rcases step_shape hC hx hfx with ⟨hw, hf, hs⟩ | ⟨hw, out, ho, hf, hs⟩
    · subst hs; subst hf
      refine ⟨{ σ with fr := putT σ.fr x.dst (.tup []) }, ?_, ?_⟩
      · exact one_of_skip (by rw [← hw]; exact (wanted_of_looks (see σ.fr vy)).symm)
      · rw [again (putT σ.fr x.dst (.tup [])) σ.hp σ.nx (fun t ht _ => see' σ.fr _ t ht) (fun _ _ => rfl), putT_comm (fun d hd => fun e => a2 d (by rw [e]) hd)]
    · subst hs
      have hrd := rd_of_looks (see σ.fr vy)
      have ho' : outE C x σ = some out := by rw [← ho]; exact (outE_fr (σ := σ) hrd).symm
      refine ⟨σ.after out x.dst, ?_, ?_⟩
      · rw [one_of_wanted (by rw [← hw]; exact (wanted_of_looks (see σ.fr vy)).symm), exec_out hC ho', hf]
        congr 2
        exact (foot_fr (σ := σ) hrd).symm
      · have hdis : ∀ n ∈ ns, Calm out.frz σ.hp n ∧ n ∉ out.acts.map HAct.name := by
          intro n hn
          refine foot_eff (σ := σ) (o := x.op) ?_
          have e : footOf σ x.op out = fx := by rw [hf]; exact (foot_fr (σ := σ) hrd).symm
          rw [e]
          cases fx with
          | still _ => trivial
          | all => exact hfx rfl
          | eff rs ms fz => exact disj_iff.1 hc n hn
        obtain ⟨g, hp', h1, h2, h3⟩ := frzAll_map out.frz σ.hp
        have hgu : g (.one .undef) = .one .undef := h2 _ (by simp [namesOfV, namesOfCell])
        have hgv : g vy = vy := h2 _ fun n hn => (hdis n (hvn n hn)).1.1
        have hlook : ∀ n ∈ ns, hget (acts hp' out.acts) n = hget σ.hp n := fun n hn => (acts_get _ _ _ (hdis n hn).2).trans (h3 n (hdis n hn).1)
        have hfr : ∀ t ∈ y.looksAt ops, (∀ n ∈ namesOfV (rdT σ.fr t), n ∈ ns) → rdT (putT (σ.fr.map g) x.dst out.v) t = rdT σ.fr t := by
          intro t ht hn
          rw [see' _ _ t ht, rdT_map hgu]
          exact h2 _ fun n hm => (hdis n (hn n hm)).1.1
        have := again (putT (σ.fr.map g) x.dst out.v) (acts hp' out.acts) (σ.nx + out.made) hfr hlook
        simp only [St.after, h1]
        rw [this, putT_map, hgv, putT_comm (fun d hd => fun e => a2 d (by rw [e]) hd)]
  | eff rs ms fz =>
    cases fx with
    | eff rs' ms' fz' => simp [compat] at hc
    | all => simp [compat] at hc
    | still ns ls =>
      simp only [compat, Bool.and_eq_true, Bool.not_eq_true'] at hc
      obtain ⟨hfz, hdis⟩ := hc
      subst hfz
      rcases step_shape hC hy (by simp) with ⟨_, hf, _⟩ | ⟨hw, out, ho, hf, hs⟩
      · cases hf
      · obtain ⟨e1, e2⟩ := foot_nofz hf.symm
        obtain ⟨vx, h1, h2, again⟩ := step_still hC hx
        have hs' : σ1 = { fr := putT σ.fr y.dst out.v, hp := acts σ.hp out.acts, nx := σ.nx + out.made } := by
          rw [hs]; simp only [St.after, e1, frzAll]
        subst hs'
        have h3 := again σ.fr σ.hp σ.nx (fun t ht _ => (see σ.fr out.v t ht).symm) (fun n hn => (acts_get _ _ _ (e2 n (disj_iff.1 hdis n hn))).symm)
        refine ⟨_, h3, ?_⟩
        have hrd := rd_of_looks (see' σ.fr vx)
        have ho' : outE C y { σ with fr := putT σ.fr x.dst vx } = some out := by rw [outE_fr hrd]; exact ho
        rw [one_of_wanted (by rw [← hw]; exact wanted_of_looks (see' σ.fr vx)), exec_out hC ho', foot_fr hrd, ← hf, h1]
        simp only [St.after, e1, frzAll]
        rw [putT_comm (fun d hd => fun e => a2 d (by rw [e]) hd)]

/-! ### two operations that both may change blocks -/
theorem holders_nil : ∀ hp : Hp, holders [] hp = [] := by
  intro hp
  induction hp with
  | nil => rfl
  | cons p r ih =>
    obtain ⟨n, b⟩ := p
    cases b with
    | arr e xs => exact ih
    | map kt vt xs => exact ih
    | var cs => simp [holders, ih]

theorem outE_local {C : Ctx} (hC : NatCtx C) {o : Oper} {σ : St} {out : Out} {hp' : Hp} (h : outE C o σ = some out) (hl : ∀ n ∈ touched σ.fr o.op, hget hp' n = hget σ.hp n) :
    outE C o { fr := σ.fr, hp := hp', nx := σ.nx } = some out := by
  unfold outE at h ⊢
  split at h
  · rename_i c a b ho; exact h
  · rename_i f args at_ ho
    cases hc : callR C (o.dst.getD 0) σ (rdC σ.fr f) (args.toList.map (rd σ.fr)) with
    | none => rw [hc] at h; cases h
    | some x =>
      rw [hc] at h
      cases x with
      | inr y => cases h
      | inl out' =>
        simp only [Option.some.injEq] at h; subst h
        have hnames : ∀ c ∈ (args.toList.map (rd σ.fr)).flatMap cellsOf, ∀ n ∈ ownOf c, hget hp' n = hget σ.hp n := by
          intro c hcm n hn
          obtain ⟨v, hv, hcv⟩ := List.mem_flatMap.1 hcm
          obtain ⟨x, hx, rfl⟩ := List.mem_map.1 hv
          exact hl n (touched_mem (x := x) (by rw [ho]; simp [Op.operands, Call.operands]; exact Or.inr (by simpa using hx)) (cells_names hcv hn))
        have key : callR C (o.dst.getD 0) { fr := σ.fr, hp := hp', nx := σ.nx } (rdC σ.fr f) (args.toList.map (rd σ.fr)) = some (.inl out') := by
          rw [← hc]
          unfold callR callA at hc ⊢
          have hlv : ∀ v ∈ args.toList.map (rd σ.fr), ∀ n ∈ namesOfV v, hget hp' n = hget σ.hp n := by
            intro v hv n hn
            obtain ⟨x, hx, rfl⟩ := List.mem_map.1 hv
            exact hl n (touched_mem (x := x) (by rw [ho]; simp [Op.operands, Call.operands]; exact Or.inr (by simpa using hx)) hn)
          cases hf : rdC σ.fr f with
          | fn g caps =>
            rw [hf] at hc
            simp only at hc ⊢
            cases hT : C.Φ g with
            | none =>
              rw [hT] at hc
              exact (callM_look hC hlv hc).trans hc.symm
            | some T =>
              rw [hT] at hc
              cases caps with
              | cons c r => exact (callM_look hC hlv hc).trans hc.symm
              | nil =>
                simp only at hc ⊢
                rw [parseAll_look hnames]
          | _ => rw [hf] at hc; first | done | cases hc
        rw [key]
  · rw [stepA_look2 hl]
    exact h

theorem outE_blind {C : Ctx} {o : Oper} {σ : St} {hp' : Hp} (h : blind o.op = true) : outE C o { fr := σ.fr, hp := hp', nx := σ.nx } = outE C o σ := by
  obtain ⟨dst, op, ty, pos, after, guard⟩ := o
  cases op <;> first | rfl | (simp [blind] at h)

/-- An operation that freezes nothing and is no call in its caller's state looks at what it reads alone, and changes what it writes alone. -/
theorem step_local {C : Ctx} (hC : NatCtx C) {ops : Array Oper} {o : Oper} {σ σ' : St} {f : Foot} (h : oneR C ops o σ = some (f, σ')) (hf : f.here = true) :
    ∃ v as, σ' = { fr := putT σ.fr o.dst v, hp := acts σ.hp as, nx := σ'.nx } ∧ (∀ n ∈ as.map HAct.name, n ∈ f.wr) ∧ σ.nx ≤ σ'.nx ∧
      ∀ (fr' : Fr) (hp' : Hp), (∀ t ∈ o.looksAt ops, rdT fr' t = rdT σ.fr t) → (∀ n ∈ f.rd, hget hp' n = hget σ.hp n) →
        oneR C ops o { fr := fr', hp := hp', nx := σ.nx } = some (f, { fr := putT fr' o.dst v, hp := acts hp' as, nx := σ'.nx }) := by
  rcases step_shape hC h (by rintro rfl; cases hf) with ⟨hw, hf', hs⟩ | ⟨hw, out, ho, hf', hs⟩
  · subst hs
    refine ⟨.tup [], [], rfl, by simp, Nat.le_refl _, fun fr' hp' h1 _ => ?_⟩
    rw [one_of_skip (by rw [← hw]; exact wanted_of_looks h1), hf']
    rfl
  · have hfz : out.frz = [] := by
      rw [hf'] at hf
      unfold footOf at hf
      split at hf
      · assumption
      · simp only [Foot.here, Bool.not_not, List.isEmpty_iff] at hf
        exact hf
    have hfoot : ∀ (fr' : Fr) (hp' : Hp) (nx' : Nat), (∀ x ∈ o.op.operands.toList, rd fr' x = rd σ.fr x) → footOf { fr := fr', hp := hp', nx := nx' } o.op out = f := by
      intro fr' hp' nx' hrd
      rw [hf']
      unfold footOf
      simp only [hfz, touched_fr hrd, lookedAt_fr hrd]
      cases out.acts with
      | nil => cases out.made with
        | zero => rfl
        | succ m => simp only [holders_nil]
      | cons b r => simp only [holders_nil]
    have hs' : σ' = { fr := putT σ.fr o.dst out.v, hp := acts σ.hp out.acts, nx := σ.nx + out.made } := by
      rw [hs]; simp only [St.after, hfz, frzAll]
    have hrds : ∀ n ∈ lookedAt σ.fr o.op, n ∈ f.rd := by
      intro n hn
      have hn' : n ∈ touched σ.fr o.op := by
        unfold lookedAt at hn
        split at hn
        · cases hn
        · exact hn
      rw [hf']
      unfold footOf
      split
      · exact hn
      · exact List.mem_append_left _ hn'
    refine ⟨out.v, out.acts, by rw [hs'], fun n hn => ?_, by rw [hs']; exact Nat.le_add_right _ _, fun fr' hp' h1 h2 => ?_⟩
    · rw [hf']
      unfold footOf
      split
      · rename_i e1 e2 e3; rw [e2] at hn; cases hn
      · exact List.mem_append_left _ (List.mem_append_left _ hn)
    · have hrd := rd_of_looks h1
      have g1 : outE C o { fr := σ.fr, hp := hp', nx := σ.nx } = some out := by
        by_cases hbl : blind o.op = true
        · rw [outE_blind hbl]; exact ho
        · exact outE_local hC ho fun n hn => h2 n (hrds n (by unfold lookedAt; rw [if_neg hbl]; exact hn))
      have g2 : outE C o { fr := fr', hp := hp', nx := σ.nx } = some out := by
        rw [← g1]
        exact outE_fr (σ := { fr := σ.fr, hp := hp', nx := σ.nx }) hrd
      rw [one_of_wanted (by rw [← hw]; exact wanted_of_looks h1), exec_out hC g2, hfoot fr' hp' σ.nx hrd]
      have : ({ fr := fr', hp := hp', nx := σ.nx } : St).after out o.dst = { fr := putT fr' o.dst out.v, hp := acts hp' out.acts, nx := σ'.nx } := by
        rw [hs']; simp only [St.after, hfz, frzAll]
      rw [this]

theorem acts_same : ∀ (as : List HAct) (hp hp' : Hp), (∀ n, hget hp' n = hget hp n) → ∀ n, hget (acts hp' as) n = hget (acts hp as) n := by
  intro as
  induction as with
  | nil => intro hp hp' h; exact h
  | cons a r ih =>
    intro hp hp' h
    simp only [acts]
    refine ih _ _ fun n => ?_
    cases a with
    | put m b => simp only [act, hget_hput, h n]
    | rem m => simp only [act, hget_hrem, h n]

/-- what a list of acts leaves where it acts, whatever lay there -/
theorem acts_there : ∀ (as : List HAct) (hp hp' : Hp) (n : Nat), n ∈ as.map HAct.name → hget (acts hp' as) n = hget (acts hp as) n := by
  intro as
  induction as with
  | nil => intro hp hp' n h; cases h
  | cons a r ih =>
    intro hp hp' n h
    simp only [acts]
    by_cases hr : n ∈ r.map HAct.name
    · exact ih _ _ n hr
    · have hn : n = a.name := by
        simp only [List.map_cons, List.mem_cons] at h
        exact h.resolve_right hr
      rw [acts_get r _ n hr, acts_get r _ n hr]
      cases a with
      | put m b => have hn : n = m := hn; simp only [act, hget_hput, hn, if_true]
      | rem m => have hn : n = m := hn; simp only [act, hget_hrem, hn, if_true]

theorem acts_comm (as bs : List HAct) (hp : Hp) (h : ∀ n ∈ as.map HAct.name, n ∉ bs.map HAct.name) (n : Nat) : hget (acts (acts hp as) bs) n = hget (acts (acts hp bs) as) n := by
  by_cases ha : n ∈ as.map HAct.name
  · rw [acts_get bs _ n (h n ha)]
    exact acts_there as _ _ n ha
  · rw [acts_get as (acts hp bs) n ha]
    by_cases hb : n ∈ bs.map HAct.name
    · exact acts_there bs _ _ n hb
    · rw [acts_get bs _ n hb, acts_get bs _ n hb, acts_get as _ n ha]

/-- the same frame, the same blocks -/
structure Alike2 (σ σ' : St) : Prop where
  fr : σ'.fr = σ.fr
  hp : ∀ n, hget σ'.hp n = hget σ.hp n

theorem one_same {C : Ctx} (hC : NatCtx C) {ops : Array Oper} {o : Oper} {σ σ1 σ' : St} {f : Foot} {m : Nat} (h : oneR C ops o { σ with nx := m } = some (f, σ1)) (hf : f.here = true) (ha : Alike2 σ σ') :
    ∃ σ1', oneR C ops o { σ' with nx := m } = some (f, σ1') ∧ Alike2 σ1 σ1' ∧ σ1'.nx = σ1.nx := by
  obtain ⟨v, as, h1, h2, _, h3⟩ := step_local hC h hf
  have := h3 σ'.fr σ'.hp (fun t _ => by rw [ha.fr]) (fun n _ => ha.hp n)
  refine ⟨_, this, ⟨?_, ?_⟩, rfl⟩
  · rw [h1, ha.fr]
  · rw [h1]; exact acts_same as _ _ ha.hp

theorem swap2 {C : Ctx} (hC : NatCtx C) {ops : Array Oper} {x y : Oper} {σ σ1 σ2 : St} {fx fy : Foot} {mx my : Nat} (hy : oneR C ops y { σ with nx := my } = some (fy, σ1)) (hx : oneR C ops x { σ1 with nx := mx } = some (fx, σ2)) (hfy : fy.here = true) (hfx : fx.here = true)
    (hap : Oper.apart ops y x = true) (hc : pairs fy fx = true) :
    ∃ σ1' σ2', oneR C ops x { σ with nx := mx } = some (fx, σ1') ∧ oneR C ops y { σ1' with nx := my } = some (fy, σ2') ∧ Alike2 σ2 σ2' ∧ σ1'.nx = σ2.nx ∧ σ2'.nx = σ1.nx := by
  obtain ⟨a1, a2, a3⟩ := Oper.apart_spec hap
  have see : ∀ (fr : Fr) (v : AVal) (t : Nat), t ∈ x.looksAt ops → rdT (putT fr y.dst v) t = rdT fr t := fun fr v t ht => rdT_put fun d hd e => a1 d hd (by rw [← e]; exact ht)
  have see' : ∀ (fr : Fr) (v : AVal) (t : Nat), t ∈ y.looksAt ops → rdT (putT fr x.dst v) t = rdT fr t := fun fr v t ht => rdT_put fun d hd e => a3 d hd (by rw [← e]; exact ht)
  simp only [pairs, Bool.and_eq_true] at hc
  obtain ⟨⟨c1, c2⟩, c3⟩ := hc
  obtain ⟨vy, ay, y1, y2, _, y3⟩ := step_local hC hy hfy
  obtain ⟨vx, ax, x1, x2, _, x3⟩ := step_local hC hx hfx
  have e1 : σ1.fr = putT σ.fr y.dst vy := by rw [y1]
  have e2 : σ1.hp = acts σ.hp ay := by rw [y1]
  have hx1 := x3 σ.fr σ.hp (fun t ht => by show _ = rdT σ1.fr t; rw [e1]; exact (see σ.fr vy t ht).symm) (fun n hn => by
    show _ = hget σ1.hp n
    rw [e2]
    exact (acts_get ay σ.hp n (fun hm => disj_iff.1 c2 n hn (y2 n hm))).symm)
  have hy1 := y3 (putT σ.fr x.dst vx) (acts σ.hp ax) (fun t ht => see' σ.fr vx t ht) (fun n hn => acts_get ax σ.hp n (fun hm => disj_iff.1 c1 n hn (x2 n hm)))
  refine ⟨_, _, hx1, hy1, ⟨?_, fun n => ?_⟩, rfl, rfl⟩
  · show putT (putT σ.fr x.dst vx) y.dst vy = σ2.fr
    rw [x1]
    show _ = putT σ1.fr x.dst vx
    rw [e1]
    exact putT_comm (fun d hd => fun e => a2 d e hd)
  · show hget (acts (acts σ.hp ax) ay) n = hget σ2.hp n
    rw [x1]
    show _ = hget (acts σ1.hp ax) n
    rw [e2]
    exact acts_comm ax ay σ.hp (fun m hm hm' => disj_iff.1 c3 m (y2 m hm') (x2 m hm)) n

end Go.Ab
