/-
  WHAT RUNS, WHATEVER IT IS HANDED ON TO: an abstract run is a partial function, then what follows.
-/
import Derived.Test.YteekijpcdcpjkaaAbStep10
set_option linter.unusedVariables false
set_option linter.unusedSimpArgs false
namespace Go.Ab

def NatI (J : InlSum) : Prop := ∀ {R : Type} (args : List AVal) (hp : Hp) (nx : Nat) (K : AVal → Hp → Nat → R) (s : R), J.run args hp nx K s = bindO (J.run args hp nx (fun v h n => some (v, h, n)) none) (fun x => K x.1 x.2.1 x.2.2) s
def NatR (L : RngSum) : Prop := ∀ {R : Type} (K : Ex → St → R) (s : R) c xs v, L.run K s c xs v = bindO (L.run (fun e σ => some (e, σ)) none c xs v) (fun x => K x.1 x.2) s
def NatL (L : LoopSum) : Prop := ∀ {R : Type} (K : Ex → St → R) (s : R) c v, L.run K s c v = bindO (L.run (fun e σ => some (e, σ)) none c v) (fun x => K x.1 x.2) s

/-- What is asked of the table of functions run in their caller's state: they hand on what they come to. -/
structure NatIn (C : Ctx) : Prop where
  inl : ∀ g d J, C.Ψ g d = some J → NatI J

/-- The same of the loops. -/
structure NatCtx (C : Ctx) : Prop extends NatIn C where
  loop : ∀ id L, C.Λ id = some L → NatL L
  rng : ∀ id L, C.Γ id = some L → NatR L

/-- The same of the loops that stand in a hint. -/
def NatH (C : Ctx) : HT → Prop
  | .node l r => NatH C l ∧ NatH C r
  | .join _ _ h => NatH C h
  | .loop id _ => ∀ L, C.Λ id = some L → NatL L
  | .rng id _ => ∀ L, C.Γ id = some L → NatR L
  | _ => True

theorem NatCtx.hint {C : Ctx} (hC : NatCtx C) : ∀ h : HT, NatH C h := by
  intro h
  induction h with
  | nil => trivial
  | node l r h1 h2 => exact ⟨h1, h2⟩
  | join T k h ih => exact ih
  | loop id h _ => exact hC.loop id
  | rng id h _ => exact hC.rng id
  | test d ms => trivial
  | draw ms => trivial
  | pair ms => trivial

theorem NatH.l {C : Ctx} {h : HT} (hh : NatH C h) : NatH C h.l := by cases h <;> first | trivial | exact hh.1
theorem NatH.r {C : Ctx} {h : HT} (hh : NatH C h) : NatH C h.r := by cases h <;> first | trivial | exact hh.2

theorem bindO_bindO {α β R : Type} (o : Option α) (f : α → Option β) (K : β → R) (s : R) : bindO (bindO o f none) K s = bindO o (fun a => bindO (f a) K s) s := by cases o <;> rfl
theorem bindO_some {α R : Type} (a : α) (K : α → R) (s : R) : bindO (some a) K s = K a := rfl
theorem bindO_none {α R : Type} (K : α → R) (s : R) : bindO none K s = s := rfl
theorem gate_true {R : Type} (a b : R) : gate true a b = a := rfl
theorem gate_false {R : Type} (a b : R) : gate false a b = b := rfl

def execR (C : Ctx) (o : Oper) (σ : St) : Option (Foot × St) := execA C o σ (fun f σ => some (f, σ)) none
def oneR (C : Ctx) (ops : Array Oper) (o : Oper) (σ : St) : Option (Foot × St) := oneA C ops o σ (fun f σ => some (f, σ)) none
def opsR (C : Ctx) (ops : Array Oper) (ms : Option (Bool × List Nat)) (q : Bool) (l : List Oper) (j : Nat) (tr : Tr) (σ : St) : Option St := denOps C ops ms q l j tr σ some none
def codeR (C : Ctx) (c : Code) (h : HT) (σ : St) : Option (Ex × St) := denC C c h σ (fun e σ => some (e, σ)) none

/-- What a call comes to: a value that is handed back, or a state. -/
def callR (C : Ctx) (d : Nat) (σ : St) (f : Cell) (args : List AVal) : Option (Out ⊕ (AVal × Hp × Nat)) :=
  callA C d σ f args (fun out => some (.inl out)) (fun v hp nx => some (.inr (v, hp, nx))) none

theorem callM_nat' {C : Ctx} (hC : NatIn C) {R : Type} (d : Nat) (σ : St) (g : Nat) (caps : List (Nat × Nat)) (args : List AVal) (K : Out → R) (I : AVal → Hp → Nat → R) (s : R) :
    callM C d σ g caps args K I s = bindO (callM C d σ g caps args (fun out => some (Sum.inl (β := AVal × Hp × Nat) out)) (fun v hp nx => some (Sum.inr (v, hp, nx))) none) (fun x => match x with | .inl out => K out | .inr y => I y.1 y.2.1 y.2.2) s := by
  unfold callM
  split
  · split
    · rw [bindO_bindO]
      rfl
    · rfl
  · cases hJ : C.Ψ g d with
    | none => rfl
    | some J =>
      simp only
      rw [hC.inl g d J hJ _ _ _ I s, hC.inl g d J hJ _ _ _ (fun v hp nx => some (Sum.inr (v, hp, nx))) none, bindO_bindO]
      rfl

theorem callA_nat' {C : Ctx} (hC : NatIn C) {R : Type} (d : Nat) (σ : St) (f : Cell) (args : List AVal) (K : Out → R) (I : AVal → Hp → Nat → R) (s : R) :
    callA C d σ f args K I s = bindO (callR C d σ f args) (fun x => match x with | .inl out => K out | .inr y => I y.1 y.2.1 y.2.2) s := by
  unfold callR
  cases f with
  | fn g caps =>
    have inl := callM_nat' hC d σ g caps args K I s
    simp only [callA]
    cases hT : C.Φ g with
    | none => exact inl
    | some T =>
      cases caps with
      | cons c r => exact inl
      | nil =>
        simp only
        split
        · rw [bindO_bindO]
          rfl
        · rfl
  | _ => rfl

theorem execA_nat' {C : Ctx} (hC : NatIn C) {R : Type} (o : Oper) (σ : St) (K : Foot → St → R) (s : R) : execA C o σ K s = bindO (execR C o σ) (fun x => K x.1 x.2) s := by
  unfold execR execA
  split
  · split
    · split <;> rfl
    · rfl
  · rw [callA_nat' hC, callA_nat' hC _ _ _ _ _ _ none, bindO_bindO]
    congr 1
    funext x
    cases x <;> rfl
  · split
    · rename_i out _
      cases out.test <;> rfl
    · rfl

theorem oneA_nat' {C : Ctx} (hC : NatIn C) {R : Type} (ops : Array Oper) (o : Oper) (σ : St) (K : Foot → St → R) (s : R) : oneA C ops o σ K s = bindO (oneR C ops o σ) (fun x => K x.1 x.2) s := by
  unfold oneR oneA
  split
  · exact execA_nat' hC _ _ _ _
  · split
    · split
      · split
        · split
          · exact execA_nat' hC _ _ _ _
          · rfl
        · split
          · rfl
          · exact execA_nat' hC _ _ _ _
      · rfl
      · rfl
    · rfl

theorem denOps_nat' {C : Ctx} (hC : NatIn C) (ops : Array Oper) (ms : Option (Bool × List Nat)) (q : Bool) : ∀ (l : List Oper) {R : Type} (j : Nat) (tr : Tr) (σ : St) (K : St → R) (s : R),
    denOps C ops ms q l j tr σ K s = bindO (opsR C ops ms q l j tr σ) K s := by
  intro l
  induction l with
  | nil => intro R j tr σ K s; rfl
  | cons o r ih =>
    intro R j tr σ K s
    unfold opsR
    simp only [denOps]
    rw [oneA_nat' hC, oneA_nat' hC (R := Option St), bindO_bindO]
    congr 1
    funext x
    cases hq : (!q || x.1.isStill) with
    | false => rfl
    | true =>
      simp only [gate_true]
      cases ms with
      | none =>
        simp only
        rw [ih, ih (R := Option St)]
        rw [bindO_bindO]
        rfl
      | some m =>
        simp only
        cases fitsTr m.1 ops (m.2.getD j 0) o x.1 tr with
        | false => rfl
        | true =>
          simp only [gate_true]
          rw [ih, ih (R := Option St)]
          rw [bindO_bindO]
          rfl

theorem joinK_nat {R : Type} (T : Tmpl) (ok : Bool) (base : Fr) (o : Option T.ty.den) (K : Ex → St → R) (s : R) :
    joinK T ok base o K s = bindO (joinK T ok base o (fun e σ => some (e, σ)) none) (fun x => K x.1 x.2) s := by
  unfold joinK
  cases ok with
  | false => rfl
  | true => cases o <;> rfl

theorem denC_natH {C : Ctx} (hC : NatIn C) : ∀ (c : Code) (h : HT), NatH C h → ∀ {R : Type} (σ : St) (K : Ex → St → R) (s : R), denC C c h σ K s = bindO (codeR C c h σ) (fun x => K x.1 x.2) s := by
  intro c
  induction c with
  | skip => intro h hh R σ K s; rfl
  | region id ops draw =>
    intro h hh R σ K s
    unfold codeR
    have plain : ∀ od q, denOps C ops od q ops.toList 0 [] σ (K .normal) s = bindO (denOps C ops od q ops.toList 0 [] σ (fun σ => some (Ex.normal, σ)) none) (fun x => K x.1 x.2) s := by
      intro od q
      rw [denOps_nat' hC, denOps_nat' hC (R := Option (Ex × St)), bindO_bindO]
      rfl
    cases h with
    | test d ms =>
      simp only [denC]
      cases orderOf draw ops false ms with
      | none => rfl
      | some od =>
        simp only
        rw [bindO_bindO]
        rfl
    | draw ms =>
      simp only [denC]
      cases orderOf draw ops false ms with
      | none => rfl
      | some od => exact plain od false
    | pair ms =>
      simp only [denC]
      cases orderOf draw ops true ms with
      | none => rfl
      | some od => exact plain od false
    | nil => cases draw with | true => rfl | false => simp only [denC]; exact plain none false
    | node l r => cases draw with | true => rfl | false => simp only [denC]; exact plain none false
    | join T keep h => cases draw with | true => rfl | false => simp only [denC]; exact plain none false
    | loop id h => cases draw with | true => rfl | false => simp only [denC]; exact plain none false
    | rng id h => cases draw with | true => rfl | false => simp only [denC]; exact plain none false
  | seq a b iha ihb =>
    intro h hh R σ K s
    have plain : ∀ (ha hb : HT), NatH C ha → NatH C hb → denC C a ha σ (fun e σ' => match e with | .normal => denC C b hb σ' K s | .exit n => K (.exit n) σ' | .ret => K .ret σ') s =
        bindO (denC C a ha σ (fun e σ' => match e with | .normal => denC C b hb σ' (fun e σ => some (e, σ)) none | .exit n => some (.exit n, σ') | .ret => some (.ret, σ')) none) (fun x => K x.1 x.2) s := by
      intro ha hb na nb
      rw [iha ha na, iha ha na (R := Option (Ex × St)), bindO_bindO]
      congr 1
      funext x
      obtain ⟨e, σ'⟩ := x
      cases e with
      | normal => simp only; rw [ihb hb nb]; rfl
      | _ => rfl
    unfold codeR
    cases h with
    | join T keep h => simp only [denC]; exact joinK_nat _ _ _ _ _ _
    | nil => simp only [denC]; exact plain _ _ hh.l hh.r
    | node l r => simp only [denC]; exact plain _ _ hh.l hh.r
    | loop id h => simp only [denC]; exact plain _ _ hh.l hh.r
    | rng id h => simp only [denC]; exact plain _ _ hh.l hh.r
    | test d ms => simp only [denC]; exact plain _ _ hh.l hh.r
    | draw ms => simp only [denC]; exact plain _ _ hh.l hh.r
    | pair ms => simp only [denC]; exact plain _ _ hh.l hh.r
  | cond c a b iha ihb =>
    intro h hh R σ K s
    unfold codeR
    have plain : ∀ (ha hb : HT), NatH C ha → NatH C hb → (match rdC σ.fr c with | .val .bool t => if t = true then denC C a ha σ K s else denC C b hb σ K s | _ => s) =
        bindO (match rdC σ.fr c with | .val .bool t => if t = true then denC C a ha σ (fun e σ => some (e, σ)) none else denC C b hb σ (fun e σ => some (e, σ)) none | _ => none) (fun x => K x.1 x.2) s := by
      intro ha hb na nb
      split
      · split
        · exact iha ha na _ _ _
        · exact ihb hb nb _ _ _
      · rfl
    cases h with
    | join T keep h =>
      simp only [denC]
      split
      · exact joinK_nat _ _ _ _ _ _
      · rfl
    | nil => simp only [denC]; exact plain _ _ hh.l hh.r
    | node l r => simp only [denC]; exact plain _ _ hh.l hh.r
    | loop id h => simp only [denC]; exact plain _ _ hh.l hh.r
    | rng id h => simp only [denC]; exact plain _ _ hh.l hh.r
    | test d ms => simp only [denC]; exact plain _ _ hh.l hh.r
    | draw ms => simp only [denC]; exact plain _ _ hh.l hh.r
    | pair ms => simp only [denC]; exact plain _ _ hh.l hh.r
  | block id a iha =>
    intro h hh R σ K s
    unfold codeR
    have plain : ∀ (ha : HT), NatH C ha → denC C a ha σ (fun e σ' => match e with | .normal => K .normal σ' | .exit n => if n = id then K .normal σ' else K (.exit n) σ' | .ret => K .ret σ') s =
        bindO (denC C a ha σ (fun e σ' => match e with | .normal => some (.normal, σ') | .exit n => if n = id then some (.normal, σ') else some (.exit n, σ') | .ret => some (.ret, σ')) none) (fun x => K x.1 x.2) s := by
      intro ha na
      rw [iha ha na, iha ha na (R := Option (Ex × St)), bindO_bindO]
      congr 1
      funext x
      obtain ⟨e, σ'⟩ := x
      cases e with
      | exit n => simp only; split <;> rfl
      | _ => rfl
    cases h with
    | join T keep h => simp only [denC]; exact joinK_nat _ _ _ _ _ _
    | nil => simp only [denC]; exact plain _ hh.l
    | node l r => simp only [denC]; exact plain _ hh.l
    | loop id h => simp only [denC]; exact plain _ hh.l
    | rng id h => simp only [denC]; exact plain _ hh.l
    | test d ms => simp only [denC]; exact plain _ hh.l
    | draw ms => simp only [denC]; exact plain _ hh.l
    | pair ms => simp only [denC]; exact plain _ hh.l
  | loop b ihb =>
    intro h hh R σ K s
    unfold codeR
    cases h with
    | loop id hb =>
      simp only [denC]
      cases hL : C.Λ id with
      | none => rfl
      | some L =>
        simp only
        split
        · split
          · rfl
          · exact hh L hL K s _ _
        · rfl
    | _ => rfl
  | rangeFunc g ps a b _ _ =>
    intro h hh R σ K s
    unfold codeR
    cases h with
    | rng id hb =>
      simp only [denC]
      split
      · rename_i L f caps hL hf
        cases L.get (hget σ.hp) f caps with
        | none => rfl
        | some xs =>
          simp only [bindO_some]
          split
          · split
            · rfl
            · exact hh L hL K s _ _ _
          · rfl
      · rfl
    | _ => rfl
  | exit n => intro h hh R σ K s; cases h <;> rfl
  | ret => intro h hh R σ K s; cases h <;> rfl
  | _ => intro h hh R σ K s; cases h <;> rfl

theorem callA_nat {C : Ctx} (hC : NatCtx C) {R : Type} (d : Nat) (σ : St) (f : Cell) (args : List AVal) (K : Out → R) (I : AVal → Hp → Nat → R) (s : R) :
    callA C d σ f args K I s = bindO (callR C d σ f args) (fun x => match x with | .inl out => K out | .inr y => I y.1 y.2.1 y.2.2) s := callA_nat' hC.toNatIn d σ f args K I s
theorem execA_nat {C : Ctx} (hC : NatCtx C) {R : Type} (o : Oper) (σ : St) (K : Foot → St → R) (s : R) : execA C o σ K s = bindO (execR C o σ) (fun x => K x.1 x.2) s := execA_nat' hC.toNatIn o σ K s
theorem oneA_nat {C : Ctx} (hC : NatCtx C) {R : Type} (ops : Array Oper) (o : Oper) (σ : St) (K : Foot → St → R) (s : R) : oneA C ops o σ K s = bindO (oneR C ops o σ) (fun x => K x.1 x.2) s := oneA_nat' hC.toNatIn ops o σ K s
theorem denOps_nat {C : Ctx} (hC : NatCtx C) (ops : Array Oper) (ms : Option (Bool × List Nat)) (q : Bool) (l : List Oper) {R : Type} (j : Nat) (tr : Tr) (σ : St) (K : St → R) (s : R) :
    denOps C ops ms q l j tr σ K s = bindO (opsR C ops ms q l j tr σ) K s := denOps_nat' hC.toNatIn ops ms q l j tr σ K s
theorem denC_nat {C : Ctx} (hC : NatCtx C) (c : Code) (h : HT) {R : Type} (σ : St) (K : Ex → St → R) (s : R) : denC C c h σ K s = bindO (codeR C c h σ) (fun x => K x.1 x.2) s := denC_natH hC.toNatIn c h (hC.hint h) σ K s

/-! ### loops -/
theorem roundK_nat {R : Type} {lo : Nat} {T : Tmpl} {exits : List (Nat × Tmpl)} {rets : Option Tmpl} {base : Fr} (K : Ex → St → R) (s : R) (again : T.ty.den → R) (again' : T.ty.den → Option (Ex × St)) (ha : ∀ v, again v = bindO (again' v) (fun x => K x.1 x.2) s) (e : Ex) (σ : St) :
    roundK lo T exits rets K s base again e σ = bindO (roundK lo T exits rets (fun e σ => some (e, σ)) none base again' e σ) (fun x => K x.1 x.2) s := by
  unfold roundK
  cases e with
  | normal =>
    simp only
    cases T.pack lo σ with
    | none => rfl
    | some v => exact ha v
  | exit n =>
    simp only
    cases findT exits n with
    | none => rfl
    | some Tx => simp only; cases Tx.pack lo σ <;> rfl
  | ret =>
    simp only
    cases rets with
    | none => rfl
    | some Tx => simp only; cases Tx.pack lo σ <;> rfl

theorem loopC_nat {C : Ctx} (hC : NatIn C) {b : Code} {h : HT} (hh : NatH C h) {T : Tmpl} {exits : List (Nat × Tmpl)} {rets : Option Tmpl} {base : Fr} {R : Type} (K : Ex → St → R) (s : R) : ∀ (n : Nat) (v : T.ty.den),
    loopC C b h T exits rets K s base n v = bindO (loopC C b h T exits rets (fun e σ => some (e, σ)) none base n v) (fun x => K x.1 x.2) s := by
  intro n
  induction n with
  | zero => intro v; rfl
  | succ n ih =>
    intro v
    show roundC C b h T exits rets K s base (loopC C b h T exits rets K s base n) v = bindO (roundC C b h T exits rets (fun e σ => some (e, σ)) none base (loopC C b h T exits rets (fun e σ => some (e, σ)) none base n) v) (fun x => K x.1 x.2) s
    unfold roundC
    rw [denC_natH hC b h hh, denC_natH hC b h hh (R := Option (Ex × St)), bindO_bindO]
    congr 1
    funext x
    exact roundK_nat K s _ _ ih x.1 x.2

theorem rngC_nat {C : Ctx} (hC : NatIn C) {a b : Code} {h : HT} (ha : NatH C h.l) (hb : NatH C h.r) {ps : List Tmp} {L : RngSum} {base : Fr} {R : Type} (K : Ex → St → R) (s : R) : ∀ (xs : List L.te.den) (v : L.T.ty.den),
    rngC C a b h ps L K s base xs v = bindO (rngC C a b h ps L (fun e σ => some (e, σ)) none base xs v) (fun x => K x.1 x.2) s := by
  intro xs
  induction xs with
  | nil => intro v; rfl
  | cons x xs ih =>
    intro v
    show roundR C a b h ps L K s base x (rngC C a b h ps L K s base xs) v = bindO (roundR C a b h ps L (fun e σ => some (e, σ)) none base x (rngC C a b h ps L (fun e σ => some (e, σ)) none base xs) v) (fun x => K x.1 x.2) s
    unfold roundR
    rw [denC_natH hC a h.l ha, denC_natH hC a h.l ha (R := Option (Ex × St)), bindO_bindO]
    congr 1
    funext y
    obtain ⟨e, σ⟩ := y
    cases e with
    | normal =>
      simp only
      rw [denC_natH hC b h.r hb, denC_natH hC b h.r hb (R := Option (Ex × St)), bindO_bindO]
      congr 1
      funext z
      exact roundK_nat K s _ _ ih z.1 z.2
    | _ => rfl

/-- A range over a function whose run is rngC's. -/
def RngIs (C : Ctx) (id : Nat) (a b : Code) (h : HT) (ps : List Tmp) : Prop :=
  ∀ L, C.Γ id = some L → ∀ {R : Type} (K : Ex → St → R) (s : R) (c : L.keep.ty.den) (xs : List L.te.den) (v : L.T.ty.den), L.run K s c xs v = rngC C a b h ps L K s (L.keep.base c) xs v

theorem RngIs.nat {C : Ctx} (hC : NatIn C) {id : Nat} {a b : Code} {h : HT} {ps : List Tmp} (ha : NatH C h.l) (hb : NatH C h.r) (hL : RngIs C id a b h ps) : ∀ L, C.Γ id = some L → NatR L := by
  intro L h1 R K s c xs v
  rw [hL L h1 K s c xs v, hL L h1 (fun e σ => some (e, σ)) none c xs v]
  exact rngC_nat hC ha hb K s xs v

theorem rngIs_of {C : Ctx} {id : Nat} {a b : Code} {h : HT} {ps : List Tmp} (L : RngSum) (hL : C.Γ id = some L) (F : {R : Type} → (Ex → St → R) → R → L.keep.ty.den → L.te.den → (L.T.ty.den → R) → L.T.ty.den → R)
    (hrun : ∀ {R : Type} (K : Ex → St → R) (s : R) (c : L.keep.ty.den) (xs : List L.te.den) (v : L.T.ty.den), L.run K s c xs v = foldR (F K s c) (fun v => K .normal (L.T.unpack (L.keep.base c) v)) xs v)
    (hstep : ∀ {R : Type} (K : Ex → St → R) (s : R) (c : L.keep.ty.den) (x : L.te.den) (again : L.T.ty.den → R) (v : L.T.ty.den), roundR C a b h ps L K s (L.keep.base c) x again v = F K s c x again v) : RngIs C id a b h ps := by
  intro L' h1
  rw [hL] at h1
  have h1 : L = L' := Option.some.inj h1
  subst h1
  intro R K s c xs v
  rw [hrun]
  unfold rngC
  have : F K s c = fun x again v => roundR C a b h ps L K s (L.keep.base c) x again v := by
    funext x again v
    exact (hstep K s c x again v).symm
  rw [this]

/-- A loop whose run is loopC's. -/
def LoopIs (C : Ctx) (id : Nat) (b : Code) (h : HT) (n : Nat) : Prop :=
  ∀ L, C.Λ id = some L → ∀ {R : Type} (K : Ex → St → R) (s : R) (c : L.keep.ty.den) (v : L.T.ty.den), L.run K s c v = loopC C b h L.T L.exits L.rets K s (L.keep.base c) n v

theorem LoopIs.nat {C : Ctx} (hC : NatIn C) {id : Nat} {b : Code} {h : HT} {n : Nat} (hh : NatH C h) (hL : LoopIs C id b h n) : ∀ L, C.Λ id = some L → NatL L := by
  intro L h1 R K s c v
  rw [hL L h1 K s c v, hL L h1 (fun e σ => some (e, σ)) none c v]
  exact loopC_nat hC hh K s n v

/-- A loop's theorem from that of its round. -/
theorem loopIs_of {C : Ctx} {id : Nat} {b : Code} {h : HT} {n : Nat} (L : LoopSum) (hL : C.Λ id = some L) (F : {R : Type} → (Ex → St → R) → R → L.keep.ty.den → (L.T.ty.den → R) → L.T.ty.den → R)
    (hrun : ∀ {R : Type} (K : Ex → St → R) (s : R) (c : L.keep.ty.den) (v : L.T.ty.den), L.run K s c v = iter (F K s c) s n v)
    (hstep : ∀ {R : Type} (K : Ex → St → R) (s : R) (c : L.keep.ty.den) (again : L.T.ty.den → R) (v : L.T.ty.den), roundC C b h L.T L.exits L.rets K s (L.keep.base c) again v = F K s c again v) : LoopIs C id b h n := by
  intro L' h1
  rw [hL] at h1
  have h1 : L = L' := Option.some.inj h1
  subst h1
  intro R K s c v
  rw [hrun]
  unfold loopC
  have : F K s c = roundC C b h L.T L.exits L.rets K s (L.keep.base c) := by
    funext again v
    exact (hstep K s c again v).symm
  rw [this]

/-- A function that is run in place hands on what it comes to. -/
theorem inl_nat {C : Ctx} (hC : NatIn C) {fn : Func} {h : HT} (hh : NatH C h) : NatI (inl C fn h) := by
  intro R args hp nx K s
  unfold inl
  simp only
  cases fn.body with
  | none => rfl
  | some c =>
    simp only
    cases decide (nx ≤ C.lo) with
    | false => rfl
    | true =>
      simp only [gate_true]
      rw [denC_natH hC c h hh, denC_natH hC c h hh (R := Option (AVal × Hp × Nat)), bindO_bindO]
      congr 1
      funext x
      obtain ⟨e, σ⟩ := x
      cases e with
      | exit n => rfl
      | normal => simp only; cases resCells σ.hp σ.fr C.E fn.results.toList <;> rfl
      | ret => simp only; cases resCells σ.hp σ.fr C.E fn.results.toList <;> rfl

end Go.Ab
