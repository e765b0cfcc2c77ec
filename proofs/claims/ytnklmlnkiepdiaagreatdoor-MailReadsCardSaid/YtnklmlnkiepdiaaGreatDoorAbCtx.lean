/-
  CONTEXTS THAT ARE PRINTED: tables as lists, and what is asked of them entry by entry.
-/
import Derived.Test.YtnklmlnkiepdiaaGreatDoorAbFun
set_option linter.unusedVariables false
set_option linter.unusedSectionVars false
namespace Go.Ab
variable [Tabs]
open Go.RowKit (Below)

def lookT : List (TypeId × Ty) → TypeId → Option Ty
  | [], _ => none
  | (a, T) :: r, g => if a = g then some T else lookT r g
def lookF : List (Nat × TFun) → Nat → Option TFun
  | [], _ => none
  | (a, T) :: r, g => if a = g then some T else lookF r g
def lookM : List (Nat × MFun) → Nat → Option MFun
  | [], _ => none
  | (a, T) :: r, g => if a = g then some T else lookM r g
def lookI : List (Nat × Nat × InlSum) → Nat → Nat → Option InlSum
  | [], _, _ => none
  | (a, b, J) :: r, g, d => if a = g ∧ b = d then some J else lookI r g d
def lookR : List (Nat × RngSum) → Nat → Option RngSum
  | [], _ => none
  | (a, L) :: r, i => if a = i then some L else lookR r i
def lookL : List (Nat × LoopSum) → Nat → Option LoopSum
  | [], _ => none
  | (a, L) :: r, i => if a = i then some L else lookL r i

def mkEnv (P : Program) (g : List (TypeId × Ty)) : Env := { P, ty := lookT g }
def mkCtx (E : Env) (lo : Nat) (fs : List (Nat × TFun)) (is : List (Nat × Nat × InlSum)) (ls : List (Nat × LoopSum)) (rs : List (Nat × RngSum)) (ms : List (Nat × MFun) := []) (qs : List (Nat × TFun) := []) : Ctx := { E, Φ := lookF fs, Ψ := lookI is, Λ := lookL ls, Γ := lookR rs, M := lookM ms, lo, Q := lookF qs }

/-! ### types -/
def TyOK (P : Program) (t : TypeId) (ty : Ty) : Prop :=
  (P.info? t).map (fun i => (i.zero.map fun z => z.cells.toList, i.size)) = some (some (zeroVals ty), ty.size) ∧ ty.isAgg = aggT P t ∧ tagOf ty t = t
def AllT (P : Program) : List (TypeId × Ty) → Prop
  | [] => True
  | p :: r => TyOK P p.1 p.2 ∧ AllT P r

theorem TyOK.env {P : Program} {t : TypeId} {ty : Ty} (h : TyOK P t ty) : ∃ i z, P.info? t = some i ∧ i.zero = some z ∧ z.cells.toList = zeroVals ty ∧ ty.size = i.size ∧ ty.isAgg = aggT P t ∧ tagOf ty t = t := by
  obtain ⟨h1, h2⟩ := h
  cases hi : P.info? t with
  | none => rw [hi] at h1; cases h1
  | some i =>
    rw [hi] at h1
    simp only [Option.map_some, Option.some.injEq, Prod.mk.injEq] at h1
    obtain ⟨h3, h4⟩ := h1
    cases hz : i.zero with
    | none => rw [hz] at h3; cases h3
    | some z =>
      rw [hz] at h3
      simp only [Option.map_some, Option.some.injEq] at h3
      exact ⟨i, z, rfl, hz, h3, h4.symm, h2⟩

theorem lookT_ok {P : Program} : ∀ {l : List (TypeId × Ty)}, AllT P l → ∀ t ty, lookT l t = some ty → TyOK P t ty
  | [], _, t, ty, h => by cases h
  | (a, T) :: r, h, t, ty, e => by
    simp only [lookT] at e
    split at e
    · rename_i ha; subst ha; cases e; exact h.1
    · exact lookT_ok h.2 t ty e

theorem mkEnv_ok {P : Program} {g : List (TypeId × Ty)} (h : AllT P g) : EnvOK (mkEnv P g) := fun t ty e => (lookT_ok h t ty e).env

/-! ### functions -/
def AllF (P : Program) : List (Nat × TFun) → Prop
  | [] => True
  | p :: r => Sound P p.1 p.2 ∧ AllF P r
def AllI (P : Program) : List (Nat × Nat × InlSum) → Prop
  | [] => True
  | p :: r => SoundIn P p.1 p.2.2 ∧ AllI P r
def NatIs : List (Nat × Nat × InlSum) → Prop
  | [] => True
  | p :: r => NatI p.2.2 ∧ NatIs r
def NatRs : List (Nat × RngSum) → Prop
  | [] => True
  | p :: r => NatR p.2 ∧ NatRs r
def NatLs : List (Nat × LoopSum) → Prop
  | [] => True
  | p :: r => NatL p.2 ∧ NatLs r

theorem lookF_ok {P : Program} : ∀ {l : List (Nat × TFun)}, AllF P l → ∀ g T, lookF l g = some T → Sound P g T
  | [], _, g, T, h => by cases h
  | (a, U) :: r, h, g, T, e => by
    simp only [lookF] at e
    split at e
    · rename_i ha; subst ha; cases e; exact h.1
    · exact lookF_ok h.2 g T e
def AllM (P : Program) : List (Nat × MFun) → Prop
  | [] => True
  | p :: r => SoundM P p.1 p.2 ∧ AllM P r
theorem lookM_ok {P : Program} : ∀ {l : List (Nat × MFun)}, AllM P l → ∀ g T, lookM l g = some T → SoundM P g T
  | [], _, g, T, h => by cases h
  | (a, U) :: r, h, g, T, e => by
    simp only [lookM] at e
    split at e
    · rename_i ha; subst ha; cases e; exact h.1
    · exact lookM_ok h.2 g T e
theorem lookI_ok {P : Program} : ∀ {l : List (Nat × Nat × InlSum)}, AllI P l → ∀ g d J, lookI l g d = some J → SoundIn P g J
  | [], _, g, d, J, h => by cases h
  | (a, b, U) :: r, h, g, d, J, e => by
    simp only [lookI] at e
    split at e
    · rename_i ha; obtain ⟨ha, _⟩ := ha; subst ha; cases e; exact h.1
    · exact lookI_ok h.2 g d J e
theorem lookI_nat : ∀ {l : List (Nat × Nat × InlSum)}, NatIs l → ∀ g d J, lookI l g d = some J → NatI J
  | [], _, g, d, J, h => by cases h
  | (a, b, U) :: r, h, g, d, J, e => by
    simp only [lookI] at e
    split at e
    · cases e; exact h.1
    · exact lookI_nat h.2 g d J e
theorem lookL_nat : ∀ {l : List (Nat × LoopSum)}, NatLs l → ∀ i L, lookL l i = some L → NatL L
  | [], _, i, L, h => by cases h
  | (a, U) :: r, h, i, L, e => by
    simp only [lookL] at e
    split at e
    · cases e; exact h.1
    · exact lookL_nat h.2 i L e

theorem lookR_nat : ∀ {l : List (Nat × RngSum)}, NatRs l → ∀ i L, lookR l i = some L → NatR L
  | [], _, i, L, h => by cases h
  | (a, U) :: r, h, i, L, e => by
    simp only [lookR] at e
    split at e
    · cases e; exact h.1
    · exact lookR_nat h.2 i L e

def AllQ (P : Program) : List (Nat × TFun) → Prop
  | [] => True
  | p :: r => SoundQ P p.1 p.2 ∧ AllQ P r
theorem lookQ_ok {P : Program} : ∀ {l : List (Nat × TFun)}, AllQ P l → ∀ g T, lookF l g = some T → SoundQ P g T
  | [], _, g, T, h => by cases h
  | (a, U) :: r, h, g, T, e => by
    simp only [lookF] at e
    split at e
    · rename_i ha; subst ha; cases e; exact h.1
    · exact lookQ_ok h.2 g T e

theorem mkCtx_nat {E : Env} {lo : Nat} {fs : List (Nat × TFun)} {is : List (Nat × Nat × InlSum)} {ls : List (Nat × LoopSum)} {rs : List (Nat × RngSum)} {ms : List (Nat × MFun)} {qs : List (Nat × TFun)} (h : NatIs is) : NatIn (mkCtx E lo fs is ls rs ms qs) := ⟨fun g d J e => lookI_nat h g d J e⟩
theorem mkCtx_ok {E : Env} {lo : Nat} {fs : List (Nat × TFun)} {is : List (Nat × Nat × InlSum)} {ls : List (Nat × LoopSum)} {rs : List (Nat × RngSum)} {ms : List (Nat × MFun)} {qs : List (Nat × TFun)} (hE : EnvOK E) (hf : AllF E.P fs) (hi : AllI E.P is) (hn : NatIs is) (hl : NatLs ls) (hr : NatRs rs) (hm : AllM E.P ms) (hq : AllQ E.P qs) : CtxOK (mkCtx E lo fs is ls rs ms qs) where
  env := hE
  nat := { inl := fun g d J e => lookI_nat hn g d J e, loop := fun i L e => lookL_nat hl i L e, rng := fun i L e => lookR_nat hr i L e }
  fns := fun g T e => lookF_ok hf g T e
  inl := fun g d J e => lookI_ok hi g d J e
  meth := fun g T e => lookM_ok hm g T e
  keep := fun g T e => lookQ_ok hq g T e

/-! ### loops -/
/-- the loops of a hint, with what stands in them -/
inductive LoopAt where
  | loop (id : Nat) (b : Code) (h : HT)
  | rng (id : Nat) (ps : List Tmp) (a b : Code) (h : HT)
def loopsOf : Code → HT → List LoopAt
  | .seq a b, h => loopsOf a h.inner.l ++ loopsOf b h.inner.r
  | .cond _ a b, h => loopsOf a h.inner.l ++ loopsOf b h.inner.r
  | .block _ a, h => loopsOf a h.inner.l
  | .loop b, .loop id h => .loop id b h :: loopsOf b h
  | .rangeFunc _ ps a b, .rng id h => .rng id ps.toList a b h :: (loopsOf a h.l ++ loopsOf b h.r)
  | _, _ => []
def LoopAt.OK (C : Ctx) : LoopAt → Prop
  | .loop id b h => LoopOK C id b h
  | .rng id ps a b h => RngOK C id ps.toArray a b h

theorem loopsOK_of {C : Ctx} : ∀ (c : Code) (h : HT), (∀ x ∈ loopsOf c h, x.OK C) → LoopsOK C c h := by
  intro c
  induction c with
  | seq a b iha ihb => intro h hx; exact ⟨iha _ fun x hm => hx x (List.mem_append.2 (.inl hm)), ihb _ fun x hm => hx x (List.mem_append.2 (.inr hm))⟩
  | cond c a b iha ihb => intro h hx; exact ⟨iha _ fun x hm => hx x (List.mem_append.2 (.inl hm)), ihb _ fun x hm => hx x (List.mem_append.2 (.inr hm))⟩
  | block id a iha => intro h hx; exact iha _ hx
  | loop b ihb =>
    intro h hx
    cases h with
    | loop id h => exact ⟨hx _ (List.mem_cons_self ..), ihb _ fun x hm => hx x (List.mem_cons_of_mem _ hm)⟩
    | _ => trivial
  | rangeFunc g ps a b iha ihb =>
    intro h hx
    cases h with
    | rng id h => exact ⟨hx (.rng id ps.toList a b h) (List.mem_cons_self ..), iha _ fun x hm => hx x (List.mem_cons_of_mem _ (List.mem_append.2 (.inl hm))), ihb _ fun x hm => hx x (List.mem_cons_of_mem _ (List.mem_append.2 (.inr hm)))⟩
    | _ => trivial
  | _ => intro h _; trivial

def AllL (C : Ctx) : List LoopAt → Prop
  | [] => True
  | x :: r => x.OK C ∧ AllL C r
theorem allL_mem {C : Ctx} : ∀ {l : List LoopAt}, AllL C l → ∀ x ∈ l, x.OK C
  | [], _, x, h => by cases h
  | y :: r, h, x, hm => by
    rcases List.mem_cons.1 hm with hm | hm
    · subst hm; exact h.1
    · exact allL_mem h.2 x hm
theorem loopsOK_list {C : Ctx} {c : Code} {h : HT} {l : List LoopAt} (e : loopsOf c h = l) (hl : AllL C l) : LoopsOK C c h := loopsOK_of c h (by rw [e]; exact allL_mem hl)
theorem RngIs.ok {C : Ctx} {id : Nat} {a b : Code} {h : HT} {ps : List Tmp} {L : RngSum} (hL : RngIs C id a b h ps) (e : C.Γ id = some L) (hG : GetOKW C.E.P L.te L.parts L.get) (hp : L.parts.length = ps.length) (ha : noRange a = true) (hb : noRange b = true) : (LoopAt.rng id ps a b h).OK C := by
  intro L' e'
  rw [e] at e'
  cases e'
  exact ⟨fun c xs v => hL L e _ _ c xs v, hG, by simpa using hp, ha, hb⟩
theorem nat_of_rng {C : Ctx} {id : Nat} {a b : Code} {h : HT} {ps : List Tmp} (hL : RngIs C id a b h ps) (hC : NatIn C) (ha : NatH C h.l) (hb : NatH C h.r) : ∀ L, C.Γ id = some L → NatR L := hL.nat hC ha hb
theorem natR_of {C : Ctx} {id : Nat} {L : RngSum} (h : C.Γ id = some L) (hn : ∀ M, C.Γ id = some M → NatR M) : NatR L := hn L h
theorem LoopIs.ok {C : Ctx} {id : Nat} {b : Code} {h : HT} {n : Nat} (hL : LoopIs C id b h n) : (LoopAt.loop id b h).OK C := fun L e c v => ⟨n, hL L e _ _ c v⟩

theorem nat_of_is {C : Ctx} {id : Nat} {b : Code} {h : HT} {n : Nat} (hL : LoopIs C id b h n) (hC : NatIn C) (hh : NatH C h) : ∀ L, C.Λ id = some L → NatL L := hL.nat hC hh

/-- the loop at the head of a table -/
theorem natL_of {C : Ctx} {id : Nat} {L : LoopSum} (h : C.Λ id = some L) (hn : ∀ M, C.Λ id = some M → NatL M) : NatL L := hn L h

def codeOf (f : Func) : Code := f.body.getD .skip
theorem codeOf_body {f : Func} (h : f.body.isSome = true) : f.body = some (codeOf f) := by
  unfold codeOf
  cases hb : f.body with
  | none => rw [hb] at h; cases h
  | some c => rfl

/-- A function of pure data, out of its printed form. -/
theorem sound_of {C : Ctx} (hC : CtxOK C) (hmix : C.E.P.follows .mixedOrders = true) {g : FuncId} {fn : Func} {h : HT} {T : TFun} (hg : C.E.P.funcs[g]? = some fn) (hn : (fn.name == "runtime.NumGoroutine") = false) (hb : fn.body.isSome = true) (hL : LoopsOK C (codeOf fn) h)
    (hT : ∀ a, denFun C fn h T a = T.f a) : Sound C.E.P g T := denFun_sound hC hmix hg hn (codeOf_body hb) hL fun a => (hT a).symm

/-- A function of one slice that asks whether it is nil, out of its printed form. -/
theorem soundQ_of {C : Ctx} (hC : CtxOK C) (hmix : C.E.P.follows .mixedOrders = true) {g : FuncId} {fn : Func} {h : HT} {e : Ty} {res : Ty} {parts : List (Bool × Nat)} {own : List Nat} {f : List e.den → Option res.den} (hg : C.E.P.funcs[g]? = some fn) (hn : (fn.name == "runtime.NumGoroutine") = false) (hb : fn.body.isSome = true) (hL : LoopsOK C (codeOf fn) h)
    (hF : ∀ a, denArgs C fn h ⟨.slice e, res, [(false, 1)], parts, own, f⟩ [.one (.nq false e a)] = f a) (hN : denArgs C fn h ⟨.slice e, res, [(false, 1)], parts, own, f⟩ [.one (.nq true e [])] = f []) : Sound C.E.P g ⟨.slice e, res, [(false, 1)], parts, own, f⟩ :=
  denNil_sound hC hmix hg hn (codeOf_body hb) hL hF hN

/-! ### a function run in its caller's state that may only look at the slices that it is handed -/
/-- what is the caller's own among the arguments is frozen first -/
def frozenJ (J : InlSum) : InlSum where
  run := fun {R} args hp nx K s => J.run (frzAll args hp (owns (args.flatMap cellsOf))).1 (frzAll args hp (owns (args.flatMap cellsOf))).2 nx K s

theorem frozenJ_nat {J : InlSum} (h : NatI J) : NatI (frozenJ J) := fun args hp nx K s => h _ _ _ K s

theorem frel_arels {k : Kx} : ∀ (as : List AVal) (vs : List Value), as.length = vs.length → (∀ i, ARel k (rdT as i) (vs.getD i undef)) → ARels k as vs := by
  intro as
  induction as with
  | nil => intro vs hl _; exact List.eq_nil_of_length_eq_zero hl.symm
  | cons a as ih =>
    intro vs hl h
    cases vs with
    | nil => simp at hl
    | cons v r => exact ⟨v, r, rfl, h 0, ih r (by simpa using hl) fun i => h (i + 1)⟩

theorem frozenJ_sound {P : Program} {g : FuncId} {J : InlSum} (h : SoundIn P g J) : SoundIn P g (frozenJ J) where
  enters := h.enters
  calls := by
    intro N k as vs v hp' nx' hk hN hr hu hj
    have hF : FRel k as vs := by
      refine ⟨by simpa using hr.len, fun i => ?_⟩
      have := hr.get i
      simpa [rdT, Array.getD_eq_getD_getElem?, List.getD_eq_getElem?_getD] using this
    obtain ⟨q1, q2, q3, q4, q5, q6⟩ := frzAll_rel (owns (as.flatMap cellsOf)) k as vs hk hF
    have hU := frzKs_U (owns (as.flatMap cellsOf)) k
    have hx := frzKs_ext (owns (as.flatMap cellsOf)) k
    simp only [frozenJ] at hj
    rw [← q3, ← q5] at hj
    have hcall := h.calls N _ _ vs v hp' nx' q1 (by rw [q4]; exact hN) (frel_arels _ _ (by simpa using q2.1) fun i => by
      have := q2.2 i
      simpa [Array.getD_eq_getD_getElem?, List.getD_eq_getElem?_getD] using this) (fun n hn => by rw [q5]; rw [hU] at hn; exact hu n hn) hj
    rw [q4] at hcall
    exact hcall.mono fun e w' ⟨u, k', h1, h2, h3, h4, h5, h6, h7, h8, h9⟩ => ⟨u, k', h1, h2, h3, h4, h5, hx.trans h6, h7, h8, h9⟩

/-- A method, out of its printed form. -/
theorem soundM_of {C : Ctx} (hC : CtxOK C) (hlo : 1 ≤ C.lo) (hmix : C.E.P.follows .mixedOrders = true) {g : FuncId} {fn : Func} {h : HT} {M : MFun} (hg : C.E.P.funcs[g]? = some fn) (hn : (fn.name == "runtime.NumGoroutine") = false) (hb : fn.body.isSome = true) (hL : LoopsOK C (codeOf fn) h)
    (hT : ∀ a, denM C fn h M a = M.f a) : SoundM C.E.P g M := denM_sound hC hlo hmix hg hn (codeOf_body hb) hL fun a => (hT a).symm

/-- A function that is run in its caller's state, out of its printed form. -/
theorem soundIn_of {C : Ctx} (hC : CtxOK C) (hmix : C.E.P.follows .mixedOrders = true) {g : FuncId} {fn : Func} {h : HT} (hg : C.E.P.funcs[g]? = some fn) (hn : (fn.name == "runtime.NumGoroutine") = false) (hb : fn.body.isSome = true) (hL : LoopsOK C (codeOf fn) h) : SoundIn C.E.P g (inl C fn h) :=
  inl_sound hC hmix hg hn (codeOf_body hb) hL fun _ _ _ => rfl

end Go.Ab
