/-
  WHAT IS ASKED OF THE FUNCTIONS THAT ARE CALLED; one operation, calls and guards with it.
-/
import Derived.Test.YtnklmlnkiepdiaaGreatDoorAbFlow
set_option linter.unusedVariables false
set_option linter.unusedSectionVars false
set_option linter.unusedSimpArgs false
namespace Go.Ab
variable [Tabs]
open Go.RowKit (Below)

/-- The world behind, names aside. -/
structure WExt (k k' : Kx) : Prop where
  sameN : ∀ B, ¬ k.Own B → B < k.w.heap.size → k'.w.heap[B]? = k.w.heap[B]?
  ownN : ∀ B, k'.Own B → B < k.w.heap.size → k.Own B
  size : k.w.heap.size ≤ k'.w.heap.size
  x : k'.X = k.X

theorem WExt.same {k k' : Kx} (h : WExt k k') : ∀ B, ¬ k.O B → B < k.w.heap.size → k'.w.heap[B]? = k.w.heap[B]? := fun B hB hlt => h.sameN B (fun ho => hB (Or.inr ho)) hlt
theorem WExt.own {k k' : Kx} (h : WExt k k') : ∀ B, k'.O B → B < k.w.heap.size → k.O B := by
  rintro B (hB | hB) hlt
  · rw [h.x] at hB; exact Or.inl hB
  · exact Or.inr (h.ownN B hB hlt)
/-- .. where blocks V may be written besides. -/
structure WV (V : Nat → Prop) (k k' : Kx) : Prop where
  sameN : ∀ B, ¬ k.Own B → ¬ V B → B < k.w.heap.size → k'.w.heap[B]? = k.w.heap[B]?
  ownN : ∀ B, k'.Own B → B < k.w.heap.size → k.Own B
  size : k.w.heap.size ≤ k'.w.heap.size
  x : k'.X = k.X
/-- what pure data may lead to is as it was -/
structure WExtO (k k' : Kx) : Prop where
  same : ∀ B, ¬ k.O B → B < k.w.heap.size → k'.w.heap[B]? = k.w.heap[B]?
  own : ∀ B, k'.O B → B < k.w.heap.size → k.O B
theorem WExtO.v {k k' : Kx} (h : WExtO k k') {t : Ty} {x : t.den} {cs : List Value} (hv : VRel k.w k.O t x cs) : VRel k'.w k'.O t x cs := VRel.mono h.same h.own t x cs hv
theorem WExt.weak {k k' : Kx} (h : WExt k k') : WExtO k k' := ⟨h.same, h.own⟩
theorem WV.weak {V : Nat → Prop} {k k' : Kx} (h : WV V k k') (hV : ∀ B, V B → k.X B) : WExtO k k' :=
  ⟨fun B hB hlt => h.sameN B (fun ho => hB (Or.inr ho)) (fun hv => hB (Or.inl (hV B hv))) hlt, fun B hB hlt => by
    rcases hB with hB | hB
    · rw [h.x] at hB; exact Or.inl hB
    · exact Or.inr (h.ownN B hB hlt)⟩
theorem WExt.wv {V : Nat → Prop} {k k' : Kx} (h : WExt k k') : WV V k k' := ⟨fun B hB _ hlt => h.sameN B hB hlt, h.ownN, h.size, h.x⟩
theorem WV.trans {V : Nat → Prop} {k k' k'' : Kx} (h : WV V k k') (h' : WExt k' k'') : WV V k k'' :=
  ⟨fun B hB hv hlt => (h'.sameN B (fun hO => hB (h.ownN B hO hlt)) (Nat.lt_of_lt_of_le hlt h.size)).trans (h.sameN B hB hv hlt),
   fun B hB hlt => h.ownN B (h'.ownN B hB (Nat.lt_of_lt_of_le hlt h.size)) hlt, Nat.le_trans h.size h'.size, h'.x.trans h.x⟩

theorem Ext.wext {k k' : Kx} (h : Ext k k') : WExt k k' := ⟨h.same, h.own, h.size, h.x⟩
theorem WExt.refl (k : Kx) : WExt k k := ⟨fun _ _ _ => rfl, fun _ h _ => h, Nat.le_refl _, rfl⟩
theorem WExt.trans {k k' k'' : Kx} (h : WExt k k') (h' : WExt k' k'') : WExt k k'' :=
  ⟨fun B hB hlt => (h'.sameN B (fun hO => hB (h.ownN B hO hlt)) (Nat.lt_of_lt_of_le hlt h.size)).trans (h.sameN B hB hlt),
   fun B hB hlt => h.ownN B (h'.ownN B hB (Nat.lt_of_lt_of_le hlt h.size)) hlt, Nat.le_trans h.size h'.size, h'.x.trans h.x⟩
theorem WExt.v {k k' : Kx} (h : WExt k k') {t : Ty} {x : t.den} {cs : List Value} (hv : VRel k.w k.O t x cs) : VRel k'.w k'.O t x cs := VRel.mono h.same h.own t x cs hv

theorem Below.mono {N M : Nat} {w w' : World} (h : Below M w w') (hNM : N ≤ M) : Below N w w' := ⟨h.os, h.tape, h.output, h.size, fun k hk => h.block k (Nat.lt_of_lt_of_le hk hNM)⟩

/-- what a range over a function leaves among the deferred calls -/
def Mark (B : Nat) : Deferred := { target := .collected B, args := #[] }
def Marks (N : Nat) (k0 k : Kx) (ds : List Deferred) : Prop :=
  ∃ Bs : List Nat, ds = Bs.map Mark ∧ Bs.Nodup ∧ ∀ B ∈ Bs, N ≤ B ∧ k0.w.heap.size ≤ B ∧ ¬ k.O B ∧ k.w.heap[B]? = some (.deferred (some []))
theorem Marks.nil (N : Nat) (k0 k : Kx) : Marks N k0 k [] := ⟨[], rfl, List.nodup_nil, fun B h => by cases h⟩
theorem Marks.next {N : Nat} {k0 k k' : Kx} {ds : List Deferred} (h : Marks N k0 k ds) (hW : WExt k k') : Marks N k0 k' ds := by
  obtain ⟨Bs, h1, h2, h3⟩ := h
  refine ⟨Bs, h1, h2, fun B hB => ?_⟩
  obtain ⟨g1, g2, g3, g4⟩ := h3 B hB
  exact ⟨g1, g2, fun hO => g3 (hW.own B hO (heap_lt g4)), (hW.same B g3 (heap_lt g4)).trans g4⟩

/-- What is true of a state; of its names nothing is said. -/
structure RelA (N : Nat) (k0 : Kx) (σ : St) (k : Kx) (a : Act) : Prop where
  hp : k.hp = σ.hp
  nx : k.nx = σ.nx
  h : HRel N k
  f : FRel k σ.fr a.tmps
  ext : Ext k0 k
  room : N ≤ k.w.heap.size
  below : Below N k0.w k.w
  defers : Marks N k0 k a.defers

/-- What is true of a state. -/
structure Rel (N : Nat) (k0 : Kx) (σ : St) (k : Kx) (a : Act) : Prop extends RelA N k0 σ k a where
  u : ∀ n, k.U n → n < σ.nx

/-- The call of it enters it. -/
def Enters (P : Program) (g : FuncId) : Prop := ∀ args w, (callFunc g args).run P w = .ok (.enter g args) w

theorem enters_of {P : Program} {g : FuncId} {fn : Func} (h : P.funcs[g]? = some fn) (hn : (fn.name == "runtime.NumGoroutine") = false) (hb : fn.body.isNone = false) : Enters P g := by
  intro args w
  simp only [callFunc, Sem.run_bind, program, Sem.run, Result.andThen_ok, h, hn, hb]
  rfl

/-- a world in which the call has nothing of its own yet -/
def noneK (w : World) (nx : Nat) (X : Nat → Prop) : Kx := ⟨w, [], fun _ => .none, nx, X, fun n => n < nx⟩

theorem noneK_O (w : World) (nx : Nat) (X : Nat → Prop) (B : Nat) : (noneK w nx X).O B ↔ X B := by
  unfold Kx.O Kx.Own noneK
  constructor
  · rintro (h | ⟨n, b, h, _⟩)
    · exact h
    · simp [hget] at h
  · exact Or.inl

/-- A function of pure data does what is said of it. -/
structure Sound (P : Program) (g : FuncId) (T : TFun) : Prop where
  enters : Enters P g
  calls : ∀ (w : World) (X : Nat → Prop) (nx : Nat) (x : T.arg.den) (r : T.res.den) (vs : Array Value), XOK w.heap.size X w →
    PRels (noneK w 0 X) (deal T.args (flat T.arg x)) vs.toList → T.f x = some r →
    Calls P g vs w fun e w' => ∃ v μ, e = .returned v ∧ Below w.heap.size w w' ∧
      HRel w.heap.size ⟨w', acts [] (ownize T.own 0 nx (flat T.res r)).2.1, μ, nx + (ownize T.own 0 nx (flat T.res r)).2.2, X, fun q => q < nx + (ownize T.own 0 nx (flat T.res r)).2.2⟩ ∧
      ARel ⟨w', acts [] (ownize T.own 0 nx (flat T.res r)).2.1, μ, nx + (ownize T.own 0 nx (flat T.res r)).2.2, X, fun q => q < nx + (ownize T.own 0 nx (flat T.res r)).2.2⟩ (mkRes T.parts (ownize T.own 0 nx (flat T.res r)).1) v

/-- values against abstract ones -/
def ARels (k : Kx) : List AVal → List Value → Prop
  | [], vs => vs = []
  | a :: as, vs => ∃ v r, vs = v :: r ∧ ARel k a v ∧ ARels k as r

/-- A function that is run in its caller's state does what is said of it. -/
structure SoundIn (P : Program) (g : FuncId) (J : InlSum) : Prop where
  enters : Enters P g
  calls : ∀ (N : Nat) (k : Kx) (as : List AVal) (vs : Array Value) (v : AVal) (hp' : Hp) (nx' : Nat), HRel N k → N ≤ k.w.heap.size → ARels k as vs.toList → (∀ n, k.U n → n < k.nx) →
    J.run as k.hp k.nx (fun v h n => some (v, h, n)) none = some (v, hp', nx') →
    Calls P g vs k.w fun e w' => ∃ u k', e = .returned u ∧ k'.w = w' ∧ k'.hp = hp' ∧ k'.nx = nx' ∧ HRel N k' ∧ Ext k k' ∧ Below N k.w k'.w ∧ ARel k' v u ∧ ∀ n, k'.U n → n < k'.nx

/-- what a call hands back of its own -/
def resK (w' : World) (Y : Nat → Prop) (μ : Nat → Loc) (own : List Nat) (nx : Nat) (cs : List Cell) : Kx :=
  ⟨w', acts [] (ownize own 0 nx cs).2.1, μ, nx + (ownize own 0 nx cs).2.2, Y, fun q => q < nx + (ownize own 0 nx cs).2.2⟩

/-- A method does what is said of it: the struct lies in the block B, which no data may lead to, nor to the other blocks of Y. -/
structure SoundM (P : Program) (g : FuncId) (M : MFun) : Prop where
  enters : Enters P g
  calls : ∀ (N : Nat) (w : World) (Y : Nat → Prop) (B nx : Nat) (x : M.cont.den) (a : M.arg.den) (r : M.res.den) (y : M.cont.den) (vs : Array Value) (row : Array Value) (E : TypeId) (fz : Nat × Nat),
    N ≤ B → Y B → XOK N Y w → w.heap[B]? = some (.cells row E fz) → Unfrozen row fz → VRel w Y M.cont x row.toList →
    PRels (noneK w 0 Y) (deal M.args (flat M.arg a)) vs.toList → M.f (x, a) = some (r, y) →
    Calls P g (#[.pointer (some ⟨B, 0, none⟩)] ++ vs) w fun e w' => ∃ v μ row' E' fz', e = .returned v ∧ Below N w w' ∧ (∀ C, C ≠ B → C < w.heap.size → w'.heap[C]? = w.heap[C]?) ∧
      w'.heap[B]? = some (.cells row' E' fz') ∧ Unfrozen row' fz' ∧ HRel w.heap.size (resK w' Y μ M.own nx (flat M.res r)) ∧
      VRel w' (resK w' Y μ M.own nx (flat M.res r)).O M.cont y row'.toList ∧ ARel (resK w' Y μ M.own nx (flat M.res r)) (mkRes M.parts (ownize M.own 0 nx (flat M.res r)).1) v

/-- A function that leaves its arguments' blocks their owner's does what is said of it. -/
structure SoundQ (P : Program) (g : FuncId) (T : TFun) : Prop where
  enters : Enters P g
  calls : ∀ (N : Nat) (k : Kx) (as : List AVal) (vs : Array Value) (x : T.arg.den) (r : T.res.den), HRel N k → N ≤ k.w.heap.size → ARels k as vs.toList → qIn T (hget k.hp) as = some x → T.f x = some r →
    (∀ n, k.U n → ¬ (k.nx ≤ n ∧ n < k.nx + (ownize T.own 0 k.nx (flat T.res r)).2.2)) →
    Calls P g vs k.w fun e w' => ∃ v k', e = .returned v ∧ k'.w = w' ∧ k'.hp = acts k.hp (ownize T.own 0 k.nx (flat T.res r)).2.1 ∧ k'.nx = k.nx + (ownize T.own 0 k.nx (flat T.res r)).2.2 ∧ HRel N k' ∧ Ext k k' ∧ Below N k.w k'.w ∧
      ARel k' (mkRes T.parts (ownize T.own 0 k.nx (flat T.res r)).1) v ∧ ∀ n, k'.U n → k.U n ∨ (k.nx ≤ n ∧ n < k'.nx)

structure CtxOK (C : Ctx) : Prop where
  env : EnvOK C.E
  nat : NatCtx C
  fns : ∀ g T, C.Φ g = some T → Sound C.E.P g T
  inl : ∀ g d J, C.Ψ g d = some J → SoundIn C.E.P g J
  meth : ∀ g M, C.M g = some M → SoundM C.E.P g M
  keep : ∀ g T, C.Q g = some T → SoundQ C.E.P g T

/-! ### what a callee hands back, in its caller's state -/
theorem ownize_names : ∀ (own : List Nat) (cs : List Cell) (k nx : Nat), (∀ c ∈ cs, namesOfCell c = []) →
    (∀ a ∈ (ownize own k nx cs).2.1, ∃ n e xs, a = .put n (.arr e xs) ∧ nx ≤ n ∧ n < nx + (ownize own k nx cs).2.2) ∧
    (∀ c ∈ (ownize own k nx cs).1, ∀ n ∈ namesOfCell c, nx ≤ n ∧ n < nx + (ownize own k nx cs).2.2) ∧ (ownize own k nx cs).1.length = cs.length := by
  intro own cs
  induction cs with
  | nil => intro k nx _; exact ⟨fun a ha => by simp [ownize] at ha, fun c hc => by simp [ownize] at hc, rfl⟩
  | cons c r ih =>
    intro k nx hc
    have hr : ∀ c ∈ r, namesOfCell c = [] := fun d hd => hc d (by simp [hd])
    have plain : (∀ a ∈ (ownize own (k + 1) nx r).2.1, ∃ n e xs, a = .put n (.arr e xs) ∧ nx ≤ n ∧ n < nx + (ownize own (k + 1) nx r).2.2) ∧
        (∀ d ∈ c :: (ownize own (k + 1) nx r).1, ∀ n ∈ namesOfCell d, nx ≤ n ∧ n < nx + (ownize own (k + 1) nx r).2.2) ∧ (c :: (ownize own (k + 1) nx r).1).length = (c :: r).length := by
      obtain ⟨h1, h2, h3⟩ := ih (k + 1) nx hr
      refine ⟨h1, fun d hd n hn => ?_, by simp [h3]⟩
      rcases List.mem_cons.1 hd with hd | hd
      · subst hd; rw [hc d (by simp)] at hn; cases hn
      · exact h2 d hd n hn
    simp only [ownize]
    split
    · split
      · rename_i e xs
        obtain ⟨h1, h2, h3⟩ := ih (k + 1) (nx + 1) hr
        refine ⟨fun a ha => ?_, fun d hd n hn => ?_, by simp [h3]⟩
        · rcases List.mem_cons.1 ha with ha | ha
          · exact ⟨nx, e, xs, ha, Nat.le_refl _, by simp only; omega⟩
          · obtain ⟨n, e', xs', g1, g2, g3⟩ := h1 a ha
            exact ⟨n, e', xs', g1, by omega, by simp only; omega⟩
        · rcases List.mem_cons.1 hd with hd | hd
          · subst hd; simp only [namesOfCell, List.mem_singleton] at hn; subst hn; simp only; omega
          · have := h2 d hd n hn
            simp only; omega
      · exact plain
    · exact plain

theorem acts_put_get : ∀ (as : List HAct) (hp hp0 : Hp) (n : Nat), (∀ a ∈ as, ∃ n b, a = .put n b) → (∀ b, hget hp0 n = some b → hget hp n = some b) → (hget hp0 n = none → hget hp n = none ∨ n ∉ as.map HAct.name) →
    hget (acts hp as) n = (match hget (acts hp0 as) n with | some b => some b | none => hget hp n) := by
  intro as
  induction as with
  | nil =>
    intro hp hp0 n _ h1 h2
    simp only [acts]
    cases h : hget hp0 n with
    | none => rfl
    | some b => exact h1 b h
  | cons a r ih =>
    intro hp hp0 n hp1 h1 h2
    obtain ⟨m, b, rfl⟩ := hp1 a (by simp)
    simp only [acts, act]
    by_cases hm : n = m
    · subst hm
      rw [ih (hput hp n b) (hput hp0 n b) n (fun a ha => hp1 a (by simp [ha])) (fun c hc => by simp only [hget_hput, if_true] at hc ⊢; exact hc) (fun hc => by simp [hget_hput] at hc)]
      cases hx : hget (acts (hput hp0 n b) r) n with
      | some c => rfl
      | none =>
        exfalso
        have key : ∀ (as : List HAct) (h : Hp), (∀ a ∈ as, ∃ n b, a = .put n b) → (∃ c, hget h n = some c) → ∃ c, hget (acts h as) n = some c := by
          intro as
          induction as with
          | nil => intro h _ hc; exact hc
          | cons a r ih =>
            intro h ha hc
            obtain ⟨q, d, rfl⟩ := ha a (by simp)
            refine ih _ (fun a h' => ha a (by simp [h'])) ?_
            simp only [act, hget_hput]
            split
            · exact ⟨d, rfl⟩
            · exact hc
        obtain ⟨c, hc⟩ := key r (hput hp0 n b) (fun a ha => hp1 a (by simp [ha])) ⟨b, by simp [hget_hput]⟩
        rw [hc] at hx; cases hx
    · rw [ih (hput hp m b) (hput hp0 m b) n (fun a ha => hp1 a (by simp [ha])) (fun c hc => by simp only [hget_hput, if_neg hm] at hc ⊢; exact h1 c hc) (fun hc => ?_)]
      · simp only [hget_hput, if_neg hm]
      · simp only [hget_hput, if_neg hm] at hc ⊢
        rcases h2 hc with h | h
        · exact Or.inl h
        · right; intro h'; apply h; simp [h']

theorem acts_put_mem : ∀ (as : List HAct) (hp : Hp) (n : Nat) (b : Blk), (∀ a ∈ as, ∃ n b, a = .put n b) → hget (acts hp as) n = some b → .put n b ∈ as ∨ hget hp n = some b := by
  intro as
  induction as with
  | nil => intro hp n b _ h; exact Or.inr h
  | cons a r ih =>
    intro hp n b hp1 h
    obtain ⟨m, c, rfl⟩ := hp1 a (by simp)
    rcases ih _ n b (fun a ha => hp1 a (by simp [ha])) h with g | g
    · exact Or.inl (by simp [g])
    · simp only [act, hget_hput] at g
      by_cases e : n = m
      · rw [if_pos e] at g
        simp only [Option.some.injEq] at g
        subst e; subst g; exact Or.inl (by simp)
      · rw [if_neg e] at g; exact Or.inr g

def mergeK (kf : Kx) (w' : World) (puts : List HAct) (μ : Nat → Loc) (m : Nat) : Kx := ⟨w', acts kf.hp puts, fun n => if kf.nx ≤ n ∧ n < kf.nx + m then μ n else kf.μ n, kf.nx + m, kf.X, fun n => kf.U n ∨ (kf.nx ≤ n ∧ n < kf.nx + m)⟩

structure Merge (N : Nat) (kf : Kx) (w' : World) (puts : List HAct) (μ : Nat → Loc) (m : Nat) (X : Nat → Prop) : Prop where
  hk : HRel N kf
  hN : N ≤ kf.w.heap.size
  hb : Below kf.w.heap.size kf.w w'
  hp : ∀ a ∈ puts, ∃ n e xs, a = .put n (.arr e xs) ∧ kf.nx ≤ n ∧ n < kf.nx + m
  hr : HRel kf.w.heap.size ⟨w', acts [] puts, μ, kf.nx + m, X, fun q => q < kf.nx + m⟩
  hX : (∀ B, kf.O B → X B) ∨ ∀ a ∈ puts, ∀ n e xs, a = .put n (.arr e xs) → e.flatOnly = true
  hf : ∀ n, kf.U n → ¬ (kf.nx ≤ n ∧ n < kf.nx + m)

section
variable {N : Nat} {kf : Kx} {w' : World} {puts : List HAct} {μ : Nat → Loc} {m : Nat} {X : Nat → Prop}

theorem Merge.puts1 (h : Merge N kf w' puts μ m X) : ∀ a ∈ puts, ∃ n b, a = .put n b := fun a ha => by
  obtain ⟨n, e, xs, h1, _⟩ := h.hp a ha; exact ⟨n, _, h1⟩

theorem Merge.low (h : Merge N kf w' puts μ m X) {n : Nat} (hn : ¬ (kf.nx ≤ n ∧ n < kf.nx + m)) : hget (acts kf.hp puts) n = hget kf.hp n ∧ hget (acts [] puts) n = none := by
  have hnot : n ∉ puts.map HAct.name := by
    intro hm
    obtain ⟨a, ha, rfl⟩ := List.mem_map.1 hm
    obtain ⟨q, e, xs, rfl, h1, _⟩ := h.hp a ha
    have : (HAct.put q (.arr e xs)).name = q := rfl
    omega
  exact ⟨acts_get _ _ _ hnot, by rw [acts_get _ _ _ hnot]; rfl⟩

theorem Merge.high (h : Merge N kf w' puts μ m X) {n : Nat} (hn : kf.nx ≤ n ∧ n < kf.nx + m) : hget (acts kf.hp puts) n = hget (acts [] puts) n := by
  have h0 : hget kf.hp n = none := by
    cases hx : hget kf.hp n with
    | none => rfl
    | some b => exact absurd hn (h.hf n (h.hk.names n b hx))
  rw [acts_put_get puts kf.hp [] n h.puts1 (fun b hb => by simp [hget] at hb) (fun _ => Or.inl h0), h0]
  cases hget (acts [] puts) n <;> rfl

theorem Merge.own (h : Merge N kf w' puts μ m X) (B : Nat) : (mergeK kf w' puts μ m).Own B ↔ kf.Own B ∨ Kx.Own ⟨w', acts [] puts, μ, kf.nx + m, X, fun q => q < kf.nx + m⟩ B := by
  unfold Kx.Own mergeK
  constructor
  · rintro ⟨n, b, h1, h2⟩
    simp only at h1 h2
    by_cases hn : kf.nx ≤ n ∧ n < kf.nx + m
    · rw [if_pos hn] at h2
      rw [h.high hn] at h1
      exact Or.inr ⟨n, b, h1, h2⟩
    · rw [if_neg hn] at h2
      rw [(h.low hn).1] at h1
      exact Or.inl ⟨n, b, h1, h2⟩
  · rintro (⟨n, b, h1, h2⟩ | ⟨n, b, h1, h2⟩)
    · have hn := h.hf n (h.hk.names n b h1)
      exact ⟨n, b, by simp only; rw [(h.low hn).1]; exact h1, by simp only; rw [if_neg hn]; exact h2⟩
    · simp only at h1 h2
      have hn : kf.nx ≤ n ∧ n < kf.nx + m := Decidable.byContradiction fun hn => by rw [(h.low hn).2] at h1; cases h1
      exact ⟨n, b, by simp only; rw [h.high hn]; exact h1, by simp only; rw [if_pos hn]; exact h2⟩

theorem Merge.ext (h : Merge N kf w' puts μ m X) : Ext kf (mergeK kf w' puts μ m) where
  same := fun B _ hlt => h.hb.block B hlt
  own := by
    intro B hO hlt
    rcases (h.own B).1 hO with ho | ho
    · exact ho
    · have := (h.hr.low B ho).1; omega
  size := h.hb.size
  u := fun n hn => Or.inl hn
  arr := fun n e xs hn hc => by
    simp only [mergeK] at hc ⊢
    rw [(h.low (h.hf n hn)).1] at hc
    exact ⟨xs, hc, rfl, if_neg (h.hf n hn)⟩
  var := fun n cs hn hc => by
    simp only [mergeK] at hc ⊢
    rw [(h.low (h.hf n hn)).1] at hc
    exact ⟨cs, hc, if_neg (h.hf n hn)⟩
  map := fun n kt vt xs hn hc => by
    simp only [mergeK] at hc ⊢
    rw [(h.low (h.hf n hn)).1] at hc
    exact ⟨xs, hc, if_neg (h.hf n hn)⟩
  x := rfl

/-- data of the result's -/
theorem Merge.v (h : Merge N kf w' puts μ m X) {t : Ty} {x : t.den} {cs : List Value} (hf : (∀ B, kf.O B → X B) ∨ t.flatOnly = true) (hv : VRel w' (Kx.O ⟨w', acts [] puts, μ, kf.nx + m, X, fun q => q < kf.nx + m⟩) t x cs) :
    VRel w' (mergeK kf w' puts μ m).O t x cs := by
  rcases hf with hf | hf
  · refine VRel.mono (fun _ _ _ => rfl) (fun B hB _ => ?_) _ _ _ hv
    rcases hB with hB | hB
    · exact Or.inl (hf B (Or.inl hB))
    · rcases (h.own B).1 hB with hB | hB
      · exact Or.inl (hf B (Or.inr hB))
      · exact Or.inr hB
  · exact VRel.anyO _ _ _ hf hv

theorem Merge.hrel (h : Merge N kf w' puts μ m X) : HRel N (mergeK kf w' puts μ m) := by
  have hx := h.ext
  have hμl : ∀ n, ¬ (kf.nx ≤ n ∧ n < kf.nx + m) → (mergeK kf w' puts μ m).μ n = kf.μ n := fun n hn => if_neg hn
  have hμh : ∀ n, kf.nx ≤ n ∧ n < kf.nx + m → (mergeK kf w' puts μ m).μ n = μ n := fun n hn => if_pos hn
  have lowB : ∀ n b B, hget kf.hp n = some b → (kf.μ n).block = some B → B < kf.w.heap.size := fun n b B h1 h2 => (h.hk.low B ⟨n, b, h1, h2⟩).2
  have highB : ∀ n b B, hget (acts [] puts) n = some b → (μ n).block = some B → kf.w.heap.size ≤ B := fun n b B h1 h2 => (h.hr.low B ⟨n, b, h1, h2⟩).1
  refine ⟨fun n b hc => ?_, fun n q c d B hc hd h1 h2 => ?_, fun B hB => ?_, hx.xlow h.hk, hx.xown h.hk, fun n b hc => ?_⟩
  · by_cases hn : ¬ (kf.nx ≤ n ∧ n < kf.nx + m)
    · have hc' : hget kf.hp n = some b := by rw [← (h.low hn).1]; exact hc
      exact BRel.move hx (hμl n hn) (fun B hB => h.hb.block B (lowB n b B hc' hB)) (h.hk.blk n b hc')
    · have hn := Decidable.not_not.1 hn
      have hc' : hget (acts [] puts) n = some b := by rw [← h.high hn]; exact hc
      have hbr := h.hr.blk n b hc'
      have hmem := acts_put_mem puts [] n b h.puts1 hc'
      rcases hmem with hmem | hmem
      · obtain ⟨n', e, xs, he, _⟩ := h.hp _ hmem
        simp only [HAct.put.injEq] at he
        obtain ⟨_, rfl⟩ := he
        have hf : (∀ B, kf.O B → X B) ∨ e.flatOnly = true := h.hX.imp id fun hf => hf _ hmem n e xs rfl
        unfold BRel at hbr ⊢
        rw [hμh n hn]
        simp only at hbr ⊢
        cases hm : μ n with
        | none => rw [hm] at hbr; exact hbr
        | at_ B o cap =>
          rw [hm] at hbr
          obtain ⟨row, E, fz, g1, g2, g3, g4, g5, g6⟩ := hbr
          exact ⟨row, E, fz, g1, g2, g3, g4, g5, fun i hi => h.v hf (g6 i hi)⟩
      · simp [hget] at hmem
  · have hc : hget (acts kf.hp puts) n = some c := hc
    have hd : hget (acts kf.hp puts) q = some d := hd
    by_cases hn : ¬ (kf.nx ≤ n ∧ n < kf.nx + m)
    · rw [hμl n hn] at h1
      rw [(h.low hn).1] at hc
      by_cases hq : ¬ (kf.nx ≤ q ∧ q < kf.nx + m)
      · rw [hμl q hq] at h2
        rw [(h.low hq).1] at hd
        exact h.hk.inj n q c d B hc hd h1 h2
      · have hq := Decidable.not_not.1 hq
        rw [hμh q hq] at h2
        rw [h.high hq] at hd
        have := lowB n c B hc h1
        have := highB q d B hd h2
        omega
    · have hn := Decidable.not_not.1 hn
      rw [hμh n hn] at h1
      rw [h.high hn] at hc
      by_cases hq : ¬ (kf.nx ≤ q ∧ q < kf.nx + m)
      · rw [hμl q hq] at h2
        rw [(h.low hq).1] at hd
        have := lowB q d B hd h2
        have := highB n c B hc h1
        omega
      · have hq := Decidable.not_not.1 hq
        rw [hμh q hq] at h2
        rw [h.high hq] at hd
        exact h.hr.inj n q c d B hc hd h1 h2
  · rcases (h.own B).1 hB with hB | hB
    · have := h.hk.low B hB
      exact ⟨this.1, Nat.lt_of_lt_of_le this.2 h.hb.size⟩
    · have := h.hr.low B hB
      exact ⟨Nat.le_trans h.hN this.1, this.2⟩
  · have hc : hget (acts kf.hp puts) n = some b := hc
    show kf.U n ∨ (kf.nx ≤ n ∧ n < kf.nx + m)
    by_cases hn : kf.nx ≤ n ∧ n < kf.nx + m
    · exact Or.inr hn
    · rw [(h.low hn).1] at hc
      exact Or.inl (h.hk.names n b hc)

/-- A cell of the result's. -/
theorem Merge.c (h : Merge N kf w' puts μ m X) {c : Cell} {v : Value} (hn : ∀ n ∈ namesOfCell c, kf.nx ≤ n ∧ n < kf.nx + m) (hs : (∃ t x, c = .val t x ∧ ((∀ B, kf.O B → X B) ∨ t.flatOnly = true)) ∨ (∃ n e, c = .own n e))
    (hc : CRel ⟨w', acts [] puts, μ, kf.nx + m, X, fun q => q < kf.nx + m⟩ c v) : CRel (mergeK kf w' puts μ m) c v := by
  rcases hs with ⟨t, x, rfl, hf⟩ | ⟨n, e, rfl⟩
  · exact h.v hf hc
  · have hn := hn n (by simp [namesOfCell])
    refine ⟨⟨Or.inr hn, hc.1.2⟩, fun xs hxs => ?_⟩
    have hxs : hget (acts kf.hp puts) n = some (.arr e xs) := hxs
    rw [h.high hn] at hxs
    have := hc.2 xs hxs
    show Hdr (if kf.nx ≤ n ∧ n < kf.nx + m then μ n else kf.μ n) _ _ _ _
    rw [if_pos hn]
    exact this
end

/-! ### a struct's content that comes back -/
structure MergeM (N : Nat) (kf : Kx) (w' : World) (puts : List HAct) (μ : Nat → Loc) (m n B : Nat) (t : Ty) (y : t.den) : Prop where
  hk : HRel N kf
  hn : ∃ cs, hget kf.hp n = some (.var cs)
  hB : kf.μ n = .at_ B 0 0
  hb : Below N kf.w w'
  same : ∀ C, C ≠ B → C < kf.w.heap.size → w'.heap[C]? = kf.w.heap[C]?
  hp : ∀ a ∈ puts, ∃ n e xs, a = .put n (.arr e xs) ∧ kf.nx ≤ n ∧ n < kf.nx + m
  hr : HRel kf.w.heap.size ⟨w', acts [] puts, μ, kf.nx + m, kf.O, fun q => q < kf.nx + m⟩
  hf : ∀ n, kf.U n → ¬ (kf.nx ≤ n ∧ n < kf.nx + m)
  cont : ∃ row' E' fz', w'.heap[B]? = some (.cells row' E' fz') ∧ Unfrozen row' fz' ∧ VRel w' (Kx.O ⟨w', acts [] puts, μ, kf.nx + m, kf.O, fun q => q < kf.nx + m⟩) t y row'.toList

def mergeMK (kf : Kx) (w' : World) (puts : List HAct) (μ : Nat → Loc) (m n : Nat) (t : Ty) (y : t.den) : Kx :=
  ⟨w', acts kf.hp (puts ++ [.put n (.var (flat t y))]), fun q => if kf.nx ≤ q ∧ q < kf.nx + m then μ q else kf.μ q, kf.nx + m, kf.X, fun q => kf.U q ∨ (kf.nx ≤ q ∧ q < kf.nx + m)⟩

theorem acts_append : ∀ (as bs : List HAct) (hp : Hp), acts hp (as ++ bs) = acts (acts hp as) bs := by
  intro as
  induction as with
  | nil => intro bs hp; rfl
  | cons a r ih => intro bs hp; exact ih bs (act hp a)

section
variable {N : Nat} {kf : Kx} {w' : World} {puts : List HAct} {μ : Nat → Loc} {m n B : Nat} {t : Ty} {y : t.den}

theorem MergeM.nout (h : MergeM N kf w' puts μ m n B t y) : ¬ (kf.nx ≤ n ∧ n < kf.nx + m) := by
  obtain ⟨cs, hn⟩ := h.hn
  exact h.hf n (h.hk.names n _ hn)

theorem MergeM.at_n (h : MergeM N kf w' puts μ m n B t y) : hget (mergeMK kf w' puts μ m n t y).hp n = some (.var (flat t y)) := by
  simp only [mergeMK, acts_append, acts, act, hget_hput, if_true]

theorem MergeM.low (h : MergeM N kf w' puts μ m n B t y) {q : Nat} (hq : ¬ (kf.nx ≤ q ∧ q < kf.nx + m)) (hqn : q ≠ n) : hget (mergeMK kf w' puts μ m n t y).hp q = hget kf.hp q := by
  simp only [mergeMK, acts_append, acts, act, hget_hput, if_neg hqn]
  refine acts_get _ _ _ fun hm => ?_
  obtain ⟨a, ha, rfl⟩ := List.mem_map.1 hm
  obtain ⟨q, e, xs, rfl, h1, h2⟩ := h.hp a ha
  exact hq ⟨h1, h2⟩

theorem MergeM.high (h : MergeM N kf w' puts μ m n B t y) {q : Nat} (hq : kf.nx ≤ q ∧ q < kf.nx + m) : hget (mergeMK kf w' puts μ m n t y).hp q = hget (acts [] puts) q := by
  have hqn : q ≠ n := fun e => h.nout (e ▸ hq)
  simp only [mergeMK, acts_append, acts, act, hget_hput, if_neg hqn]
  have h0 : hget kf.hp q = none := by
    cases hx : hget kf.hp q with
    | none => rfl
    | some b => exact absurd hq (h.hf q (h.hk.names q b hx))
  rw [acts_put_get puts kf.hp [] q (fun a ha => by obtain ⟨n, e, xs, h1, _⟩ := h.hp a ha; exact ⟨n, _, h1⟩) (fun b hb => by simp [hget] at hb) (fun _ => Or.inl h0), h0]
  cases hget (acts [] puts) q <;> rfl

theorem MergeM.out (h : MergeM N kf w' puts μ m n B t y) {q : Nat} {b : Blk} (hq : hget (acts [] puts) q = some b) : kf.nx ≤ q ∧ q < kf.nx + m := by
  refine Decidable.byContradiction fun hn => ?_
  rw [acts_get _ _ _ (fun hm => by
    obtain ⟨a, ha, rfl⟩ := List.mem_map.1 hm
    obtain ⟨q, e, xs, rfl, h1, h2⟩ := h.hp a ha
    exact hn ⟨h1, h2⟩)] at hq
  simp [hget] at hq

theorem MergeM.own (h : MergeM N kf w' puts μ m n B t y) (C : Nat) : (mergeMK kf w' puts μ m n t y).Own C ↔ kf.Own C ∨ Kx.Own ⟨w', acts [] puts, μ, kf.nx + m, kf.O, fun q => q < kf.nx + m⟩ C := by
  obtain ⟨cs, hcs⟩ := h.hn
  constructor
  · rintro ⟨q, b, h1, h2⟩
    have h3 : (if kf.nx ≤ q ∧ q < kf.nx + m then μ q else kf.μ q).block = some C := h2
    by_cases hq : kf.nx ≤ q ∧ q < kf.nx + m
    · rw [if_pos hq] at h3
      rw [h.high hq] at h1
      exact Or.inr ⟨q, b, h1, h3⟩
    · rw [if_neg hq] at h3
      by_cases hqn : q = n
      · subst hqn; exact Or.inl ⟨q, _, hcs, h3⟩
      · rw [h.low hq hqn] at h1
        exact Or.inl ⟨q, b, h1, h3⟩
  · rintro (⟨q, b, h1, h2⟩ | ⟨q, b, h1, h2⟩)
    · have hq := h.hf q (h.hk.names q b h1)
      have h3 : ((mergeMK kf w' puts μ m n t y).μ q).block = some C := by show (if _ then _ else _ : Loc).block = _; rw [if_neg hq]; exact h2
      by_cases hqn : q = n
      · subst hqn; exact ⟨q, _, h.at_n, h3⟩
      · exact ⟨q, b, by rw [h.low hq hqn]; exact h1, h3⟩
    · have hq := h.out h1
      exact ⟨q, b, by rw [h.high hq]; exact h1, by show (if _ then _ else _ : Loc).block = _; rw [if_pos hq]; exact h2⟩

theorem MergeM.ownB (h : MergeM N kf w' puts μ m n B t y) : kf.Own B := by
  obtain ⟨cs, hcs⟩ := h.hn
  exact ⟨n, _, hcs, by rw [h.hB]; rfl⟩

theorem MergeM.ext (h : MergeM N kf w' puts μ m n B t y) : Ext kf (mergeMK kf w' puts μ m n t y) where
  same := fun C hC hlt => h.same C (fun e => hC (e ▸ h.ownB)) hlt
  own := by
    intro C hC hlt
    rcases (h.own C).1 hC with ho | ho
    · exact ho
    · have := (h.hr.low C ho).1; omega
  size := h.hb.size
  u := fun q hq => Or.inl hq
  arr := fun q e xs hq hc => by
    have hr := h.hf q hq
    by_cases hqn : q = n
    · subst hqn; rw [h.at_n] at hc; cases hc
    · rw [h.low hr hqn] at hc
      exact ⟨xs, hc, rfl, if_neg hr⟩
  var := fun q cs hq hc => by
    have hr := h.hf q hq
    by_cases hqn : q = n
    · subst hqn
      obtain ⟨cs0, h0⟩ := h.hn
      exact ⟨cs0, h0, if_neg hr⟩
    · rw [h.low hr hqn] at hc
      exact ⟨cs, hc, if_neg hr⟩
  map := fun q kt vt xs hq hc => by
    have hr := h.hf q hq
    by_cases hqn : q = n
    · subst hqn; rw [h.at_n] at hc; cases hc
    · rw [h.low hr hqn] at hc
      exact ⟨xs, hc, if_neg hr⟩
  x := rfl

theorem MergeM.v (h : MergeM N kf w' puts μ m n B t y) {u : Ty} {x : u.den} {cs : List Value} (hv : VRel w' (Kx.O ⟨w', acts [] puts, μ, kf.nx + m, kf.O, fun q => q < kf.nx + m⟩) u x cs) : VRel w' (mergeMK kf w' puts μ m n t y).O u x cs := by
  refine VRel.mono (fun _ _ _ => rfl) (fun C hC _ => ?_) _ _ _ hv
  rcases hC with hC | hC
  · exact Or.inl (Or.inl hC)
  · rcases (h.own C).1 hC with hC | hC
    · exact Or.inl (Or.inr hC)
    · exact Or.inr hC

theorem MergeM.hrel (h : MergeM N kf w' puts μ m n B t y) : HRel N (mergeMK kf w' puts μ m n t y) := by
  have hx := h.ext
  have hμl : ∀ q, ¬ (kf.nx ≤ q ∧ q < kf.nx + m) → (mergeMK kf w' puts μ m n t y).μ q = kf.μ q := fun q hq => if_neg hq
  have hμh : ∀ q, kf.nx ≤ q ∧ q < kf.nx + m → (mergeMK kf w' puts μ m n t y).μ q = μ q := fun q hq => if_pos hq
  have lowB : ∀ q b C, hget kf.hp q = some b → (kf.μ q).block = some C → C < kf.w.heap.size := fun q b C h1 h2 => (h.hk.low C ⟨q, b, h1, h2⟩).2
  have highB : ∀ q b C, hget (acts [] puts) q = some b → (μ q).block = some C → kf.w.heap.size ≤ C := fun q b C h1 h2 => (h.hr.low C ⟨q, b, h1, h2⟩).1
  obtain ⟨cs0, hcs0⟩ := h.hn
  -- an old name, as it stood
  have old : ∀ q b, ¬ (kf.nx ≤ q ∧ q < kf.nx + m) → hget (mergeMK kf w' puts μ m n t y).hp q = some b → ∃ b0, hget kf.hp q = some b0 := by
    intro q b hq hb
    by_cases hqn : q = n
    · subst hqn; exact ⟨_, hcs0⟩
    · rw [h.low hq hqn] at hb; exact ⟨b, hb⟩
  refine ⟨fun q b hc => ?_, fun q p c d C hc hd h1 h2 => ?_, fun C hC => ?_, hx.xlow h.hk, hx.xown h.hk, fun q b hc => ?_⟩
  · by_cases hq : ¬ (kf.nx ≤ q ∧ q < kf.nx + m)
    · by_cases hqn : q = n
      · subst hqn
        rw [h.at_n] at hc
        simp only [Option.some.injEq] at hc
        subst hc
        obtain ⟨row', E', fz', g1, g2, g3⟩ := h.cont
        exact ⟨B, row', E', fz', (hμl q hq).trans h.hB, g1, g2, (flat_rel t y _).1 (h.v g3), .of (noSelf_flat t y)⟩
      · have hc' : hget kf.hp q = some b := by rw [← h.low hq hqn]; exact hc
        refine BRel.move hx (hμl q hq) (fun C hC => h.same C (fun e => ?_) (lowB q b C hc' hC)) (h.hk.blk q b hc')
        subst e
        exact hqn (h.hk.inj q n b _ C hc' hcs0 hC (by rw [h.hB]; rfl))
    · have hq := Decidable.not_not.1 hq
      have hc' : hget (acts [] puts) q = some b := by rw [← h.high hq]; exact hc
      have hbr := h.hr.blk q b hc'
      rcases acts_put_mem puts [] q b (fun a ha => by obtain ⟨n, e, xs, h1, _⟩ := h.hp a ha; exact ⟨n, _, h1⟩) hc' with hmem | hmem
      · obtain ⟨q', e, xs, he, _⟩ := h.hp _ hmem
        simp only [HAct.put.injEq] at he
        obtain ⟨_, rfl⟩ := he
        unfold BRel at hbr ⊢
        rw [hμh q hq]
        simp only at hbr ⊢
        cases hm : μ q with
        | none => rw [hm] at hbr; exact hbr
        | at_ B' o cap =>
          rw [hm] at hbr
          obtain ⟨row, E, fz, g1, g2, g3, g4, g5, g6⟩ := hbr
          exact ⟨row, E, fz, g1, g2, g3, g4, g5, fun i hi => h.v (g6 i hi)⟩
      · simp [hget] at hmem
  · by_cases hq : ¬ (kf.nx ≤ q ∧ q < kf.nx + m)
    · rw [hμl q hq] at h1
      obtain ⟨c0, hc0⟩ := old q c hq hc
      by_cases hp : ¬ (kf.nx ≤ p ∧ p < kf.nx + m)
      · rw [hμl p hp] at h2
        obtain ⟨d0, hd0⟩ := old p d hp hd
        exact h.hk.inj q p c0 d0 C hc0 hd0 h1 h2
      · have hp := Decidable.not_not.1 hp
        rw [hμh p hp] at h2
        rw [h.high hp] at hd
        have := lowB q c0 C hc0 h1
        have := highB p d C hd h2
        omega
    · have hq := Decidable.not_not.1 hq
      rw [hμh q hq] at h1
      rw [h.high hq] at hc
      by_cases hp : ¬ (kf.nx ≤ p ∧ p < kf.nx + m)
      · rw [hμl p hp] at h2
        obtain ⟨d0, hd0⟩ := old p d hp hd
        have := lowB p d0 C hd0 h2
        have := highB q c C hc h1
        omega
      · have hp := Decidable.not_not.1 hp
        rw [hμh p hp] at h2
        rw [h.high hp] at hd
        exact h.hr.inj q p c d C hc hd h1 h2
  · rcases (h.own C).1 hC with hC | hC
    · have := h.hk.low C hC
      exact ⟨this.1, Nat.lt_of_lt_of_le this.2 h.hb.size⟩
    · have h1 := h.hr.low C hC
      have h2 := h.hk.low B h.ownB
      refine ⟨?_, h1.2⟩
      have := h2.1
      have := h2.2
      have := h1.1
      omega
  · show kf.U q ∨ (kf.nx ≤ q ∧ q < kf.nx + m)
    by_cases hq : kf.nx ≤ q ∧ q < kf.nx + m
    · exact Or.inr hq
    · obtain ⟨b0, hb0⟩ := old q b hq hc
      exact Or.inl (h.hk.names q b0 hb0)

/-- A cell of the result's. -/
theorem MergeM.c (h : MergeM N kf w' puts μ m n B t y) {c : Cell} {v : Value} (hn : ∀ q ∈ namesOfCell c, kf.nx ≤ q ∧ q < kf.nx + m) (hs : (∃ u x, c = .val u x) ∨ (∃ q e, c = .own q e))
    (hc : CRel ⟨w', acts [] puts, μ, kf.nx + m, kf.O, fun q => q < kf.nx + m⟩ c v) : CRel (mergeMK kf w' puts μ m n t y) c v := by
  rcases hs with ⟨u, x, rfl⟩ | ⟨q, e, rfl⟩
  · exact h.v hc
  · have hq := hn q (by simp [namesOfCell])
    refine ⟨⟨Or.inr hq, hc.1.2⟩, fun xs hxs => ?_⟩
    rw [h.high hq] at hxs
    have := hc.2 xs hxs
    show Hdr (if kf.nx ≤ q ∧ q < kf.nx + m then μ q else kf.μ q) _ _ _ _
    rw [if_pos hq]
    exact this
end

/-! ### the result's make -/
theorem CRels.map {k k' : Kx} : ∀ {cs : List Cell} {vs : List Value}, (∀ c ∈ cs, ∀ v, CRel k c v → CRel k' c v) → CRels k cs vs → CRels k' cs vs := by
  intro cs
  induction cs with
  | nil => intro vs _ h; exact h
  | cons c cs ih =>
    intro vs hc h
    obtain ⟨v, r, e, h1, h2⟩ := h
    exact ⟨v, r, e, hc c (by simp) v h1, ih (fun d hd => hc d (by simp [hd])) h2⟩

theorem PRel.map {k k' : Kx} {agg : Bool} {cs : List Cell} {v : Value} (hc : ∀ c ∈ cs, ∀ v, CRel k c v → CRel k' c v) (h : PRel k agg cs v) : PRel k' agg cs v := by
  unfold PRel at *
  cases agg with
  | true => obtain ⟨vs, e, hv⟩ := h; exact ⟨vs, e, hv.map hc⟩
  | false => obtain ⟨c, e, hv⟩ := h; subst e; exact ⟨c, rfl, hv.imp id fun g => ⟨hc c (by simp) v g.1, g.2⟩⟩

theorem PRels.map {k k' : Kx} : ∀ {ps : List (Bool × List Cell)} {vs : List Value}, (∀ p ∈ ps, ∀ c ∈ p.2, ∀ v, CRel k c v → CRel k' c v) → PRels k ps vs → PRels k' ps vs := by
  intro ps
  induction ps with
  | nil => intro vs _ h; exact h
  | cons p ps ih =>
    intro vs hc h
    obtain ⟨v, r, e, h1, h2⟩ := h
    exact ⟨v, r, e, PRel.map (hc p (by simp)) h1, ih (fun q hq => hc q (by simp [hq])) h2⟩

theorem deal_mem : ∀ (ps : List (Bool × Nat)) (cs : List Cell), ∀ p ∈ deal ps cs, ∀ c ∈ p.2, c ∈ cs := by
  intro ps
  induction ps with
  | nil => intro cs p hp; cases hp
  | cons q ps ih =>
    intro cs p hp c hc
    obtain ⟨agg, n⟩ := q
    simp only [deal] at hp
    rcases List.mem_cons.1 hp with hp | hp
    · subst hp; exact List.mem_of_mem_take hc
    · exact List.mem_of_mem_drop (ih _ p hp c hc)

theorem ARel.res {k k' : Kx} {parts : List (Bool × Nat)} {cs : List Cell} {v : Value} (hc : ∀ c ∈ cs, ∀ v, CRel k c v → CRel k' c v) (h : ARel k (mkRes parts cs) v) : ARel k' (mkRes parts cs) v := by
  have mk : ∀ agg, ARel k (mkV agg cs) v → ARel k' (mkV agg cs) v := by
    intro agg h
    unfold mkV at *
    cases agg with
    | true => obtain ⟨vs, e, hv⟩ := h; exact ⟨vs, e, hv.map hc⟩
    | false =>
      match cs, hc, h with
      | [c], hc, h => exact h.imp id (hc c (by simp) v)
      | [], _, h => exact Or.inl rfl
      | _ :: _ :: _, _, h => exact Or.inl rfl
  have tup : ARel k (.tup (deal parts cs)) v → ARel k' (.tup (deal parts cs)) v := by
    rintro ⟨vs, e, hp⟩
    exact ⟨vs, e, PRels.map (fun p hp c hc' => hc c (deal_mem _ _ p hp c hc')) hp⟩
  unfold mkRes at *
  split at h
  · exact mk _ h
  · exact tup h

def isVal : Cell → Bool
  | .val _ _ => true
  | _ => false

def tyOfCell : Cell → Ty
  | .val t _ => t
  | _ => .unit

theorem flat_vals : ∀ (t : Ty) (x : t.den), (∀ c ∈ flat t x, isVal c = true) ∧ (flat t x).map tyOfCell = cellTys t := by
  intro t
  induction t with
  | pair a b iha ihb =>
    intro x
    refine ⟨fun c hc => ?_, by simp [flat, cellTys, (iha x.1).2, (ihb x.2).2]⟩
    rcases List.mem_append.1 hc with h | h
    · exact (iha _).1 c h
    · exact (ihb _).1 c h
  | unit => intro x; exact ⟨fun c hc => (by cases hc), rfl⟩
  | int k => intro x; exact ⟨fun c hc => by simp [flat] at hc; subst hc; rfl, rfl⟩
  | bool => intro x; exact ⟨fun c hc => by simp [flat] at hc; subst hc; rfl, rfl⟩
  | str => intro x; exact ⟨fun c hc => by simp [flat] at hc; subst hc; rfl, rfl⟩
  | slice e _ => intro x; exact ⟨fun c hc => by simp [flat] at hc; subst hc; rfl, rfl⟩
  | map k v _ _ => intro x; exact ⟨fun c hc => by simp [flat] at hc; subst hc; rfl, rfl⟩

theorem vals_names {cs : List Cell} (h : ∀ c ∈ cs, isVal c = true) : ∀ c ∈ cs, namesOfCell c = [] := by
  intro c hc
  have := h c hc
  cases c <;> first | rfl | (simp [isVal] at this)

theorem ownize_kinds : ∀ (own : List Nat) (cs : List Cell) (k nx : Nat), (∀ c ∈ cs, isVal c = true) →
    ∀ c ∈ (ownize own k nx cs).1, (∃ t x, c = .val t x) ∨ ∃ n e, c = .own n e := by
  intro own cs
  induction cs with
  | nil => intro k nx _ c hc; simp [ownize] at hc
  | cons d r ih =>
    intro k nx hv
    have hr : ∀ c ∈ r, isVal c = true := fun e he => hv e (by simp [he])
    have hd : ∃ t x, d = .val t x := by
      have := hv d (by simp)
      cases d <;> first | exact ⟨_, _, rfl⟩ | (simp [isVal] at this)
    have plain : ∀ c ∈ d :: (ownize own (k + 1) nx r).1, (∃ t x, c = .val t x) ∨ ∃ n e, c = .own n e := by
      intro c hc
      rcases List.mem_cons.1 hc with h | h
      · subst h; exact Or.inl hd
      · exact ih (k + 1) nx hr c h
    simp only [ownize]
    split
    · split
      · intro c hc
        rcases List.mem_cons.1 hc with h | h
        · subst h; exact Or.inr ⟨_, _, rfl⟩
        · exact ih (k + 1) (nx + 1) hr c h
      · exact plain
    · exact plain

theorem ownize_fresh : ∀ (own : List Nat) (cs : List Cell) (k nx : Nat), (∀ c ∈ cs, isVal c = true) → freshTy own k (cs.map tyOfCell) = true →
    (∀ t x, .val t x ∈ (ownize own k nx cs).1 → t.flatOnly = true) ∧ (∀ n e xs, .put n (.arr e xs) ∈ (ownize own k nx cs).2.1 → e.flatOnly = true) := by
  intro own cs
  induction cs with
  | nil => intro k nx _ _; exact ⟨fun t x h => by simp [ownize] at h, fun n e xs h => by simp [ownize] at h⟩
  | cons d r ih =>
    intro k nx hv hf
    have hr : ∀ c ∈ r, isVal c = true := fun e he => hv e (by simp [he])
    simp only [List.map_cons, freshTy, Bool.and_eq_true, Bool.or_eq_true] at hf
    obtain ⟨hf1, hf2⟩ := hf
    have plain : tyOfCell d |>.flatOnly → (∀ t x, .val t x ∈ d :: (ownize own (k + 1) nx r).1 → t.flatOnly = true) ∧ (∀ n e xs, .put n (.arr e xs) ∈ (ownize own (k + 1) nx r).2.1 → e.flatOnly = true) := by
      intro hd
      obtain ⟨h1, h2⟩ := ih (k + 1) nx hr hf2
      refine ⟨fun t x h => ?_, h2⟩
      rcases List.mem_cons.1 h with h | h
      · subst h; exact hd
      · exact h1 t x h
    simp only [ownize]
    split
    · rename_i hc
      split
      · rename_i e xs
        obtain ⟨h1, h2⟩ := ih (k + 1) (nx + 1) hr hf2
        have he : e.flatOnly = true := by
          rcases hf1 with h | h
          · simp [tyOfCell, Ty.flatOnly] at h
          · exact h.2
        refine ⟨fun t x h => ?_, fun n e' xs' h => ?_⟩
        · rcases List.mem_cons.1 h with h | h
          · cases h
          · exact h1 t x h
        · rcases List.mem_cons.1 h with h | h
          · simp only [HAct.put.injEq, Blk.arr.injEq] at h; obtain ⟨_, rfl, _⟩ := h; exact he
          · exact h2 n e' xs' h
      · rename_i c' hne
        refine plain ?_
        rcases hf1 with h | h
        · exact h
        · exfalso
          have := hv d (by simp)
          cases d with
          | val t x =>
            cases t with
            | slice e => exact hne _ _ rfl
            | _ => simp [tyOfCell] at h
          | _ => simp [isVal] at this
    · rename_i hc
      refine plain ?_
      rcases hf1 with h | h
      · exact h
      · exact absurd h.1 (by simpa using hc)

end Go.Ab
