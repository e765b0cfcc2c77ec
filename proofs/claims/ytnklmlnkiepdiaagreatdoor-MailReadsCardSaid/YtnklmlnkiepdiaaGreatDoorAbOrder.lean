/-
  A REGION: its operations in the order that they are listed in, and in any order that is let.
-/
import Derived.Test.YtnklmlnkiepdiaaGreatDoorAbOne
import Derived.Still
import Derived.StillTail
set_option linter.unusedVariables false
set_option linter.unusedSectionVars false
set_option linter.unusedSimpArgs false
namespace Go.Ab
variable [Tabs]
open Go.RowKit (Below)

/-- a run of operations -/
def Path (C : Ctx) (ops : Array Oper) : Tr → St → St → Prop
  | [], σ, σf => σ = σf
  | x :: r, σ, σf => ∃ σ', oneR C ops x.2.1 σ = some (x.2.2, σ') ∧ Path C ops r σ' σf

def Fit (b : Bool) (ops : Array Oper) (m : List Nat) (x y : Nat × Oper × Foot) : Prop := (m.getD y.1 0).testBit x.1 = true ∨ (Oper.apart ops x.2.1 y.2.1 = true ∧ (if b = true then pairs x.2.2 y.2.2 else compat x.2.2 y.2.2) = true)

theorem fitsTr_iff {b : Bool} {ops : Array Oper} {m : List Nat} {j : Nat} {o : Oper} {f : Foot} {tr : Tr} : fitsTr b ops (m.getD j 0) o f tr = true ↔ (b = true → f.here = true) ∧ ∀ x ∈ tr, Fit b ops m x (j, o, f) := by
  simp only [fitsTr, List.all_eq_true, Fit, Bool.or_eq_true, Bool.and_eq_true, Bool.not_eq_true']
  refine and_congr ?_ Iff.rfl
  cases b <;> simp

/-- What an abstract run of a region says. -/
theorem opsR_path {C : Ctx} (hC : NatCtx C) {ops : Array Oper} {ms : Option (Bool × List Nat)} {q : Bool} : ∀ (l : List Oper) (j : Nat) (tr : Tr) (σ σf : St), opsR C ops ms q l j tr σ = some σf →
    ∃ L : Tr, L.map (fun x => x.2.1) = l ∧ L.map (fun x => x.1) = List.range' j l.length ∧ Path C ops L σ σf ∧ (q = true → ∀ x ∈ L, x.2.2.isStill = true) ∧
      ∀ b m, ms = some (b, m) → L.Pairwise (Fit b ops m) ∧ (∀ x ∈ tr, ∀ y ∈ L, Fit b ops m x y) ∧ (b = true → ∀ x ∈ L, x.2.2.here = true) := by
  intro l
  induction l with
  | nil =>
    intro j tr σ σf h
    simp only [opsR, denOps, Option.some.injEq] at h
    exact ⟨[], rfl, rfl, h, fun _ x hx => by (cases hx), fun b m _ => ⟨List.Pairwise.nil, fun x _ y hy => (by cases hy), fun _ x hx => (by cases hx)⟩⟩
  | cons o r ih =>
    intro j tr σ σf h
    unfold opsR at h
    simp only [denOps] at h
    rw [oneA_nat hC] at h
    cases h1 : oneR C ops o σ with
    | none => rw [h1] at h; cases h
    | some p =>
      obtain ⟨f, σ'⟩ := p
      rw [h1] at h
      simp only [bindO_some] at h
      cases hq : (!q || f.isStill) with
      | false => rw [hq] at h; cases h
      | true =>
        rw [hq] at h
        simp only [gate_true] at h
        have hqs : q = true → f.isStill = true := by intro e; rw [e] at hq; simpa using hq
        cases ms with
        | none =>
          simp only at h
          obtain ⟨L, e1, e2, e3, e4, e5⟩ := ih (j + 1) tr σ' σf h
          refine ⟨(j, o, f) :: L, by simp [e1], by simp [e2, List.range'_succ], ⟨σ', h1, e3⟩, fun hq x hx => ?_, fun b m hm => by cases hm⟩
          rcases List.mem_cons.1 hx with hx | hx
          · subst hx; exact hqs hq
          · exact e4 hq x hx
        | some bm =>
          obtain ⟨b, m⟩ := bm
          simp only at h
          cases hft : fitsTr b ops (m.getD j 0) o f tr with
          | false => rw [hft] at h; cases h
          | true =>
            rw [hft] at h
            simp only [gate_true] at h
            obtain ⟨L, e1, e2, e3, e4, e5⟩ := ih (j + 1) ((j, o, f) :: tr) σ' σf h
            obtain ⟨g1, g2, g3⟩ := e5 b m rfl
            obtain ⟨t1, t2⟩ := fitsTr_iff.1 hft
            refine ⟨(j, o, f) :: L, by simp [e1], by simp [e2, List.range'_succ], ⟨σ', h1, e3⟩, fun hq x hx => ?_, fun b' m' hm => ?_⟩
            · rcases List.mem_cons.1 hx with hx | hx
              · subst hx; exact hqs hq
              · exact e4 hq x hx
            · simp only [Option.some.injEq, Prod.mk.injEq] at hm
              obtain ⟨rfl, rfl⟩ := hm
              refine ⟨List.Pairwise.cons (fun y hy => g2 _ (by simp) y hy) g1, fun x hx y hy => ?_, fun hb x hx => ?_⟩
              · rcases List.mem_cons.1 hy with hy | hy
                · subst hy; exact t2 x hx
                · exact g2 x (by simp [hx]) y hy
              · rcases List.mem_cons.1 hx with hx | hx
                · subst hx; exact t1 hb
                · exact g3 hb x hx

/-! ### in the order of the list -/
structure Kept (l : List Oper) (a a' : Act) : Prop where
  other : ∀ i, (∀ o ∈ l, o.dst ≠ some i) → a'.tmps.getD i undef = a.tmps.getD i undef
  size : a'.tmps.size = a.tmps.size

theorem Kept.refl (l : List Oper) (a : Act) : Kept l a a := ⟨fun _ _ => rfl, rfl⟩

theorem list_sound {C : Ctx} (hC : CtxOK C) {r : Option Nat} {N : Nat} {k0 : Kx} {ops : Array Oper} {Q : Exit → Act → World → Prop} : ∀ (L : Tr) (σ σf : St) (k : Kx) (a : Act), Path C ops L σ σf → Rel N k0 σ k a →
    (∀ k' a', Rel N k0 σf k' a' → WExt k k' → Kept (L.map fun x => x.2.1) a a' → Q .normal a' k'.w) → wpListIn (fR r) 0 C.E.P ops Q (L.map fun x => x.2.1) a k.w := by
  intro L
  induction L with
  | nil =>
    intro σ σf k a hp hR hQ
    have hp : σ = σf := hp
    subst hp
    exact hQ k a hR (WExt.refl k) (Kept.refl _ _)
  | cons x rest ih =>
    intro σ σf k a hp hR hQ
    obtain ⟨σ', h1, h2⟩ := hp
    simp only [List.map_cons, wpListIn]
    have := one_sound hC (r := r) hR h1 (K := wpListIn (fR r) 0 C.E.P ops Q (rest.map fun x => x.2.1)) (Q := Q) fun k' a' hR' hW hu => by
      refine ih σ' σf k' a' h2 hR' fun k'' a'' hR'' hW' hu' => hQ k'' a'' hR'' (hW.trans hW') ⟨fun i hi => ?_, hu'.size.trans hu.size⟩
      rw [hu'.other i (fun o ho => hi o (by simp only [List.map_cons, List.mem_cons]; exact Or.inr ho)), hu.other i (hi _ (by simp))]
    split
    · rename_i hw; rw [if_pos hw] at this; exact this
    · rename_i hw; rw [if_neg hw] at this; exact ⟨fun f _ => fR_fn r f, this⟩

/-! ### in any order -/
theorem path_move {C : Ctx} (hC : NatCtx C) {ops : Array Oper} {x : Nat × Oper × Foot} : ∀ (L1 : Tr) (L2 : Tr) (σ σf : St), Path C ops (L1 ++ x :: L2) σ σf → (∀ y ∈ L1, Oper.apart ops y.2.1 x.2.1 = true ∧ compat y.2.2 x.2.2 = true) → Path C ops (x :: (L1 ++ L2)) σ σf := by
  intro L1
  induction L1 with
  | nil => intro L2 σ σf h _; exact h
  | cons y r ih =>
    intro L2 σ σf h hc
    obtain ⟨σ1, h1, h2⟩ := h
    obtain ⟨σ2, h3, h4⟩ := ih L2 σ1 σf h2 (fun z hz => hc z (by simp [hz]))
    obtain ⟨c1, c2⟩ := hc y (by simp)
    obtain ⟨σ1', g1, g2⟩ := swap hC h1 h3 c1 c2
    exact ⟨σ1', g1, σ2, g2, h4⟩

theorem masks_spec {ms : List Nat} : ∀ (l : List Oper) (j : Nat), masksOK ms j l = true → ∀ i o, l[i]? = some o → (∀ e ∈ o.after, Region.binds .any e = true → e.on < j + i) ∧ maskOf ms o = ms.getD (j + i) 0 := by
  intro l
  induction l with
  | nil => intro j _ i o h; simp at h
  | cons a r ih =>
    intro j h i o ho
    simp only [masksOK, Bool.and_eq_true, List.all_eq_true, Bool.or_eq_true, Bool.not_eq_true', decide_eq_true_eq] at h
    obtain ⟨⟨h1, h2⟩, h3⟩ := h
    cases i with
    | zero =>
      simp only [List.getElem?_cons_zero, Option.some.injEq] at ho
      subst ho
      exact ⟨fun e he hb => (h1 e (by simpa using he)).resolve_left (by rw [hb]; simp), h2⟩
    | succ i =>
      simp only [List.getElem?_cons_succ] at ho
      have := ih (j + 1) h3 i o ho
      rw [show j + 1 + i = j + (i + 1) by omega] at this
      exact this

theorem mask_bit {ms : List Nat} {i : Nat} : ∀ (es : List Edge) (m : Nat), (es.foldl (fun m e => if Region.binds .any e then m ||| ((1 <<< e.on) ||| ms.getD e.on 0) else m) m).testBit i = true →
    m.testBit i = true ∨ ∃ e ∈ es, Region.binds .any e = true ∧ (i = e.on ∨ (ms.getD e.on 0).testBit i = true) := by
  intro es
  induction es with
  | nil => intro m h; exact Or.inl h
  | cons e r ih =>
    intro m h
    simp only [List.foldl_cons] at h
    rcases ih _ h with h | ⟨e', he', h'⟩
    · by_cases hb : Region.binds .any e = true
      · rw [if_pos hb] at h
        simp only [Nat.testBit_or, Bool.or_eq_true] at h
        rcases h with h | h | h
        · exact Or.inl h
        · refine Or.inr ⟨e, by simp, hb, Or.inl ?_⟩
          simp only [Nat.testBit_shiftLeft, Bool.and_eq_true, decide_eq_true_eq] at h
          have := h.2
          rw [Nat.testBit_one_eq_true_iff_self_eq_zero] at this
          omega
        · exact Or.inr ⟨e, by simp, hb, Or.inr h⟩
      · rw [if_neg hb] at h; exact Or.inl h
    · exact Or.inr ⟨e', by simp [he'], h'⟩

/-- What has been done stands on what has been done. -/
def Closed (ops : Array Oper) (listed : Array Bool) : Prop :=
  ∀ j o, ops[j]? = some o → listed.getD j false = true → ∀ e ∈ o.after, Region.binds .any e = true → listed.getD e.on false = true

theorem mask_listed {ops : Array Oper} {ms : List Nat} {listed : Array Bool} (hs : listed.size = ops.size) (hm : masksOK ms 0 ops.toList = true) (hc : Closed ops listed) : ∀ (j : Nat) (o : Oper), ops[j]? = some o →
    (∀ e ∈ o.after, Region.binds .any e = true → listed.getD e.on false = true) → ∀ i, (ms.getD j 0).testBit i = true → listed.getD i false = true := by
  intro j
  induction j using Nat.strongRecOn with
  | _ j ih =>
    intro o ho hl i hi
    have hsp := masks_spec ops.toList 0 hm j o (by simpa using ho)
    simp only [Nat.zero_add] at hsp
    rw [← hsp.2] at hi
    rcases mask_bit _ _ hi with h | ⟨e, he, hb, h⟩
    · simp at h
    · have he' : e ∈ o.after := by simpa using he
      have hon := hl e he' hb
      rcases h with h | h
      · rw [h]; exact hon
      · have hlt : e.on < ops.size := by
          rcases Nat.lt_or_ge e.on listed.size with h' | h'
          · omega
          · simp [Array.getElem?_eq_none h'] at hon
        exact ih e.on (hsp.1 e he' hb) ops[e.on] (by simp [hlt]) (hc e.on _ (by simp [hlt]) hon) i h

structure Left (b : Bool) (ops : Array Oper) (ms : List Nat) (listed : Array Bool) (L : Tr) : Prop where
  size : listed.size = ops.size
  closed : Closed ops listed
  mem : ∀ x ∈ L, ops[x.1]? = some x.2.1 ∧ listed.getD x.1 true = false
  all : ∀ j, listed.getD j true = false → ∃ x ∈ L, x.1 = j
  sorted : L.Pairwise fun x y => x.1 < y.1
  fit : L.Pairwise (Fit b ops ms)

theorem getD_false {listed : Array Bool} {j : Nat} (h : listed.getD j true = false) : listed.getD j false = false ∧ j < listed.size := by
  rcases Nat.lt_or_ge j listed.size with h' | h'
  · simp [h'] at h ⊢; exact h
  · simp [Array.getElem?_eq_none h'] at h

theorem any_sound {C : Ctx} (hC : CtxOK C) {r : Option Nat} {N : Nat} {k0 : Kx} {ops : Array Oper} {ms : List Nat} (hm : masksOK ms 0 ops.toList = true) {Q : Exit → Act → World → Prop} :
    ∀ (n : Nat) (listed : Array Bool) (L : Tr) (σ σf : St) (k : Kx) (a : Act), L.length = n → Left false ops ms listed L → Path C ops L σ σf → Rel N k0 σ k a →
    (∀ k' a', Rel N k0 σf k' a' → WExt k k' → Kept ops.toList a a' → Q .normal a' k'.w) → wpAnyIn (fR r) 0 C.E.P .any ops Q n listed a k.w := by
  intro n
  induction n with
  | zero =>
    intro listed L σ σf k a hn hL hp hR hQ
    have hL0 : L = [] := List.eq_nil_of_length_eq_zero hn
    subst hL0
    have hp : σ = σf := hp
    subst hp
    refine ⟨?_, hQ k a hR (WExt.refl k) (Kept.refl _ _)⟩
    apply List.eq_nil_iff_forall_not_mem.2
    intro j hj
    obtain ⟨h1, _⟩ := mem_ready.1 hj
    obtain ⟨x, hx, _⟩ := hL.all j h1
    cases hx
  | succ n ih =>
    intro listed L σ σf k a hn hL hp hR hQ
    refine ⟨fun hr => ?_, fun i hi => ?_⟩
    · -- the first of what is left is ready
      exfalso
      cases L with
      | nil => simp at hn
      | cons x r =>
        obtain ⟨hx1, hx2⟩ := hL.mem x (by simp)
        have hsp := masks_spec ops.toList 0 hm x.1 x.2.1 (by simpa using hx1)
        simp only [Nat.zero_add] at hsp
        have : x.1 ∈ Region.ready .any ops listed := by
          refine mem_ready.2 ⟨hx2, x.2.1, hx1, fun e he hb => ?_⟩
          have hlt := hsp.1 e he hb
          have hxs := (getD_false hx2).2
          cases hle : listed.getD e.on false with
          | true => rfl
          | false =>
            have hin : e.on < listed.size := by omega
            obtain ⟨y, hy, hy1⟩ := hL.all e.on (getD_in hin hle)
            rcases List.mem_cons.1 hy with h | h
            · subst h; omega
            · have := (List.pairwise_cons.1 hL.sorted).1 y h
              omega
        rw [hr] at this
        cases this
    · obtain ⟨h1, o, ho, hall⟩ := mem_ready.1 hi
      obtain ⟨x, hx, hxi⟩ := hL.all i h1
      obtain ⟨L1, L2, rfl⟩ := List.append_of_mem hx
      obtain ⟨hx1, hx2⟩ := hL.mem x hx
      have hxo : x.2.1 = o := by rw [hxi, ho] at hx1; exact (Option.some.inj hx1).symm
      have hcomp : ∀ y ∈ L1, Oper.apart ops y.2.1 x.2.1 = true ∧ compat y.2.2 x.2.2 = true := by
        intro y hy
        have hfit : Fit false ops ms y x := (List.pairwise_append.1 hL.fit).2.2 y hy x (by simp)
        rcases hfit with h | h
        · exfalso
          have hy2 := (hL.mem y (by simp [hy])).2
          have := mask_listed hL.size hm hL.closed i o ho hall y.1 (by rw [← hxi]; exact h)
          rw [(getD_false hy2).1] at this
          cases this
        · exact h
      obtain ⟨σ', g1, g2⟩ := path_move hC.nat L1 L2 σ σf hp hcomp
      have key := one_sound hC (r := r) hR g1 (K := wpAnyIn (fR r) 0 C.E.P .any ops Q n (listed.setIfInBounds i true)) (Q := Q) fun k' a' hR' hW hu => by
        have hsub : (L1 ++ L2).Sublist (L1 ++ x :: L2) := List.Sublist.append_left (List.sublist_cons_self x L2) L1
        refine ih (listed.setIfInBounds i true) (L1 ++ L2) σ' σf k' a' (by simp at hn ⊢; omega) ?_ g2 hR' fun k'' a'' hR'' hW' hu' => hQ k'' a'' hR'' (hW.trans hW') ⟨fun q hq => ?_, hu'.size.trans hu.size⟩
        · have hne : ∀ y ∈ L1 ++ L2, y.1 ≠ x.1 := by
            intro y hy
            have hs := List.pairwise_append.1 hL.sorted
            rcases List.mem_append.1 hy with h | h
            · exact Nat.ne_of_lt (hs.2.2 y h x (by simp))
            · exact Nat.ne_of_gt ((List.pairwise_cons.1 hs.2.1).1 y h)
          refine ⟨by simp [hL.size], fun j oj hj hl e he hb => ?_, fun y hy => ?_, fun j hj => ?_, hL.sorted.sublist hsub, hL.fit.sublist hsub⟩
          · by_cases hji : i = j
            · subst hji
              have : oj = o := Option.some.inj (hj.symm.trans ho)
              subst this
              exact getD_set_true (hall e he hb)
            · rw [getD_set_ne false hji] at hl
              exact getD_set_true (hL.closed j oj hj hl e he hb)
          · obtain ⟨q1, q2⟩ := hL.mem y (hsub.subset hy)
            refine ⟨q1, ?_⟩
            rw [getD_set_ne true (fun e => hne y hy (by rw [hxi, e]))]
            exact q2
          · by_cases hji : i = j
            · subst hji
              have hlt := (getD_false h1).2
              simp [hlt] at hj
            · rw [getD_set_ne true hji] at hj
              obtain ⟨y, hy, hyj⟩ := hL.all j hj
              refine ⟨y, ?_, hyj⟩
              rcases List.mem_append.1 hy with h | h
              · exact List.mem_append_left _ h
              · rcases List.mem_cons.1 h with h | h
                · subst h; exact absurd (hxi.symm.trans hyj) hji
                · exact List.mem_append_right _ h
        · rw [hu'.other q hq]
          refine hu.other q ?_
          refine hq x.2.1 ?_
          rw [hxo]
          exact Array.mem_toList_iff.2 (Array.mem_of_getElem? ho)
      unfold wpOpIn
      simp only [ho]
      rw [hxo] at key
      split
      · rename_i hw; rw [if_pos hw] at key; exact key
      · rename_i hw; rw [if_neg hw] at key; exact ⟨fun f _ => fR_fn r f, key⟩

/-! ### regions -/
theorem Rel.drawn {N : Nat} {k0 : Kx} {σ : St} {k : Kx} {a : Act} (h : Rel N k0 σ k a) (d : Nat) : Rel N k0 σ { k with w := { k.w with drawn := d } } a ∧ WExt k { k with w := { k.w with drawn := d } } := by
  have hx : Ext k { k with w := { k.w with drawn := d } } := ⟨fun _ _ _ => rfl, fun _ h _ => h, Nat.le_refl _, fun _ h => h, fun n e xs _ h => ⟨xs, h, rfl, rfl⟩, fun n cs _ h => ⟨cs, h, rfl⟩, fun n kt vt xs _ h => ⟨xs, h, rfl⟩, rfl⟩
  refine ⟨⟨⟨h.hp, h.nx, ?_, hx.f h.f, h.ext.trans hx, h.room, h.below.trans ⟨rfl, rfl, rfl, Nat.le_refl _, fun _ _ => rfl⟩, h.defers.next hx.wext⟩, h.u⟩, hx.wext⟩
  refine ⟨fun n b hb => BRel.move hx rfl (fun _ _ => rfl) (h.h.blk n b hb), h.h.inj, h.h.low, hx.xlow h.h, h.h.xown, h.h.names⟩

/-! ### in any order, where several may change blocks -/
abbrev PTr := List ((Nat × Oper × Foot) × (Nat × Nat))

/-- a run of operations, each with the names that it gives; the end is the same but for the blocks' order -/
def PathP (C : Ctx) (ops : Array Oper) : PTr → St → St → Prop
  | [], σ, σf => Alike2 σ σf
  | x :: r, σ, σf => ∃ σ', oneR C ops x.1.2.1 { σ with nx := x.2.1 } = some (x.1.2.2, σ') ∧ σ'.nx = x.2.2 ∧ PathP C ops r σ' σf

theorem Alike2.trans {σ σ' σ'' : St} (h : Alike2 σ σ') (h' : Alike2 σ' σ'') : Alike2 σ σ'' := ⟨h'.fr.trans h.fr, fun n => (h'.hp n).trans (h.hp n)⟩
theorem Alike2.symm {σ σ' : St} (h : Alike2 σ σ') : Alike2 σ' σ := ⟨h.fr.symm, fun n => (h.hp n).symm⟩

theorem pathP_same {C : Ctx} (hC : NatCtx C) {ops : Array Oper} : ∀ (L : PTr) (σ σ' σf : St), (∀ x ∈ L, x.1.2.2.here = true) → Alike2 σ σ' → PathP C ops L σ σf → PathP C ops L σ' σf := by
  intro L
  induction L with
  | nil => intro σ σ' σf _ ha h; exact ha.symm.trans h
  | cons x r ih =>
    intro σ σ' σf hh ha h
    obtain ⟨σ1, h1, h2, h3⟩ := h
    obtain ⟨σ1', g1, g2, g3⟩ := one_same hC h1 (hh x (by simp)) ha
    exact ⟨σ1', g1, g3.trans h2, ih σ1 σ1' σf (fun y hy => hh y (by simp [hy])) g2 h3⟩

theorem pathP_move {C : Ctx} (hC : NatCtx C) {ops : Array Oper} {x : (Nat × Oper × Foot) × (Nat × Nat)} : ∀ (L1 : PTr) (L2 : PTr) (σ σf : St), (∀ y ∈ L1 ++ x :: L2, y.1.2.2.here = true) → PathP C ops (L1 ++ x :: L2) σ σf →
    (∀ y ∈ L1, Oper.apart ops y.1.2.1 x.1.2.1 = true ∧ pairs y.1.2.2 x.1.2.2 = true) → PathP C ops (x :: (L1 ++ L2)) σ σf := by
  intro L1
  induction L1 with
  | nil => intro L2 σ σf _ h _; exact h
  | cons y r ih =>
    intro L2 σ σf hh h hc
    obtain ⟨σ1, h1, hn1, h2⟩ := h
    obtain ⟨σ2, h3, hn2, h4⟩ := ih L2 σ1 σf (fun z hz => hh z (by simp only [List.cons_append, List.mem_cons]; exact Or.inr hz)) h2 (fun z hz => hc z (by simp [hz]))
    obtain ⟨c1, c2⟩ := hc y (by simp)
    obtain ⟨σ1', σ2', g1, g2, g3, g4, g5⟩ := swap2 hC h1 h3 (hh y (by simp)) (hh x (by simp)) c1 c2
    refine ⟨σ1', g1, g4.trans hn2, σ2', g2, g5.trans hn1, ?_⟩
    exact pathP_same hC (r ++ L2) σ2 σ2' σf (fun z hz => hh z (by
      simp only [List.cons_append, List.mem_cons]
      refine Or.inr ?_
      rcases List.mem_append.1 hz with hz | hz
      · exact List.mem_append_left _ hz
      · exact List.mem_append_right _ (by simp [hz]))) g3 h4

/-- The run in the order of the list, with its names. -/
theorem path_names {C : Ctx} (hC : NatCtx C) {ops : Array Oper} : ∀ (L : Tr) (σ σf : St), Path C ops L σ σf → (∀ x ∈ L, x.2.2.here = true) →
    σ.nx ≤ σf.nx ∧ ∃ P : PTr, P.map (·.1) = L ∧ PathP C ops P σ σf ∧ P.Pairwise (fun x y => x.2.2 ≤ y.2.1) ∧ ∀ x ∈ P, σ.nx ≤ x.2.1 ∧ x.2.1 ≤ x.2.2 ∧ x.2.2 ≤ σf.nx := by
  intro L
  induction L with
  | nil =>
    intro σ σf h _
    have h : σ = σf := h
    subst h
    exact ⟨Nat.le_refl _, [], rfl, ⟨rfl, fun _ => rfl⟩, List.Pairwise.nil, fun x hx => by cases hx⟩
  | cons x r ih =>
    intro σ σf h hh
    obtain ⟨σ', h1, h2⟩ := h
    obtain ⟨g0, P, g1, g2, g3, g4⟩ := ih σ' σf h2 (fun y hy => hh y (by simp [hy]))
    obtain ⟨_, _, _, _, hle, _⟩ := step_local hC h1 (hh x (by simp))
    refine ⟨Nat.le_trans hle g0, (x, (σ.nx, σ'.nx)) :: P, by simp [g1], ⟨σ', h1, rfl, g2⟩, List.Pairwise.cons (fun y hy => (g4 y hy).1) g3, fun y hy => ?_⟩
    rcases List.mem_cons.1 hy with hy | hy
    · subst hy; exact ⟨Nat.le_refl _, hle, g0⟩
    · obtain ⟨q1, q2, q3⟩ := g4 y hy
      exact ⟨Nat.le_trans hle q1, q2, q3⟩

theorem renum_ext (k : Kx) (m : Nat) : Ext k { k with nx := m } :=
  ⟨fun _ _ _ => rfl, fun _ h _ => h, Nat.le_refl _, fun _ h => h, fun n e xs _ h => ⟨xs, h, rfl, rfl⟩, fun n cs _ h => ⟨cs, h, rfl⟩, fun n kt vt xs _ h => ⟨xs, h, rfl⟩, rfl⟩

theorem RelA.renum {N : Nat} {k0 : Kx} {σ : St} {k : Kx} {a : Act} (h : RelA N k0 σ k a) (m : Nat) : RelA N k0 { σ with nx := m } { k with nx := m } a :=
  have hx := renum_ext k m
  ⟨h.hp, rfl, ⟨fun n b hb => BRel.move hx rfl (fun _ _ => rfl) (h.h.blk n b hb), h.h.inj, h.h.low, hx.xlow h.h, h.h.xown, h.h.names⟩, hx.f h.f, h.ext.trans hx, h.room, h.below, h.defers.next hx.wext⟩

theorem rehp_ext {k : Kx} {hp : Hp} (h : ∀ n, hget hp n = hget k.hp n) : Ext k { k with hp := hp } :=
  ⟨fun _ _ _ => rfl, fun B ⟨n, b, h1, h2⟩ _ => ⟨n, b, by rw [← h n]; exact h1, h2⟩, Nat.le_refl _, fun _ h => h, fun n e xs _ h1 => ⟨xs, by rw [← h n]; exact h1, rfl, rfl⟩, fun n cs _ h1 => ⟨cs, by rw [← h n]; exact h1, rfl⟩, fun n kt vt xs _ h1 => ⟨xs, by rw [← h n]; exact h1, rfl⟩, rfl⟩

theorem RelA.rehp {N : Nat} {k0 : Kx} {σ : St} {k : Kx} {a : Act} (h : RelA N k0 σ k a) {hp : Hp} (hh : ∀ n, hget hp n = hget σ.hp n) : RelA N k0 { σ with hp := hp } { k with hp := hp } a := by
  have hh' : ∀ n, hget hp n = hget k.hp n := fun n => by rw [h.hp]; exact hh n
  have hx := rehp_ext hh'
  have hown : ∀ B, Kx.Own { k with hp := hp } B → k.Own B := fun B ⟨n, b, h1, h2⟩ => ⟨n, b, by rw [← hh' n]; exact h1, h2⟩
  exact ⟨rfl, h.nx, ⟨fun n b hb => BRel.move hx rfl (fun _ _ => rfl) (h.h.blk n b (by rw [← hh' n]; exact hb)),
    fun n m b c B h1 h2 h3 h4 => h.h.inj n m b c B (by rw [← hh' n]; exact h1) (by rw [← hh' m]; exact h2) h3 h4, fun B hB => h.h.low B (hown B hB), h.h.xlow, fun B hX hO => h.h.xown B hX (hown B hO), fun n b hb => h.h.names n b (by rw [← hh' n]; exact hb)⟩,
    hx.f h.f, h.ext.trans hx, h.room, h.below, h.defers.next hx.wext⟩

theorem anyP_sound {C : Ctx} (hC : CtxOK C) {r : Option Nat} {N : Nat} {k0 : Kx} {ops : Array Oper} {ms : List Nat} (hm : masksOK ms 0 ops.toList = true) {Q : Exit → Act → World → Prop} :
    ∀ (n : Nat) (listed : Array Bool) (L : PTr) (σ σf : St) (k : Kx) (a : Act), L.length = n → Left true ops ms listed (L.map (·.1)) → PathP C ops L σ σf → (∀ x ∈ L, x.1.2.2.here = true) → L.Pairwise (fun x y => x.2.2 ≤ y.2.1) → (∀ x ∈ L, x.2.1 ≤ x.2.2 ∧ x.2.2 ≤ σf.nx) →
    (∀ x ∈ L, ∀ n, k.U n → ¬ (x.2.1 ≤ n ∧ n < x.2.2)) → Rel N k0 { σ with nx := σf.nx } k a →
    (∀ k' a', Rel N k0 σf k' a' → WExt k k' → Kept ops.toList a a' → Q .normal a' k'.w) → wpAnyIn (fR r) 0 C.E.P .any ops Q n listed a k.w := by
  intro n
  induction n with
  | zero =>
    intro listed L σ σf k a hn hL hp _ _ _ _ hR hQ
    have hL0 : L = [] := List.eq_nil_of_length_eq_zero hn
    subst hL0
    have hp : Alike2 σ σf := hp
    refine ⟨?_, ?_⟩
    · apply List.eq_nil_iff_forall_not_mem.2
      intro j hj
      obtain ⟨h1, _⟩ := mem_ready.1 hj
      obtain ⟨x, hx, _⟩ := hL.all j h1
      cases hx
    · have h1 := hR.toRelA.rehp (hp := σf.hp) hp.hp
      have e : ({ fr := σ.fr, hp := σf.hp, nx := σf.nx } : St) = σf := by rw [← hp.fr]
      have h2 : RelA N k0 σf { k with hp := σf.hp } a := by rw [← e]; exact h1
      exact hQ { k with hp := σf.hp } a ⟨h2, hR.u⟩ (rehp_ext (fun n => by rw [hR.hp]; exact hp.hp n)).wext (Kept.refl _ _)
  | succ n ih =>
    intro listed L σ σf k a hn hL hp hh hpw hrg hU hR hQ
    refine ⟨fun hr => ?_, fun i hi => ?_⟩
    · exfalso
      cases L with
      | nil => simp at hn
      | cons x r =>
        obtain ⟨hx1, hx2⟩ := hL.mem x.1 (by simp)
        have hsp := masks_spec ops.toList 0 hm x.1.1 x.1.2.1 (by simpa using hx1)
        simp only [Nat.zero_add] at hsp
        have : x.1.1 ∈ Region.ready .any ops listed := by
          refine mem_ready.2 ⟨hx2, x.1.2.1, hx1, fun e he hb => ?_⟩
          have hlt := hsp.1 e he hb
          have hxs := (getD_false hx2).2
          cases hle : listed.getD e.on false with
          | true => rfl
          | false =>
            have hin : e.on < listed.size := by omega
            obtain ⟨y, hy, hy1⟩ := hL.all e.on (getD_in hin hle)
            rcases List.mem_cons.1 hy with h | h
            · have h : y = x.1 := h
              subst h; omega
            · have : x.1.1 < y.1 := (List.pairwise_cons.1 hL.sorted).1 y h
              omega
        rw [hr] at this
        cases this
    · obtain ⟨h1, o, ho, hall⟩ := mem_ready.1 hi
      obtain ⟨x', hx', hxi'⟩ := hL.all i h1
      obtain ⟨x, hx, rfl⟩ := List.mem_map.1 hx'
      have hxi : x.1.1 = i := hxi'
      obtain ⟨L1, L2, rfl⟩ := List.append_of_mem hx
      obtain ⟨hx1, hx2⟩ := hL.mem x.1 hx'
      have hxo : x.1.2.1 = o := by rw [hxi, ho] at hx1; exact (Option.some.inj hx1).symm
      have hLfit : (L1.map (·.1) ++ x.1 :: L2.map (·.1)).Pairwise (Fit true ops ms) := by have := hL.fit; simpa using this
      have hLsort : (L1.map (·.1) ++ x.1 :: L2.map (·.1)).Pairwise (fun x y : Nat × Oper × Foot => x.1 < y.1) := by have := hL.sorted; simpa using this
      have hcomp : ∀ y ∈ L1, Oper.apart ops y.1.2.1 x.1.2.1 = true ∧ pairs y.1.2.2 x.1.2.2 = true := by
        intro y hy
        have hfit : Fit true ops ms y.1 x.1 := (List.pairwise_append.1 hLfit).2.2 y.1 (List.mem_map.2 ⟨y, hy, rfl⟩) x.1 (by simp)
        rcases hfit with h | h
        · exfalso
          have hy2 := (hL.mem y.1 (List.mem_map.2 ⟨y, by simp [hy], rfl⟩)).2
          have := mask_listed hL.size hm hL.closed i o ho hall y.1.1 (by rw [← hxi]; exact h)
          rw [(getD_false hy2).1] at this
          cases this
        · exact h
      obtain ⟨σ', g1, gn, g2⟩ := pathP_move hC.nat L1 L2 σ σf hh hp hcomp
      have hsub : (L1 ++ L2).Sublist (L1 ++ x :: L2) := List.Sublist.append_left (List.sublist_cons_self x L2) L1
      have hlocal := step_local hC.nat g1 (hh x hx)
      have hle : x.2.1 ≤ σ'.nx := by obtain ⟨_, _, _, _, h, _⟩ := hlocal; exact h
      have hne' : x.1.2.2 ≠ .all := by intro e; have := hh x hx; rw [e] at this; cases this
      have key := one_soundA hC (r := r) (hR.toRelA.renum x.2.1) g1 ⟨fun e => absurd e hne', fun _ q hq => by rw [gn]; exact hU x hx q hq⟩ (K := wpAnyIn (fR r) 0 C.E.P .any ops Q n (listed.setIfInBounds i true)) (Q := Q) fun k' a' hR' hN hW hu => by
        have hN2 := hN.2 hne'
        have hR2 := hR'.renum σf.nx
        refine ih (listed.setIfInBounds i true) (L1 ++ L2) σ' σf { k' with nx := σf.nx } a' (by simp at hn ⊢; omega) ?_ g2 (fun y hy => hh y (hsub.subset hy)) (hpw.sublist hsub) (fun y hy => hrg y (hsub.subset hy)) (fun y hy q hq => ?_) ⟨hR2, fun q hq => ?_⟩
          fun k'' a'' hR'' hW'' hu' => hQ k'' a'' hR'' (WExt.trans (k' := { k' with nx := σf.nx }) (WExt.trans (k' := k') ((renum_ext k x.2.1).wext.trans hW) (renum_ext k' _).wext) hW'') ⟨fun q hq => ?_, hu'.size.trans hu.size⟩
        · have hne : ∀ y ∈ (L1 ++ L2).map (·.1), y.1 ≠ x.1.1 := by
            intro y hy
            rw [List.map_append] at hy
            have hs := List.pairwise_append.1 hLsort
            rcases List.mem_append.1 hy with h | h
            · exact Nat.ne_of_lt (hs.2.2 y h x.1 (by simp))
            · exact Nat.ne_of_gt ((List.pairwise_cons.1 hs.2.1).1 y h)
          have hsubm : ((L1 ++ L2).map (·.1)).Sublist ((L1 ++ x :: L2).map (·.1)) := hsub.map _
          refine ⟨by simp [hL.size], fun j oj hj hl e he hb => ?_, fun y hy => ?_, fun j hj => ?_, hL.sorted.sublist hsubm, hL.fit.sublist hsubm⟩
          · by_cases hji : i = j
            · subst hji
              have : oj = o := Option.some.inj (hj.symm.trans ho)
              subst this
              exact getD_set_true (hall e he hb)
            · rw [getD_set_ne false hji] at hl
              exact getD_set_true (hL.closed j oj hj hl e he hb)
          · obtain ⟨q1, q2⟩ := hL.mem y (hsubm.subset hy)
            refine ⟨q1, ?_⟩
            rw [getD_set_ne true (fun e => hne y hy (by rw [hxi, e]))]
            exact q2
          · by_cases hji : i = j
            · subst hji
              have hlt := (getD_false h1).2
              simp [hlt] at hj
            · rw [getD_set_ne true hji] at hj
              obtain ⟨y, hy, hyj⟩ := hL.all j hj
              refine ⟨y, ?_, hyj⟩
              rw [List.map_append, List.map_cons] at hy
              rw [List.map_append]
              rcases List.mem_append.1 hy with h | h
              · exact List.mem_append_left _ h
              · rcases List.mem_cons.1 h with h | h
                · subst h; exact absurd (hxi.symm.trans hyj) hji
                · exact List.mem_append_right _ h
        · have hq : k'.U q := hq
          rcases hN2.2 q hq with hq | hq
          · exact hU y (hsub.subset hy) q hq
          · intro hb
            have hq : x.2.1 ≤ q ∧ q < σ'.nx := hq
            rw [gn] at hq
            have hs := List.pairwise_append.1 hpw
            rcases List.mem_append.1 hy with h | h
            · have := hs.2.2 y h x (by simp); omega
            · have := (List.pairwise_cons.1 hs.2.1).1 y h; omega
        · have hq : k'.U q := hq
          rcases hN2.2 q hq with hq | hq
          · exact hR.u q hq
          · have hq : x.2.1 ≤ q ∧ q < σ'.nx := hq
            rw [gn] at hq
            have := (hrg x hx).2
            show q < σf.nx
            omega
        · rw [hu'.other q hq]
          refine hu.other q ?_
          refine hq x.1.2.1 ?_
          rw [hxo]
          exact Array.mem_toList_iff.2 (Array.mem_of_getElem? ho)
      unfold wpOpIn
      simp only [ho]
      rw [hxo] at key
      split
      · rename_i hw; rw [if_pos hw] at key; exact key
      · rename_i hw; rw [if_neg hw] at key; exact ⟨fun f _ => fR_fn r f, key⟩

/-- A region, its order drawn or not. -/
theorem region_sound {C : Ctx} (hC : CtxOK C) {r : Option Nat} (hmix : C.E.P.follows .mixedOrders = true) {N : Nat} {k0 : Kx} {ops : Array Oper} {draw : Bool} {id : Nat} {b : Bool} {ms : List Nat} {od : Option (Bool × List Nat)} (ho : orderOf draw ops b ms = some od) {q : Bool} {σ σf : St} {k : Kx} {a : Act}
    (h : opsR C ops od q ops.toList 0 [] σ = some σf) (hR : Rel N k0 σ k a) {Q : Exit → Act → World → Prop} (hQ : ∀ k' a', Rel N k0 σf k' a' → WExt k k' → Kept ops.toList a a' → Q .normal a' k'.w) : (Code.region id ops draw).wpIn (fR r) 0 C.E.P Q a k.w := by
  obtain ⟨L, e1, e2, e3, _, e5⟩ := opsR_path hC.nat ops.toList 0 [] σ σf h
  unfold orderOf at ho
  cases draw with
  | false =>
    refine wpIn_region_list ?_
    rw [← e1]
    exact list_sound hC L σ σf k a e3 hR (by rw [e1]; exact hQ)
  | true =>
    rw [if_pos rfl] at ho
    split at ho
    · rename_i hg
      simp only [Bool.and_eq_true] at hg
      simp only [Option.some.injEq] at ho
      subst ho
      obtain ⟨g1, _, g2⟩ := e5 b ms rfl
      obtain ⟨hR', hW⟩ := hR.drawn (k.w.drawn + 1)
      refine wpIn_region_any hmix ?_
      have hlen : L.length = ops.size := by rw [← List.length_map (f := fun x => x.2.1), e1]; simp
      rw [← hlen]
      have hleft : Left b ops ms (Array.replicate ops.size false) L := by
        have hidx : ∀ i (hi : i < L.length), L[i].1 = i := by
          intro i hi
          have : (L.map (fun x => x.1))[i]? = (List.range' 0 ops.toList.length)[i]? := by rw [e2]
          simp [hi] at this
          have hi' : i < ops.size := by omega
          simp [hi'] at this
          exact this
        have hop : ∀ i (hi : i < L.length), ops[i]? = some L[i].2.1 := by
          intro i hi
          have : (L.map (fun x => x.2.1))[i]? = ops.toList[i]? := by rw [e1]
          simp [hi] at this
          exact this.symm
        refine ⟨by simp [hlen], fun j o _ hl => (by rw [getD_replicate_false] at hl; cases hl), fun x hx => ?_, fun j hj => ?_, ?_, g1⟩
        · obtain ⟨i, hi, rfl⟩ := List.getElem_of_mem hx
          rw [hidx i hi]
          refine ⟨hop i hi, ?_⟩
          have hi' : i < ops.size := by omega
          simp [Array.getD_eq_getD_getElem?, Array.getElem?_replicate, hi']
        · have hlt : j < L.length := by
            rcases Nat.lt_or_ge j L.length with h | h
            · exact h
            · have h' : ¬ j < ops.size := by omega
              simp [Array.getD_eq_getD_getElem?, Array.getElem?_replicate, h'] at hj
          exact ⟨L[j], List.getElem_mem hlt, hidx j hlt⟩
        · rw [List.pairwise_iff_getElem]
          intro i j hi hj hij
          rw [hidx i hi, hidx j hj]
          exact hij
      cases b with
      | false =>
        rw [hlen]
        rw [← hlen]
        refine any_sound hC hg.1 L.length _ L σ σf { k with w := { k.w with drawn := k.w.drawn + 1 } } a rfl (by rw [hlen]; exact hleft) e3 hR' fun k' a' h1 h2 h3 => hQ k' a' h1 (hW.trans h2) h3
      | true =>
        obtain ⟨p0, PP, p1, p2, p3, p4⟩ := path_names hC.nat L σ σf e3 (g2 rfl)
        have hPl : PP.length = L.length := by rw [← p1]; simp
        rw [← hPl]
        have hhere : ∀ x ∈ PP, x.1.2.2.here = true := fun x hx => g2 rfl x.1 (by rw [← p1]; exact List.mem_map.2 ⟨x, hx, rfl⟩)
        refine anyP_sound hC hg.1 PP.length _ PP σ σf { k with w := { k.w with drawn := k.w.drawn + 1 }, nx := σf.nx } a rfl (by rw [p1, hPl, hlen]; exact hleft) p2 hhere p3 (fun x hx => (p4 x hx).2) (fun x hx q hq => ?_) ⟨hR'.toRelA.renum σf.nx, fun q hq => ?_⟩ fun k' a' h1 h2 h3 => hQ k' a' h1 (hW.trans (WExt.trans (k' := { k with w := { k.w with drawn := k.w.drawn + 1 }, nx := σf.nx }) (renum_ext _ _).wext h2)) h3
        · have := hR.u q hq
          have := (p4 x hx).1
          omega
        · have := hR.u q hq
          exact Nat.lt_of_lt_of_le this p0
    · cases ho

end Go.Ab
