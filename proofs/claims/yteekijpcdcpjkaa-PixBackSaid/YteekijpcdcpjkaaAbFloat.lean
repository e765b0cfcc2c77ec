/-
  TWO OPERATIONS THAT LET EACH OTHER BE may come in either order.
-/
import Derived.Test.YteekijpcdcpjkaaAbCong
set_option linter.unusedVariables false
set_option linter.unusedSimpArgs false
namespace Go.Ab

/-! ### freezing -/
theorem frzCell_names {n : Nat} {b : Blk} {c : Cell} (h : n ∉ namesOfCell c) : frzCell n b c = c := by
  cases c with
  | own m e => simp only [frzCell]; rw [if_neg (fun e => h (by simp [namesOfCell, e]))]
  | sub m e lo hi => simp only [frzCell]; rw [if_neg (fun e => h (by simp [namesOfCell, e]))]
  | _ => rfl

theorem frzV_names {n : Nat} {b : Blk} {v : AVal} (h : n ∉ namesOfV v) : frzV n b v = v := by
  have list : ∀ cs : List Cell, n ∉ cs.flatMap namesOfCell → cs.map (frzCell n b) = cs := by
    intro cs hn
    conv => rhs; rw [← List.map_id cs]
    exact List.map_congr_left fun c hc => frzCell_names fun hm => hn (List.mem_flatMap.2 ⟨c, hc, hm⟩)
  cases v with
  | one c => simp only [frzV]; rw [frzCell_names h]
  | pure t x => rfl
  | agg cs => simp only [frzV]; rw [list cs h]
  | tup ps =>
    simp only [frzV]
    congr 1
    conv => rhs; rw [← List.map_id ps]
    refine List.map_congr_left fun p hp => ?_
    rw [list p.2 (fun hm => h (List.mem_flatMap.2 ⟨p, hp, hm⟩))]
    rfl

/-- a block that freezing leaves alone -/
def Calm (ns : List Nat) (hp : Hp) (n : Nat) : Prop := n ∉ ns ∧ ∀ cs, hget hp n = some (.var cs) → ∀ m ∈ cs.flatMap namesOfCell, m ∉ ns

theorem calm_of_holders {ns : List Nat} {n : Nat} (h1 : n ∉ ns) : ∀ {hp : Hp}, n ∉ holders ns hp → Calm ns hp n := by
  intro hp
  induction hp with
  | nil => intro _; exact ⟨h1, fun cs h => by simp [hget] at h⟩
  | cons p r ih =>
    intro h
    obtain ⟨m, b⟩ := p
    refine ⟨h1, fun cs hc => ?_⟩
    simp only [hget] at hc
    by_cases hm : m = n
    · subst hm
      rw [if_pos rfl] at hc
      simp only [Option.some.injEq] at hc
      subst hc
      simp only [holders] at h
      by_cases ha : (cs.flatMap namesOfCell).any ns.contains = true
      · rw [if_pos ha] at h; simp at h
      · intro k hk hkn
        exact ha (List.any_eq_true.2 ⟨k, hk, by simpa using hkn⟩)
    · rw [if_neg hm] at hc
      refine (ih ?_).2 cs hc
      intro hr
      apply h
      cases b with
      | arr e xs => exact hr
      | var cs' =>
        simp only [holders]
        split
        · exact List.mem_cons_of_mem _ hr
        · exact hr

/-- Freezing is a map over the frame. -/
theorem frzAll_map : ∀ (ns : List Nat) (hp : Hp), ∃ (g : AVal → AVal) (hp' : Hp), (∀ fr, frzAll fr hp ns = (fr.map g, hp')) ∧ (∀ v, (∀ n ∈ namesOfV v, n ∉ ns) → g v = v) ∧ (∀ n, Calm ns hp n → hget hp' n = hget hp n) := by
  intro ns
  induction ns with
  | nil => intro hp; exact ⟨id, hp, fun fr => by simp [frzAll], fun v _ => rfl, fun n _ => rfl⟩
  | cons n r ih =>
    intro hp
    cases hb : hget hp n with
    | none =>
      obtain ⟨g, hp', h1, h2, h3⟩ := ih hp
      refine ⟨g, hp', fun fr => by simp only [frzAll, frz1, hb]; exact h1 fr, fun v hv => h2 v fun m hm hr => hv m hm (by simp [hr]), fun m hm => h3 m ⟨fun hr => hm.1 (by simp [hr]), fun cs hc k hk hr => hm.2 cs hc k hk (by simp [hr])⟩⟩
    | some b =>
      obtain ⟨g, hp', h1, h2, h3⟩ := ih ((hrem hp n).map fun e => (e.1, frzB n b e.2))
      refine ⟨g ∘ frzV n b, hp', fun fr => ?_, fun v hv => ?_, fun m hm => ?_⟩
      · simp only [frzAll, frz1, hb]
        rw [h1]
        simp
      · have e : frzV n b v = v := frzV_names fun hn => hv n hn (by simp)
        show g (frzV n b v) = v
        rw [e]
        exact h2 v fun m hm hr => hv m hm (by simp [hr])
      · have hmn : m ≠ n := fun e => hm.1 (by simp [e])
        have hget1 : hget ((hrem hp n).map fun e => (e.1, frzB n b e.2)) m = (hget hp m).map (frzB n b) := by
          rw [hget_map, hget_hrem, if_neg hmn]
        have same : (hget hp m).map (frzB n b) = hget hp m := by
          cases hc : hget hp m with
          | none => rfl
          | some c =>
            cases c with
            | arr e xs => rfl
            | var cs =>
              have hcs : cs.map (frzCell n b) = cs := by
                conv => rhs; rw [← List.map_id cs]
                exact List.map_congr_left fun c hcc => frzCell_names fun hk => hm.2 cs hc n (List.mem_flatMap.2 ⟨c, hcc, hk⟩) (by simp)
              simp only [Option.map_some, frzB, hcs]
        rw [h3 m ⟨fun hr => hm.1 (by simp [hr]), fun cs hc k hk hr => ?_⟩, hget1, same]
        rw [hget1, same] at hc
        exact hm.2 cs hc k hk (by simp [hr])

theorem acts_get : ∀ (as : List HAct) (hp : Hp) (n : Nat), n ∉ as.map HAct.name → hget (acts hp as) n = hget hp n := by
  intro as
  induction as with
  | nil => intro hp n _; rfl
  | cons a r ih =>
    intro hp n h
    simp only [List.map_cons, List.mem_cons, not_or] at h
    simp only [acts]
    rw [ih _ _ h.2]
    cases a with
    | put m b => simp only [act, hget_hput]; exact if_neg h.1
    | rem m => simp only [act, hget_hrem]; exact if_neg h.1

/-! ### frames -/
theorem rdT_set {fr : Fr} {d t : Nat} {v : AVal} (h : t ≠ d) : rdT (fr.set d v) t = rdT fr t := by
  simp only [rdT, List.getD_eq_getElem?_getD, List.getElem?_set_ne (Ne.symm h)]

theorem rdT_put {fr : Fr} {d : Option Tmp} {t : Nat} {v : AVal} (h : ∀ d', d = some d' → t ≠ d') : rdT (putT fr d v) t = rdT fr t := by
  cases d with
  | none => rfl
  | some d => exact rdT_set (h d rfl)

theorem rdT_map {fr : Fr} {g : AVal → AVal} (hg : g (.one .undef) = .one .undef) (t : Nat) : rdT (fr.map g) t = g (rdT fr t) := by
  simp only [rdT, List.getD_eq_getElem?_getD, List.getElem?_map]
  cases fr[t]? with
  | none => exact hg.symm
  | some v => rfl

theorem putT_map {fr : Fr} {g : AVal → AVal} {d : Option Tmp} {v : AVal} : (putT fr d v).map g = putT (fr.map g) d (g v) := by
  cases d with
  | none => rfl
  | some d => simp [putT, List.map_set]

theorem putT_comm {fr : Fr} {d d' : Option Tmp} {v v' : AVal} (h : ∀ x, d = some x → d' ≠ some x) : putT (putT fr d v) d' v' = putT (putT fr d' v') d v := by
  cases d with
  | none => rfl
  | some d =>
    cases d' with
    | none => rfl
    | some d' => simp only [putT]; exact List.set_comm _ _ fun e => h d rfl (by rw [e])

theorem set_same {fr : Fr} {d : Nat} {v : AVal} (h : rdT fr d = v) (hv : v ≠ .one .undef) : fr.set d v = fr := by
  simp only [rdT, List.getD_eq_getElem?_getD] at h
  cases hd : fr[d]? with
  | none => rw [hd] at h; exact absurd h.symm hv
  | some u =>
    rw [hd] at h
    simp only [Option.getD_some] at h
    subst h
    obtain ⟨hlt, he⟩ := List.getElem?_eq_some_iff.1 hd
    rw [← he]
    exact List.set_getElem_self hlt

/-! ### one operation -/
/-- Is a guarded operation wanted? -/
def wantedA (ops : Array Oper) (o : Oper) (fr : Fr) : Option Bool :=
  match o.guard with
  | none => some true
  | some (j, want) => match dstOf ops j with
    | some d => match rdT fr d with
      | .one (.val .bool t) => some (t == want)
      | .tup [] => some false
      | _ => none
    | none => none

/-- What an operation comes to, calls that are run in place aside. -/
def outE (C : Ctx) (o : Oper) (σ : St) : Option Out :=
  match o.op with
  | .pick c a b => match rdC σ.fr c with
    | .val .bool t => if t = true then some { test := true, v := rd σ.fr a } else some { test := true, v := rd σ.fr b }
    | _ => none
  | .call { callee := .value f, args, .. } => match callR C (o.dst.getD 0) σ (rdC σ.fr f) (args.toList.map (rd σ.fr)) with
    | some (.inl out) => some out
    | _ => none
  | op => match stepA C.E (hget σ.hp) σ.fr σ.nx op with
    | some out => if out.test = true then some out else none
    | none => none

theorem after_still {σ : St} {out : Out} {d : Option Tmp} (h1 : out.frz = []) (h2 : out.acts = []) (h3 : out.made = 0) : σ.after out d = { fr := putT σ.fr d out.v, hp := σ.hp, nx := σ.nx } := by
  simp [St.after, h1, h2, h3, frzAll, acts]

theorem exec_cases {C : Ctx} (hC : NatCtx C) {o : Oper} {σ σ' : St} {f : Foot} (h : execR C o σ = some (f, σ')) : (∃ out, outE C o σ = some out ∧ f = footOf σ o.op out ∧ σ' = σ.after out o.dst) ∨ f = .all := by
  unfold execR execA at h
  unfold outE
  split at h
  · rename_i c a b ho
    split at h
    · rename_i t hc
      split at h
      · rename_i ht
        simp only [Option.some.injEq, Prod.mk.injEq] at h
        obtain ⟨rfl, rfl⟩ := h
        left
        simp only [ho, hc, ht, if_true]
        exact ⟨_, rfl, rfl, rfl⟩
      · rename_i ht
        simp only [Option.some.injEq, Prod.mk.injEq] at h
        obtain ⟨rfl, rfl⟩ := h
        left
        simp only [ho, hc, ht]
        exact ⟨_, rfl, rfl, rfl⟩
    · cases h
  · rename_i fo args at_ ho
    simp only [ho]
    rw [callA_nat hC] at h
    cases hc : callR C (o.dst.getD 0) σ (rdC σ.fr fo) (args.toList.map (rd σ.fr)) with
    | none => rw [hc] at h; cases h
    | some x =>
      rw [hc] at h
      cases x with
      | inl out =>
        simp only [bindO_some, Option.some.injEq, Prod.mk.injEq] at h
        obtain ⟨rfl, rfl⟩ := h
        left
        exact ⟨_, rfl, by rw [← ho], rfl⟩
      | inr y =>
        simp only [bindO_some, Option.some.injEq, Prod.mk.injEq] at h
        exact Or.inr h.1.symm
  · split at h
    · rename_i out hs
      left
      cases ht : out.test with
      | false => rw [ht] at h; cases h
      | true =>
        rw [ht] at h
        simp only [gate_true, Option.some.injEq, Prod.mk.injEq] at h
        obtain ⟨rfl, rfl⟩ := h
        refine ⟨out, ?_, rfl, rfl⟩
        split
        · exact (‹∀ (c a b : Operand), o.op = Op.pick c a b → False› _ _ _ (by assumption)).elim
        · exact (‹∀ (f : Operand) (args : Array Operand) (at_ : Array TypeId), o.op = Op.call { callee := .value f, args := args, argTypes := at_ } → False› _ _ _ (by assumption)).elim
        · rw [hs]; simp [ht]
    · cases h

theorem exec_out {C : Ctx} (hC : NatCtx C) {o : Oper} {σ : St} {out : Out} (h : outE C o σ = some out) : execR C o σ = some (footOf σ o.op out, σ.after out o.dst) := by
  unfold outE at h
  unfold execR execA
  split at h
  · rename_i c a b ho
    split at h
    · rename_i t hc
      simp only [ho, hc]
      split at h
      · rename_i ht
        simp only [Option.some.injEq] at h; subst h
        simp only [ht, if_true]
        rw [after_still (out := { test := true, v := rd σ.fr a }) rfl rfl rfl]
      · rename_i ht
        simp only [Option.some.injEq] at h; subst h
        simp only [ht]
        rw [after_still (out := { test := true, v := rd σ.fr b }) rfl rfl rfl]
        rfl
    · cases h
  · rename_i fo args at_ ho
    simp only [ho]
    rw [callA_nat hC]
    cases hc : callR C (o.dst.getD 0) σ (rdC σ.fr fo) (args.toList.map (rd σ.fr)) with
    | none => rw [hc] at h; cases h
    | some x =>
      rw [hc] at h
      cases x with
      | inl out' => simp only [Option.some.injEq] at h; subst h; rfl
      | inr y => cases h
  · split at h
    · rename_i out' hs
      split at h
      · rename_i ht
        simp only [Option.some.injEq] at h; subst h
        split
        · exact (‹∀ (c a b : Operand), o.op = Op.pick c a b → False› _ _ _ (by assumption)).elim
        · exact (‹∀ (f : Operand) (args : Array Operand) (at_ : Array TypeId), o.op = Op.call { callee := .value f, args := args, argTypes := at_ } → False› _ _ _ (by assumption)).elim
        · rw [hs]; simp [ht, gate]
      · cases h
    · cases h

theorem setBool {fr : Fr} {d : Nat} {t : Bool} (h : rdT fr d = .one (.val .bool t)) : fr.set d (.one (.val .bool t)) = fr := set_same h (by simp)

theorem oneR_eq {C : Ctx} (ops : Array Oper) (o : Oper) (σ : St) : oneR C ops o σ = match wantedA ops o σ.fr with
    | some true => execR C o σ
    | some false => some (.still [] [], { σ with fr := putT σ.fr o.dst (.tup []) })
    | none => none := by
  unfold oneR oneA wantedA
  cases hg : o.guard with
  | none => rfl
  | some p =>
    obtain ⟨j, want⟩ := p
    simp only
    cases hd : dstOf ops j with
    | none => rfl
    | some d =>
      simp only
      cases hv : rdT σ.fr d with
      | one c =>
        cases c with
        | val ty t =>
          cases ty with
          | bool =>
            simp only
            cases t with
            | true => rw [if_pos rfl, setBool hv]; cases want <;> rfl
            | false => rw [if_neg (by simp), setBool hv]; cases want <;> rfl
          | _ => rfl
        | _ => rfl
      | tup ps => cases ps <;> rfl
      | _ => rfl

theorem one_cases {C : Ctx} {ops : Array Oper} {o : Oper} {σ σ' : St} {f : Foot} (h : oneR C ops o σ = some (f, σ')) :
    (wantedA ops o σ.fr = some false ∧ f = .still [] [] ∧ σ' = { σ with fr := putT σ.fr o.dst (.tup []) }) ∨
    (wantedA ops o σ.fr = some true ∧ execR C o σ = some (f, σ')) := by
  rw [oneR_eq] at h
  split at h
  · rename_i hw; exact Or.inr ⟨hw, h⟩
  · rename_i hw
    simp only [Option.some.injEq, Prod.mk.injEq] at h
    exact Or.inl ⟨hw, h.1.symm, h.2.symm⟩
  · cases h

theorem one_of_wanted {C : Ctx} {ops : Array Oper} {o : Oper} {σ : St} (h : wantedA ops o σ.fr = some true) : oneR C ops o σ = execR C o σ := by
  rw [oneR_eq, h]

theorem one_of_skip {C : Ctx} {ops : Array Oper} {o : Oper} {σ : St} (h : wantedA ops o σ.fr = some false) : oneR C ops o σ = some (.still [] [], { σ with fr := putT σ.fr o.dst (.tup []) }) := by
  rw [oneR_eq, h]

/-! ### what it looks at -/
theorem rd_of_looks {ops : Array Oper} {o : Oper} {fr fr' : Fr} (h : ∀ t ∈ o.looksAt ops, rdT fr' t = rdT fr t) : ∀ x ∈ o.op.operands.toList, rd fr' x = rd fr x := by
  intro x hx
  cases x with
  | tmp t => exact h t (List.mem_append_left _ (List.mem_filterMap.2 ⟨.tmp t, hx, rfl⟩))
  | _ => rfl

theorem wanted_of_looks {ops : Array Oper} {o : Oper} {fr fr' : Fr} (h : ∀ t ∈ o.looksAt ops, rdT fr' t = rdT fr t) : wantedA ops o fr' = wantedA ops o fr := by
  unfold wantedA
  cases hg : o.guard with
  | none => rfl
  | some p =>
    obtain ⟨j, want⟩ := p
    simp only
    cases hd : dstOf ops j with
    | none => rfl
    | some d =>
      simp only
      rw [h d]
      refine List.mem_append_right _ ?_
      rw [hg]
      show d ∈ ((ops[j]?).bind (·.dst)).toList
      have hd' : (ops[j]?).bind (·.dst) = some d := hd
      rw [hd']
      simp

theorem touched_fr {fr fr' : Fr} {o : Op} (h : ∀ x ∈ o.operands.toList, rd fr' x = rd fr x) : touched fr' o = touched fr o := by
  unfold touched
  rw [List.flatMap_def, List.flatMap_def]
  congr 1
  refine List.map_congr_left fun x hx => ?_
  cases x with
  | tmp t => have : rdT fr' t = rdT fr t := h _ hx; simp only [this]
  | _ => rfl

theorem callR_fr {C : Ctx} {d : Nat} {σ : St} {fr' : Fr} {f : Cell} {args : List AVal} : callR C d { σ with fr := fr' } f args = callR C d σ f args := rfl

theorem outE_fr {C : Ctx} {o : Oper} {σ : St} {fr' : Fr} (h : ∀ x ∈ o.op.operands.toList, rd fr' x = rd σ.fr x) : outE C o { σ with fr := fr' } = outE C o σ := by
  unfold outE
  split
  · rename_i c a b ho
    rw [ho] at h
    simp only [rdC_fr (h c (by simp [Op.operands])), h a (by simp [Op.operands]), h b (by simp [Op.operands])]
  · rename_i f args at_ ho
    rw [ho] at h
    have ha : args.toList.map (rd fr') = args.toList.map (rd σ.fr) := List.map_congr_left fun x hx => h x (by simp [Op.operands, Call.operands]; exact Or.inr (by simpa using hx))
    simp only [rdC_fr (h f (by simp [Op.operands, Call.operands])), ha, callR_fr]
  · simp only [stepA_fr h]

theorem lookedAt_fr {fr fr' : Fr} {o : Op} (h : ∀ x ∈ o.operands.toList, rd fr' x = rd fr x) : lookedAt fr' o = lookedAt fr o := by
  unfold lookedAt
  rw [touched_fr h]

theorem foot_fr {o : Oper} {σ : St} {fr' : Fr} {out : Out} (h : ∀ x ∈ o.op.operands.toList, rd fr' x = rd σ.fr x) : footOf { σ with fr := fr' } o.op out = footOf σ o.op out := by
  unfold footOf
  simp only [touched_fr h, lookedAt_fr h]

theorem foot_still {σ : St} {o : Op} {out : Out} {ns ls : List Nat} (h : footOf σ o out = .still ns ls) : out.frz = [] ∧ out.acts = [] ∧ out.made = 0 ∧ ns = touched σ.fr o ++ namesOfV out.v ∧ ls = lookedAt σ.fr o := by
  unfold footOf at h
  split at h
  · rename_i h1 h2 h3; simp only [Foot.still.injEq] at h; exact ⟨h1, h2, h3, h.1.symm, h.2.symm⟩
  · cases h

theorem ownize_none : ∀ (own : List Nat) (cs : List Cell) (k nx nx' : Nat), (ownize own k nx cs).2.2 = 0 → ownize own k nx' cs = ownize own k nx cs := by
  intro own cs
  induction cs with
  | nil => intro k nx nx' _; rfl
  | cons c r ih =>
    intro k nx nx' h
    simp only [ownize] at h ⊢
    split
    · rename_i hc
      rw [if_pos hc] at h
      split
      · rename_i e xs
        simp at h
      · rename_i c' hne
        split at h
        · exact absurd rfl (hne _ _)
        · rw [ih (k + 1) nx nx' h]
    · rename_i hc
      rw [if_neg hc] at h
      rw [ih (k + 1) nx nx' h]

/-- what a method does to blocks -/
theorem callM_acts {C : Ctx} (hC : NatCtx C) {d : Nat} {σ : St} {g : Nat} {caps : List (Nat × Nat)} {args : List AVal} {out : Out} (h : callM C d σ g caps args (fun out => some (Sum.inl (β := AVal × Hp × Nat) out)) (fun v hp nx => some (Sum.inr (v, hp, nx))) none = some (Sum.inl out)) :
    ∃ n b, HAct.put n b ∈ out.acts := by
  unfold callM at h
  split at h
  · rename_i M n as hM
    split at h
    · rename_i x hx
      cases hr : M.f x with
      | none => rw [hr] at h; cases h
      | some p =>
        rw [hr] at h
        simp only [bindO_some, Option.some.injEq, Sum.inl.injEq] at h
        subst h
        exact ⟨n, _, List.mem_append_right _ (List.mem_singleton.2 rfl)⟩
    · cases h
  · exfalso
    split at h
    · rename_i J hJ
      rw [hC.inl g _ J hJ] at h
      unfold bindO at h
      split at h <;> cases h
    · cases h

theorem callM_look {C : Ctx} (hC : NatCtx C) {d : Nat} {σ : St} {hp' : Hp} {g : Nat} {caps : List (Nat × Nat)} {args : List AVal} {out : Out} (hl : ∀ v ∈ args, ∀ n ∈ namesOfV v, hget hp' n = hget σ.hp n)
    (h : callM C d σ g caps args (fun out => some (Sum.inl (β := AVal × Hp × Nat) out)) (fun v hp nx => some (Sum.inr (v, hp, nx))) none = some (Sum.inl out)) :
    callM C d { fr := σ.fr, hp := hp', nx := σ.nx } g caps args (fun out => some (Sum.inl (β := AVal × Hp × Nat) out)) (fun v hp nx => some (Sum.inr (v, hp, nx))) none = some (Sum.inl out) := by
  have hacts := callM_acts hC h
  unfold callM at h ⊢
  split at h
  · rename_i M n as hM
    have hn : hget hp' n = hget σ.hp n := hl (.one (.ptr n 0)) (by simp) n (by simp [namesOfV, namesOfCell])
    have hargs : parseAll (hget hp') M.arg (as.flatMap cellsOf) = parseAll (hget σ.hp) M.arg (as.flatMap cellsOf) := parseAll_look fun c hc m hm => by
      obtain ⟨v, hv, hcv⟩ := List.mem_flatMap.1 hc
      exact hl v (by simp [hv]) m (cells_names hcv hm)
    have hin : mutIn M (hget hp') n as = mutIn M (hget σ.hp) n as := by
      unfold mutIn
      rw [hn]
      split
      · rename_i cs hcs
        split
        · rename_i hg
          simp only [Bool.and_eq_true, List.isEmpty_iff] at hg
          have hcont : parseAll (hget hp') M.cont cs = parseAll (hget σ.hp) M.cont cs := parseAll_look fun c hc m hm => by
            have : m ∈ cs.flatMap namesOfCell := List.mem_flatMap.2 ⟨c, hc, ownOf_names hm⟩
            rw [hg.1.2] at this
            cases this
          rw [hcont, hargs]
        · rfl
      · rfl
    simp only
    rw [hin]
    exact h
  · exfalso
    split at h
    · rename_i J hJ
      rw [hC.inl g _ J hJ] at h
      unfold bindO at h
      split at h <;> cases h
    · cases h

theorem outE_look {C : Ctx} (hC : NatCtx C) {o : Oper} {σ : St} {out : Out} {hp' : Hp} {nx' : Nat} (h : outE C o σ = some out) (h1 : out.frz = []) (h2 : out.acts = []) (h3 : out.made = 0) (hl : ∀ n ∈ touched σ.fr o.op, hget hp' n = hget σ.hp n) :
    outE C o { fr := σ.fr, hp := hp', nx := nx' } = some out := by
  unfold outE at h ⊢
  split at h
  · rename_i c a b ho; exact h
  · rename_i f args at_ ho
    cases hc : callR C (o.dst.getD 0) σ (rdC σ.fr f) (args.toList.map (rd σ.fr)) with
    | none => rw [hc] at h; cases h
    | some x =>
      rw [hc] at h
      cases x with
      | inr y => cases h
      | inl out' =>
        simp only [Option.some.injEq] at h; subst h
        have hnames : ∀ c ∈ (args.toList.map (rd σ.fr)).flatMap cellsOf, ∀ n ∈ ownOf c, hget hp' n = hget σ.hp n := by
          intro c hcm n hn
          obtain ⟨v, hv, hcv⟩ := List.mem_flatMap.1 hcm
          obtain ⟨x, hx, rfl⟩ := List.mem_map.1 hv
          refine hl n (touched_mem (x := x) (by rw [ho]; simp [Op.operands, Call.operands]; exact Or.inr (by simpa using hx)) ?_)
          cases hr : rd σ.fr x with
          | one c' => rw [hr] at hcv; simp [cellsOf] at hcv; subst hcv; exact ownOf_names hn
          | pure t y => rw [hr] at hcv; rw [flat_own t y c hcv] at hn; cases hn
          | agg cs => rw [hr] at hcv; exact List.mem_flatMap.2 ⟨c, hcv, ownOf_names hn⟩
          | tup ps => rw [hr] at hcv; cases hcv
        have key : callR C (o.dst.getD 0) { fr := σ.fr, hp := hp', nx := nx' } (rdC σ.fr f) (args.toList.map (rd σ.fr)) = some (.inl out') := by
          rw [← hc]
          unfold callR callA at hc ⊢
          have inl : ∀ {g : Nat} {caps : List (Nat × Nat)}, callM C (o.dst.getD 0) σ g caps (args.toList.map (rd σ.fr)) (fun out => some (Sum.inl (β := AVal × Hp × Nat) out)) (fun v hp nx => some (Sum.inr (v, hp, nx))) none = some (Sum.inl out') → False := by
            intro g caps h
            obtain ⟨n, b, hm⟩ := callM_acts hC h
            rw [h2] at hm
            simp at hm
          cases hf : rdC σ.fr f with
          | fn g caps =>
            rw [hf] at hc
            simp only at hc ⊢
            cases hT : C.Φ g with
            | none =>
              rw [hT] at hc
              exact (inl hc).elim
            | some T =>
              rw [hT] at hc
              cases caps with
              | cons c r => exact (inl hc).elim
              | nil =>
                simp only at hc ⊢
                rw [parseAll_look hnames]
                split at hc
                · rename_i a ha
                  cases hr : T.f a with
                  | none => rw [hr] at hc; cases hc
                  | some r =>
                    rw [hr] at hc
                    simp only [bindO_some, Option.some.injEq, Sum.inl.injEq] at hc ⊢
                    subst hc
                    simp only at h3
                    rw [ownize_none _ _ _ _ nx' h3]
                · cases hc
          | _ => rw [hf] at hc; first | done | cases hc
        rw [key]
  · split at h
    · rename_i out' hs
      split at h
      · rename_i ht
        simp only [Option.some.injEq] at h; subst h
        simp only [stepA_look hs h2 h3 hl]
        simp [ht]
      · cases h
    · cases h

/-! ### the swap -/
theorem foot_eff {σ : St} {o : Op} {out : Out} {n : Nat} (h : match footOf σ o out with | .still _ _ => True | .eff _ ms _ => n ∉ ms | .all => False) :
    Calm out.frz σ.hp n ∧ n ∉ out.acts.map HAct.name := by
  unfold footOf at h
  split at h
  · rename_i ns hf
    split at hf
    · rename_i h1 h2 h3
      rw [h1, h2]
      exact ⟨⟨by simp, fun cs _ m _ => by simp⟩, by simp⟩
    · cases hf
  · rename_i rs ms fz hf
    split at hf
    · cases hf
    · rename_i hne
      simp only [Foot.eff.injEq] at hf
      obtain ⟨_, rfl, _⟩ := hf
      simp only [List.mem_append, not_or] at h
      exact ⟨calm_of_holders h.1.2 h.2, h.1.1⟩
  · exact h.elim

theorem foot_nofz {σ : St} {o : Op} {out : Out} {rs ms : List Nat} (h : footOf σ o out = .eff rs ms false) : out.frz = [] ∧ ∀ n, n ∉ ms → n ∉ out.acts.map HAct.name := by
  unfold footOf at h
  split at h
  · cases h
  · simp only [Foot.eff.injEq] at h
    obtain ⟨_, rfl, h⟩ := h
    refine ⟨?_, fun n hn => ?_⟩
    · cases hf : out.frz with
      | nil => rfl
      | cons a r => rw [hf] at h; simp at h
    · simp only [List.mem_append, not_or] at hn
      exact hn.1.1

theorem disj_iff {xs ys : List Nat} : disj xs ys = true ↔ ∀ n ∈ xs, n ∉ ys := by
  simp [disj]

/-- what a step does: written value, blocks -/
theorem step_shape {C : Ctx} (hC : NatCtx C) {ops : Array Oper} {o : Oper} {σ σ' : St} {f : Foot} (h : oneR C ops o σ = some (f, σ')) (hf : f ≠ .all) :
    (wantedA ops o σ.fr = some false ∧ f = .still [] [] ∧ σ' = { σ with fr := putT σ.fr o.dst (.tup []) }) ∨
    (wantedA ops o σ.fr = some true ∧ ∃ out, outE C o σ = some out ∧ f = footOf σ o.op out ∧ σ' = σ.after out o.dst) := by
  rcases one_cases h with h | ⟨hw, he⟩
  · exact Or.inl h
  · rcases exec_cases hC he with ⟨out, h1, h2, h3⟩ | h
    · exact Or.inr ⟨hw, out, h1, h2, h3⟩
    · exact absurd h hf

def guardTmp (ops : Array Oper) (o : Oper) : Option Tmp :=
  match o.guard with
  | none => none
  | some (j, _) => dstOf ops j

theorem guard_looks {ops : Array Oper} {o : Oper} {d : Tmp} (h : guardTmp ops o = some d) : d ∈ o.looksAt ops := by
  unfold guardTmp at h
  refine List.mem_append_right _ ?_
  cases hg : o.guard with
  | none => rw [hg] at h; cases h
  | some p =>
    rw [hg] at h
    show d ∈ ((ops[p.1]?).bind (·.dst)).toList
    have hd' : (ops[p.1]?).bind (·.dst) = some d := h
    rw [hd']
    simp

theorem wanted_of_guard {ops : Array Oper} {o : Oper} {fr fr' : Fr} (h : ∀ d, guardTmp ops o = some d → rdT fr' d = rdT fr d) : wantedA ops o fr' = wantedA ops o fr := by
  unfold wantedA
  unfold guardTmp at h
  cases hg : o.guard with
  | none => rfl
  | some p =>
    obtain ⟨j, want⟩ := p
    rw [hg] at h
    simp only at h ⊢
    cases hd : dstOf ops j with
    | none => rfl
    | some d => simp only; rw [h d hd]

theorem wanted_guard {ops : Array Oper} {o : Oper} {fr : Fr} {b : Bool} (h : wantedA ops o fr = some b) : ∀ d, guardTmp ops o = some d → namesOfV (rdT fr d) = [] := by
  intro d hd
  unfold wantedA at h
  unfold guardTmp at hd
  cases hg : o.guard with
  | none => rw [hg] at hd; cases hd
  | some p =>
    obtain ⟨j, want⟩ := p
    rw [hg] at h hd
    simp only at h hd
    rw [hd] at h
    simp only at h
    split at h
    · rename_i t ht; rw [ht]; rfl
    · rename_i ht; rw [ht]; rfl
    · cases h

theorem step_still {C : Ctx} (hC : NatCtx C) {ops : Array Oper} {o : Oper} {σ σ' : St} {ns ls : List Nat} (h : oneR C ops o σ = some (.still ns ls, σ')) :
    ∃ v, σ' = { σ with fr := putT σ.fr o.dst v } ∧ (∀ n ∈ namesOfV v, n ∈ ns) ∧
      -- the same where it sees the same
      ∀ (fr' : Fr) (hp' : Hp) (nx' : Nat), (∀ t ∈ o.looksAt ops, (∀ n ∈ namesOfV (rdT σ.fr t), n ∈ ns) → rdT fr' t = rdT σ.fr t) → (∀ n ∈ ns, hget hp' n = hget σ.hp n) →
        oneR C ops o { fr := fr', hp := hp', nx := nx' } = some (.still ns ls, { fr := putT fr' o.dst v, hp := hp', nx := nx' }) := by
  rcases step_shape hC h (by simp) with ⟨hw, hf, hs⟩ | ⟨hw, out, ho, hf, hs⟩
  · simp only [Foot.still.injEq] at hf
    obtain ⟨rfl, rfl⟩ := hf
    refine ⟨.tup [], hs, fun n hn => by simp [namesOfV, namesOfCell] at hn, fun fr' hp' nx' h1 h2 => ?_⟩
    rw [one_of_skip]
    have hg := wanted_guard hw
    rw [← hw]
    exact wanted_of_guard fun d hd => h1 d (guard_looks hd) fun n hn => by rw [hg d hd] at hn; cases hn
  · obtain ⟨e1, e2, e3, e4, e5⟩ := foot_still hf.symm
    refine ⟨out.v, by rw [hs, after_still e1 e2 e3], fun n hn => by rw [e4]; exact List.mem_append_right _ hn, fun fr' hp' nx' h1 h2 => ?_⟩
    have hg := wanted_guard hw
    have h1 : ∀ t ∈ o.looksAt ops, rdT fr' t = rdT σ.fr t := by
      intro t ht
      refine h1 t ht fun n hn => ?_
      rcases List.mem_append.1 ht with ht | ht
      · obtain ⟨x, hx, hxt⟩ := List.mem_filterMap.1 ht
        rw [e4]
        refine List.mem_append_left _ (touched_mem hx ?_)
        cases x <;> simp at hxt
        subst hxt
        exact hn
      · have hd : guardTmp ops o = some t := by
          unfold guardTmp
          cases hgd : o.guard with
          | none => rw [hgd] at ht; cases ht
          | some p => rw [hgd] at ht; simp only [Option.mem_toList] at ht; exact ht
        rw [hg t hd] at hn
        cases hn
    have hrd := rd_of_looks h1
    have g1 : outE C o { fr := σ.fr, hp := hp', nx := nx' } = some out := outE_look hC ho e1 e2 e3 fun n hn => h2 n (by rw [e4]; exact List.mem_append_left _ hn)
    have g2 : outE C o { fr := fr', hp := hp', nx := nx' } = some out := by
      rw [← g1]
      exact outE_fr (σ := { fr := σ.fr, hp := hp', nx := nx' }) hrd
    rw [one_of_wanted (by rw [← hw]; exact wanted_of_looks h1), exec_out hC g2, after_still e1 e2 e3]
    congr 2
    unfold footOf
    rw [e1, e2, e3, e4, e5, touched_fr hrd, lookedAt_fr hrd]
    rfl

/-- Two steps, the first of which lets the second one be. -/
theorem swap {C : Ctx} (hC : NatCtx C) {ops : Array Oper} {x y : Oper} {σ σ1 σ2 : St} {fx fy : Foot} (hy : oneR C ops y σ = some (fy, σ1)) (hx : oneR C ops x σ1 = some (fx, σ2)) (hap : Oper.apart ops y x = true) (hc : compat fy fx = true) :
    ∃ σ1', oneR C ops x σ = some (fx, σ1') ∧ oneR C ops y σ1' = some (fy, σ2) := by
  obtain ⟨a1, a2, a3⟩ := Oper.apart_spec hap
  -- the second one sees the first one's frame as it was
  have see : ∀ (fr : Fr) (v : AVal) (t : Nat), t ∈ x.looksAt ops → rdT (putT fr y.dst v) t = rdT fr t := fun fr v t ht => rdT_put fun d hd e => a1 d hd (by rw [← e]; exact ht)
  have see' : ∀ (fr : Fr) (v : AVal) (t : Nat), t ∈ y.looksAt ops → rdT (putT fr x.dst v) t = rdT fr t := fun fr v t ht => rdT_put fun d hd e => a3 d hd (by rw [← e]; exact ht)
  cases fy with
  | all => simp [compat] at hc
  | still ns ls =>
    obtain ⟨vy, e1, hvn, again⟩ := step_still hC hy
    subst e1
    have hfx : fx ≠ .all := by rintro rfl; simp [compat] at hc
    rcases step_shape hC hx hfx with ⟨hw, hf, hs⟩ | ⟨hw, out, ho, hf, hs⟩
    · subst hs; subst hf
      refine ⟨{ σ with fr := putT σ.fr x.dst (.tup []) }, ?_, ?_⟩
      · exact one_of_skip (by rw [← hw]; exact (wanted_of_looks (see σ.fr vy)).symm)
      · rw [again (putT σ.fr x.dst (.tup [])) σ.hp σ.nx (fun t ht _ => see' σ.fr _ t ht) (fun _ _ => rfl), putT_comm (fun d hd => fun e => a2 d (by rw [e]) hd)]
    · subst hs
      have hrd := rd_of_looks (see σ.fr vy)
      have ho' : outE C x σ = some out := by rw [← ho]; exact (outE_fr (σ := σ) hrd).symm
      refine ⟨σ.after out x.dst, ?_, ?_⟩
      · rw [one_of_wanted (by rw [← hw]; exact (wanted_of_looks (see σ.fr vy)).symm), exec_out hC ho', hf]
        congr 2
        exact (foot_fr (σ := σ) hrd).symm
      · have hdis : ∀ n ∈ ns, Calm out.frz σ.hp n ∧ n ∉ out.acts.map HAct.name := by
          intro n hn
          refine foot_eff (σ := σ) (o := x.op) ?_
          have e : footOf σ x.op out = fx := by rw [hf]; exact (foot_fr (σ := σ) hrd).symm
          rw [e]
          cases fx with
          | still _ => trivial
          | all => exact hfx rfl
          | eff rs ms fz => exact disj_iff.1 hc n hn
        obtain ⟨g, hp', h1, h2, h3⟩ := frzAll_map out.frz σ.hp
        have hgu : g (.one .undef) = .one .undef := h2 _ (by simp [namesOfV, namesOfCell])
        have hgv : g vy = vy := h2 _ fun n hn => (hdis n (hvn n hn)).1.1
        have hlook : ∀ n ∈ ns, hget (acts hp' out.acts) n = hget σ.hp n := fun n hn => (acts_get _ _ _ (hdis n hn).2).trans (h3 n (hdis n hn).1)
        have hfr : ∀ t ∈ y.looksAt ops, (∀ n ∈ namesOfV (rdT σ.fr t), n ∈ ns) → rdT (putT (σ.fr.map g) x.dst out.v) t = rdT σ.fr t := by
          intro t ht hn
          rw [see' _ _ t ht, rdT_map hgu]
          exact h2 _ fun n hm => (hdis n (hn n hm)).1.1
        have := again (putT (σ.fr.map g) x.dst out.v) (acts hp' out.acts) (σ.nx + out.made) hfr hlook
        simp only [St.after, h1]
        rw [this, putT_map, hgv, putT_comm (fun d hd => fun e => a2 d (by rw [e]) hd)]
  | eff rs ms fz =>
    cases fx with
    | eff rs' ms' fz' => simp [compat] at hc
    | all => simp [compat] at hc
    | still ns ls =>
      simp only [compat, Bool.and_eq_true, Bool.not_eq_true'] at hc
      obtain ⟨hfz, hdis⟩ := hc
      subst hfz
      rcases step_shape hC hy (by simp) with ⟨_, hf, _⟩ | ⟨hw, out, ho, hf, hs⟩
      · cases hf
      · obtain ⟨e1, e2⟩ := foot_nofz hf.symm
        obtain ⟨vx, h1, h2, again⟩ := step_still hC hx
        have hs' : σ1 = { fr := putT σ.fr y.dst out.v, hp := acts σ.hp out.acts, nx := σ.nx + out.made } := by
          rw [hs]; simp only [St.after, e1, frzAll]
        subst hs'
        have h3 := again σ.fr σ.hp σ.nx (fun t ht _ => (see σ.fr out.v t ht).symm) (fun n hn => (acts_get _ _ _ (e2 n (disj_iff.1 hdis n hn))).symm)
        refine ⟨_, h3, ?_⟩
        have hrd := rd_of_looks (see' σ.fr vx)
        have ho' : outE C y { σ with fr := putT σ.fr x.dst vx } = some out := by rw [outE_fr hrd]; exact ho
        rw [one_of_wanted (by rw [← hw]; exact wanted_of_looks (see' σ.fr vx)), exec_out hC ho', foot_fr hrd, ← hf, h1]
        simp only [St.after, e1, frzAll]
        rw [putT_comm (fun d hd => fun e => a2 d (by rw [e]) hd)]

/-! ### two operations that both may change blocks -/
theorem holders_nil : ∀ hp : Hp, holders [] hp = [] := by
  intro hp
  induction hp with
  | nil => rfl
  | cons p r ih =>
    obtain ⟨n, b⟩ := p
    cases b with
    | arr e xs => exact ih
    | var cs => simp [holders, ih]

theorem outE_local {C : Ctx} (hC : NatCtx C) {o : Oper} {σ : St} {out : Out} {hp' : Hp} (h : outE C o σ = some out) (hl : ∀ n ∈ touched σ.fr o.op, hget hp' n = hget σ.hp n) :
    outE C o { fr := σ.fr, hp := hp', nx := σ.nx } = some out := by
  unfold outE at h ⊢
  split at h
  · rename_i c a b ho; exact h
  · rename_i f args at_ ho
    cases hc : callR C (o.dst.getD 0) σ (rdC σ.fr f) (args.toList.map (rd σ.fr)) with
    | none => rw [hc] at h; cases h
    | some x =>
      rw [hc] at h
      cases x with
      | inr y => cases h
      | inl out' =>
        simp only [Option.some.injEq] at h; subst h
        have hnames : ∀ c ∈ (args.toList.map (rd σ.fr)).flatMap cellsOf, ∀ n ∈ ownOf c, hget hp' n = hget σ.hp n := by
          intro c hcm n hn
          obtain ⟨v, hv, hcv⟩ := List.mem_flatMap.1 hcm
          obtain ⟨x, hx, rfl⟩ := List.mem_map.1 hv
          exact hl n (touched_mem (x := x) (by rw [ho]; simp [Op.operands, Call.operands]; exact Or.inr (by simpa using hx)) (cells_names hcv hn))
        have key : callR C (o.dst.getD 0) { fr := σ.fr, hp := hp', nx := σ.nx } (rdC σ.fr f) (args.toList.map (rd σ.fr)) = some (.inl out') := by
          rw [← hc]
          unfold callR callA at hc ⊢
          have hlv : ∀ v ∈ args.toList.map (rd σ.fr), ∀ n ∈ namesOfV v, hget hp' n = hget σ.hp n := by
            intro v hv n hn
            obtain ⟨x, hx, rfl⟩ := List.mem_map.1 hv
            exact hl n (touched_mem (x := x) (by rw [ho]; simp [Op.operands, Call.operands]; exact Or.inr (by simpa using hx)) hn)
          cases hf : rdC σ.fr f with
          | fn g caps =>
            rw [hf] at hc
            simp only at hc ⊢
            cases hT : C.Φ g with
            | none =>
              rw [hT] at hc
              exact (callM_look hC hlv hc).trans hc.symm
            | some T =>
              rw [hT] at hc
              cases caps with
              | cons c r => exact (callM_look hC hlv hc).trans hc.symm
              | nil =>
                simp only at hc ⊢
                rw [parseAll_look hnames]
          | _ => rw [hf] at hc; first | done | cases hc
        rw [key]
  · rw [stepA_look2 hl]
    exact h

theorem outE_blind {C : Ctx} {o : Oper} {σ : St} {hp' : Hp} (h : blind o.op = true) : outE C o { fr := σ.fr, hp := hp', nx := σ.nx } = outE C o σ := by
  obtain ⟨dst, op, ty, pos, after, guard⟩ := o
  cases op <;> first | rfl | (simp [blind] at h)

/-- An operation that freezes nothing and is no call in its caller's state looks at what it reads alone, and changes what it writes alone. -/
theorem step_local {C : Ctx} (hC : NatCtx C) {ops : Array Oper} {o : Oper} {σ σ' : St} {f : Foot} (h : oneR C ops o σ = some (f, σ')) (hf : f.here = true) :
    ∃ v as, σ' = { fr := putT σ.fr o.dst v, hp := acts σ.hp as, nx := σ'.nx } ∧ (∀ n ∈ as.map HAct.name, n ∈ f.wr) ∧ σ.nx ≤ σ'.nx ∧
      ∀ (fr' : Fr) (hp' : Hp), (∀ t ∈ o.looksAt ops, rdT fr' t = rdT σ.fr t) → (∀ n ∈ f.rd, hget hp' n = hget σ.hp n) →
        oneR C ops o { fr := fr', hp := hp', nx := σ.nx } = some (f, { fr := putT fr' o.dst v, hp := acts hp' as, nx := σ'.nx }) := by
  rcases step_shape hC h (by rintro rfl; cases hf) with ⟨hw, hf', hs⟩ | ⟨hw, out, ho, hf', hs⟩
  · subst hs
    refine ⟨.tup [], [], rfl, by simp, Nat.le_refl _, fun fr' hp' h1 _ => ?_⟩
    rw [one_of_skip (by rw [← hw]; exact wanted_of_looks h1), hf']
    rfl
  · have hfz : out.frz = [] := by
      rw [hf'] at hf
      unfold footOf at hf
      split at hf
      · assumption
      · simp only [Foot.here, Bool.not_not, List.isEmpty_iff] at hf
        exact hf
    have hfoot : ∀ (fr' : Fr) (hp' : Hp) (nx' : Nat), (∀ x ∈ o.op.operands.toList, rd fr' x = rd σ.fr x) → footOf { fr := fr', hp := hp', nx := nx' } o.op out = f := by
      intro fr' hp' nx' hrd
      rw [hf']
      unfold footOf
      simp only [hfz, touched_fr hrd, lookedAt_fr hrd]
      cases out.acts with
      | nil => cases out.made with
        | zero => rfl
        | succ m => simp only [holders_nil]
      | cons b r => simp only [holders_nil]
    have hs' : σ' = { fr := putT σ.fr o.dst out.v, hp := acts σ.hp out.acts, nx := σ.nx + out.made } := by
      rw [hs]; simp only [St.after, hfz, frzAll]
    have hrds : ∀ n ∈ lookedAt σ.fr o.op, n ∈ f.rd := by
      intro n hn
      have hn' : n ∈ touched σ.fr o.op := by
        unfold lookedAt at hn
        split at hn
        · cases hn
        · exact hn
      rw [hf']
      unfold footOf
      split
      · exact hn
      · exact List.mem_append_left _ hn'
    refine ⟨out.v, out.acts, by rw [hs'], fun n hn => ?_, by rw [hs']; exact Nat.le_add_right _ _, fun fr' hp' h1 h2 => ?_⟩
    · rw [hf']
      unfold footOf
      split
      · rename_i e1 e2 e3; rw [e2] at hn; cases hn
      · exact List.mem_append_left _ (List.mem_append_left _ hn)
    · have hrd := rd_of_looks h1
      have g1 : outE C o { fr := σ.fr, hp := hp', nx := σ.nx } = some out := by
        by_cases hbl : blind o.op = true
        · rw [outE_blind hbl]; exact ho
        · exact outE_local hC ho fun n hn => h2 n (hrds n (by unfold lookedAt; rw [if_neg hbl]; exact hn))
      have g2 : outE C o { fr := fr', hp := hp', nx := σ.nx } = some out := by
        rw [← g1]
        exact outE_fr (σ := { fr := σ.fr, hp := hp', nx := σ.nx }) hrd
      rw [one_of_wanted (by rw [← hw]; exact wanted_of_looks h1), exec_out hC g2, hfoot fr' hp' σ.nx hrd]
      have : ({ fr := fr', hp := hp', nx := σ.nx } : St).after out o.dst = { fr := putT fr' o.dst out.v, hp := acts hp' out.acts, nx := σ'.nx } := by
        rw [hs']; simp only [St.after, hfz, frzAll]
      rw [this]

theorem acts_same : ∀ (as : List HAct) (hp hp' : Hp), (∀ n, hget hp' n = hget hp n) → ∀ n, hget (acts hp' as) n = hget (acts hp as) n := by
  intro as
  induction as with
  | nil => intro hp hp' h; exact h
  | cons a r ih =>
    intro hp hp' h
    simp only [acts]
    refine ih _ _ fun n => ?_
    cases a with
    | put m b => simp only [act, hget_hput, h n]
    | rem m => simp only [act, hget_hrem, h n]

/-- what a list of acts leaves where it acts, whatever lay there -/
theorem acts_there : ∀ (as : List HAct) (hp hp' : Hp) (n : Nat), n ∈ as.map HAct.name → hget (acts hp' as) n = hget (acts hp as) n := by
  intro as
  induction as with
  | nil => intro hp hp' n h; cases h
  | cons a r ih =>
    intro hp hp' n h
    simp only [acts]
    by_cases hr : n ∈ r.map HAct.name
    · exact ih _ _ n hr
    · have hn : n = a.name := by
        simp only [List.map_cons, List.mem_cons] at h
        exact h.resolve_right hr
      rw [acts_get r _ n hr, acts_get r _ n hr]
      cases a with
      | put m b => have hn : n = m := hn; simp only [act, hget_hput, hn, if_true]
      | rem m => have hn : n = m := hn; simp only [act, hget_hrem, hn, if_true]

theorem acts_comm (as bs : List HAct) (hp : Hp) (h : ∀ n ∈ as.map HAct.name, n ∉ bs.map HAct.name) (n : Nat) : hget (acts (acts hp as) bs) n = hget (acts (acts hp bs) as) n := by
  by_cases ha : n ∈ as.map HAct.name
  · rw [acts_get bs _ n (h n ha)]
    exact acts_there as _ _ n ha
  · rw [acts_get as (acts hp bs) n ha]
    by_cases hb : n ∈ bs.map HAct.name
    · exact acts_there bs _ _ n hb
    · rw [acts_get bs _ n hb, acts_get bs _ n hb, acts_get as _ n ha]

/-- the same frame, the same blocks -/
structure Alike2 (σ σ' : St) : Prop where
  fr : σ'.fr = σ.fr
  hp : ∀ n, hget σ'.hp n = hget σ.hp n

theorem one_same {C : Ctx} (hC : NatCtx C) {ops : Array Oper} {o : Oper} {σ σ1 σ' : St} {f : Foot} {m : Nat} (h : oneR C ops o { σ with nx := m } = some (f, σ1)) (hf : f.here = true) (ha : Alike2 σ σ') :
    ∃ σ1', oneR C ops o { σ' with nx := m } = some (f, σ1') ∧ Alike2 σ1 σ1' ∧ σ1'.nx = σ1.nx := by
  obtain ⟨v, as, h1, h2, _, h3⟩ := step_local hC h hf
  have := h3 σ'.fr σ'.hp (fun t _ => by rw [ha.fr]) (fun n _ => ha.hp n)
  refine ⟨_, this, ⟨?_, ?_⟩, rfl⟩
  · rw [h1, ha.fr]
  · rw [h1]; exact acts_same as _ _ ha.hp

theorem swap2 {C : Ctx} (hC : NatCtx C) {ops : Array Oper} {x y : Oper} {σ σ1 σ2 : St} {fx fy : Foot} {mx my : Nat} (hy : oneR C ops y { σ with nx := my } = some (fy, σ1)) (hx : oneR C ops x { σ1 with nx := mx } = some (fx, σ2)) (hfy : fy.here = true) (hfx : fx.here = true)
    (hap : Oper.apart ops y x = true) (hc : pairs fy fx = true) :
    ∃ σ1' σ2', oneR C ops x { σ with nx := mx } = some (fx, σ1') ∧ oneR C ops y { σ1' with nx := my } = some (fy, σ2') ∧ Alike2 σ2 σ2' ∧ σ1'.nx = σ2.nx ∧ σ2'.nx = σ1.nx := by
  obtain ⟨a1, a2, a3⟩ := Oper.apart_spec hap
  have see : ∀ (fr : Fr) (v : AVal) (t : Nat), t ∈ x.looksAt ops → rdT (putT fr y.dst v) t = rdT fr t := fun fr v t ht => rdT_put fun d hd e => a1 d hd (by rw [← e]; exact ht)
  have see' : ∀ (fr : Fr) (v : AVal) (t : Nat), t ∈ y.looksAt ops → rdT (putT fr x.dst v) t = rdT fr t := fun fr v t ht => rdT_put fun d hd e => a3 d hd (by rw [← e]; exact ht)
  simp only [pairs, Bool.and_eq_true] at hc
  obtain ⟨⟨c1, c2⟩, c3⟩ := hc
  obtain ⟨vy, ay, y1, y2, _, y3⟩ := step_local hC hy hfy
  obtain ⟨vx, ax, x1, x2, _, x3⟩ := step_local hC hx hfx
  have e1 : σ1.fr = putT σ.fr y.dst vy := by rw [y1]
  have e2 : σ1.hp = acts σ.hp ay := by rw [y1]
  have hx1 := x3 σ.fr σ.hp (fun t ht => by show _ = rdT σ1.fr t; rw [e1]; exact (see σ.fr vy t ht).symm) (fun n hn => by
    show _ = hget σ1.hp n
    rw [e2]
    exact (acts_get ay σ.hp n (fun hm => disj_iff.1 c2 n hn (y2 n hm))).symm)
  have hy1 := y3 (putT σ.fr x.dst vx) (acts σ.hp ax) (fun t ht => see' σ.fr vx t ht) (fun n hn => acts_get ax σ.hp n (fun hm => disj_iff.1 c1 n hn (x2 n hm)))
  refine ⟨_, _, hx1, hy1, ⟨?_, fun n => ?_⟩, rfl, rfl⟩
  · show putT (putT σ.fr x.dst vx) y.dst vy = σ2.fr
    rw [x1]
    show _ = putT σ1.fr x.dst vx
    rw [e1]
    exact putT_comm (fun d hd => fun e => a2 d e hd)
  · show hget (acts (acts σ.hp ax) ay) n = hget σ2.hp n
    rw [x1]
    show _ = hget (acts σ1.hp ax) n
    rw [e2]
    exact acts_comm ax ay σ.hp (fun m hm hm' => disj_iff.1 c3 m (y2 m hm') (x2 m hm)) n

end Go.Ab
