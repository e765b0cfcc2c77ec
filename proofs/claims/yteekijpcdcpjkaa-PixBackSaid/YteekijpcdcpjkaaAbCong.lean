/-
  WHAT ONE OPERATION LOOKS AT: its operands, and the blocks that they name.
-/
import Derived.Test.YteekijpcdcpjkaaAbFlow
set_option linter.unusedVariables false
set_option linter.unusedSimpArgs false
namespace Go.Ab

/-! ### operands -/
theorem rdC_fr {fr fr' : Fr} {x : Operand} (h : rd fr' x = rd fr x) : rdC fr' x = rdC fr x := by unfold rdC; rw [h]
theorem intAt_fr {fr fr' : Fr} {x : Operand} (h : rd fr' x = rd fr x) : intAt fr' x = intAt fr x := by unfold intAt; rw [rdC_fr h]
theorem bound_fr {fr fr' : Fr} {x : Option Operand} {d : Int} (h : ∀ y, x = some y → rd fr' y = rd fr y) : bound fr' x d = bound fr x d := by
  cases x with
  | none => rfl
  | some y => exact intAt_fr (h y rfl)
theorem capsA_fr {fr fr' : Fr} : ∀ (xs : List Operand), (∀ x ∈ xs, rd fr' x = rd fr x) → capsA fr' xs = capsA fr xs := by
  intro xs
  induction xs with
  | nil => intro _; rfl
  | cons x r ih =>
    intro h
    simp only [capsA]
    rw [rdC_fr (h x (by simp)), ih (fun y hy => h y (by simp [hy]))]
theorem elemsA_fr {look : Nat → Option Blk} {fr fr' : Fr} {e : Ty} : ∀ (ps : List (Nat × Operand)) (j : Nat), (∀ p ∈ ps, rd fr' p.2 = rd fr p.2) → elemsA look fr' e j ps = elemsA look fr e j ps := by
  intro ps
  induction ps with
  | nil => intro j _; rfl
  | cons p r ih =>
    intro j h
    obtain ⟨i, x⟩ := p
    simp only [elemsA]
    rw [h (i, x) (by simp), ih (j + 1) (fun y hy => h y (by simp [hy]))]
theorem buildParts_fr {place : Nat → Option (Nat × Nat)} {fr fr' : Fr} : ∀ (ps : List (Nat × Operand)) (cs : List Cell), (∀ p ∈ ps, rd fr' p.2 = rd fr p.2) → buildParts place fr' cs ps = buildParts place fr cs ps := by
  intro ps
  induction ps with
  | nil => intro cs _; rfl
  | cons p r ih =>
    intro cs h
    obtain ⟨i, x⟩ := p
    simp only [buildParts]
    rw [h (i, x) (by simp)]
    cases place i with
    | none => rfl
    | some q => simp only; rw [ih _ (fun y hy => h y (by simp [hy]))]
theorem flatMap_fr {fr fr' : Fr} : ∀ (ps : List (Nat × Operand)), (∀ p ∈ ps, rd fr' p.2 = rd fr p.2) → ps.flatMap (fun p => cellsOf (rd fr' p.2)) = ps.flatMap (fun p => cellsOf (rd fr p.2)) := by
  intro ps h
  rw [List.flatMap_def, List.flatMap_def]
  congr 1
  exact List.map_congr_left fun p hp => by rw [h p hp]
theorem mapC_fr {fr fr' : Fr} : ∀ (xs : List Operand), (∀ x ∈ xs, rd fr' x = rd fr x) → xs.map (rdC fr') = xs.map (rdC fr) := fun xs h => List.map_congr_left fun x hx => rdC_fr (h x hx)

theorem builtinA_fr {E : Env} {look : Nat → Option Blk} {fr fr' : Fr} {nx : Nat} {b : Builtin} {args : List Operand} {ats : List TypeId} (h : ∀ x ∈ args, rd fr' x = rd fr x) :
    builtinA E look fr' nx b args ats = builtinA E look fr nx b args ats := by
  unfold builtinA
  match b, args, ats, h with
  | .len, [x], t :: r, h => simp only [rdC_fr (h x (by simp))]
  | .append, [x, y], t :: u :: r, h => simp only [rdC_fr (h x (by simp)), rdC_fr (h y (by simp))]
  | .copy, [x, y], t :: r, h => simp only [rdC_fr (h x (by simp)), rdC_fr (h y (by simp))]
  | .min, x :: r, ts, h => simp only [rdC_fr (h x (by simp)), mapC_fr r (fun u hu => h u (by simp [hu]))]
  | .max, x :: r, ts, h => simp only [rdC_fr (h x (by simp)), mapC_fr r (fun u hu => h u (by simp [hu]))]
  | .len, [], _, _ => rfl
  | .len, [x], [], _ => rfl
  | .len, x :: y :: r, _, _ => rfl
  | .append, [], _, _ => rfl
  | .append, [x], _, _ => rfl
  | .append, x :: y :: z :: r, _, _ => rfl
  | .append, [x, y], [], _ => rfl
  | .append, [x, y], [t], _ => rfl
  | .copy, [], _, _ => rfl
  | .copy, [x], _, _ => rfl
  | .copy, x :: y :: z :: r, _, _ => rfl
  | .copy, [x, y], [], _ => rfl
  | .min, [], _, _ => rfl
  | .max, [], _, _ => rfl
  | .cap, _, _, _ => rfl
  | .clear, _, _, _ => rfl
  | .close, _, _, _ => rfl
  | .complex, _, _, _ => rfl
  | .delete, _, _, _ => rfl
  | .imag, _, _, _ => rfl
  | .panic, _, _, _ => rfl
  | .print, _, _, _ => rfl
  | .println, _, _, _ => rfl
  | .real, _, _, _ => rfl
  | .recover, _, _, _ => rfl
  | .make, _, _, _ => rfl
  | .new, _, _, _ => rfl
  | .unsafeAdd, _, _, _ => rfl
  | .unsafeSlice, _, _, _ => rfl
  | .unsafeSliceData, _, _, _ => rfl
  | .unsafeString, _, _, _ => rfl
  | .unsafeStringData, _, _, _ => rfl
  | .unsafeSizeof, _, _, _ => rfl
  | .unsafeAlignof, _, _, _ => rfl
  | .unsafeOffsetof, _, _, _ => rfl

theorem stepA_fr {E : Env} {look : Nat → Option Blk} {fr fr' : Fr} {nx : Nat} {o : Op} (h : ∀ x ∈ o.operands.toList, rd fr' x = rd fr x) : stepA E look fr' nx o = stepA E look fr nx o := by
  cases o with
  | move x => simp only [stepA]; rw [h x (by simp [Op.operands])]
  | assign x => simp only [stepA]; rw [h x (by simp [Op.operands])]
  | box t x => simp only [stepA]; rw [h x (by simp [Op.operands])]
  | build t ps =>
    have : ∀ p ∈ ps.toList, rd fr' p.2 = rd fr p.2 := fun p hp => h p.2 (by simp only [Op.operands]; exact List.mem_map.2 ⟨p, hp, rfl⟩)
    have key : ∀ place cs, buildParts place fr' cs ps.toList = buildParts place fr cs ps.toList := fun _ _ => buildParts_fr _ _ this
    simp only [stepA, buildA, key]
  | buildSlice t n ps =>
    have : ∀ p ∈ ps.toList, rd fr' p.2 = rd fr p.2 := fun p hp => h p.2 (by simp only [Op.operands]; exact List.mem_map.2 ⟨p, hp, rfl⟩)
    simp only [stepA, buildSliceA, elemsA_fr _ _ this, flatMap_fr _ this]
  | load t x => simp only [stepA]; rw [rdC_fr (h x (by simp [Op.operands]))]
  | store t x v => simp only [stepA]; rw [rdC_fr (h x (by simp [Op.operands])), h v (by simp [Op.operands])]
  | nilCheck x => simp only [stepA]; rw [rdC_fr (h x (by simp [Op.operands]))]
  | binOp op t x y yt => simp only [stepA]; rw [rdC_fr (h x (by simp [Op.operands])), rdC_fr (h y (by simp [Op.operands]))]
  | unOp op t x => simp only [stepA]; rw [rdC_fr (h x (by simp [Op.operands]))]
  | convert s d x => simp only [stepA]; rw [rdC_fr (h x (by simp [Op.operands]))]
  | makeFunc fn first caps =>
    have : ∀ x ∈ caps.toList, rd fr' x = rd fr x := fun x hx => h x (by simp only [Op.operands, Array.toList_append]; exact List.mem_append_right _ hx)
    cases fn with
    | func f => simp only [stepA, capsA_fr _ this]
    | _ => rfl
  | makeSlice t l c => simp only [stepA]; rw [intAt_fr (h l (by simp [Op.operands])), intAt_fr (h c (by simp [Op.operands]))]
  | slice t x lo hi mx =>
    have hx := rdC_fr (h x (by simp [Op.operands]))
    have hl : ∀ d, bound fr' lo d = bound fr lo d := fun d => bound_fr fun y hy => h y (by subst hy; simp [Op.operands])
    have hh : ∀ d, bound fr' hi d = bound fr hi d := fun d => bound_fr fun y hy => h y (by subst hy; simp [Op.operands])
    have hm : ∀ m, mx = some m → intAt fr' m = intAt fr m := fun m hm => intAt_fr (h m (by subst hm; simp [Op.operands]))
    simp only [stepA, sliceA, hx, hl, hh]
    cases mx with
    | none => rfl
    | some m => simp only [hm m rfl]
  | fieldAddr s x f => simp only [stepA]; rw [rdC_fr (h x (by simp [Op.operands]))]
  | field s x f => simp only [stepA]; rw [h x (by simp [Op.operands])]
  | indexAddr t x i => simp only [stepA]; rw [rdC_fr (h x (by simp [Op.operands])), intAt_fr (h i (by simp [Op.operands]))]
  | index t x i => simp only [stepA]; rw [h x (by simp [Op.operands]), intAt_fr (h i (by simp [Op.operands]))]
  | extract t i => simp only [stepA]; rw [h t (by simp [Op.operands])]
  | call c =>
    obtain ⟨callee, args, ats⟩ := c
    cases callee with
    | builtin b =>
      have : ∀ x ∈ args.toList, rd fr' x = rd fr x := fun x hx => h x (by simpa [Op.operands, Call.operands] using hx)
      simp only [stepA]
      exact builtinA_fr this
    | _ => rfl
  | _ => rfl

/-! ### blocks -/
theorem cellAs_look {look look' : Nat → Option Blk} {t : Ty} {c : Cell} (h : ∀ n ∈ ownOf c, look' n = look n) : cellAs look' t c = cellAs look t c := by
  cases t with
  | slice e =>
    cases c with
    | own n e' => simp only [cellAs]; rw [h n (by simp [ownOf])]
    | sub n e' lo hi => simp only [cellAs]; rw [h n (by simp [ownOf])]
    | _ => rfl
  | _ => cases c <;> rfl

theorem parse_look {look look' : Nat → Option Blk} : ∀ (t : Ty) (cs : List Cell), (∀ c ∈ cs, ∀ n ∈ ownOf c, look' n = look n) → parse look' t cs = parse look t cs := by
  have rest : ∀ (t : Ty) (cs r : List Cell) (x : t.den), parse look t cs = some (x, r) → ∀ c ∈ r, c ∈ cs := by
    intro t
    induction t with
    | unit => intro cs r x h; simp only [parse, Option.some.injEq, Prod.mk.injEq] at h; obtain ⟨_, rfl⟩ := h; exact fun c hc => hc
    | pair a b iha ihb =>
      intro cs r x h
      simp only [parse] at h
      cases h1 : parse look a cs with
      | none => rw [h1] at h; cases h
      | some p =>
        obtain ⟨y, r1⟩ := p
        rw [h1] at h
        simp only at h
        cases h2 : parse look b r1 with
        | none => rw [h2] at h; cases h
        | some q =>
          obtain ⟨z, r2⟩ := q
          rw [h2] at h
          simp only [Option.some.injEq, Prod.mk.injEq] at h
          obtain ⟨_, rfl⟩ := h
          exact fun c hc => iha _ _ _ h1 c (ihb _ _ _ h2 c hc)
    | _ =>
      intro cs r x h
      cases cs with
      | nil => simp [parse] at h
      | cons c cs =>
        simp only [parse, Option.map_eq_some_iff] at h
        obtain ⟨y, _, h⟩ := h
        simp only [Prod.mk.injEq] at h
        obtain ⟨_, rfl⟩ := h
        exact fun d hd => by simp [hd]
  intro t
  induction t with
  | unit => intro cs _; rfl
  | pair a b iha ihb =>
    intro cs h
    simp only [parse]
    rw [iha cs h]
    cases h1 : parse look a cs with
    | none => rfl
    | some p =>
      obtain ⟨y, r1⟩ := p
      simp only
      rw [ihb r1 (fun c hc => h c (rest _ _ _ _ h1 c hc))]
  | _ =>
    intro cs h
    cases cs with
    | nil => rfl
    | cons c cs => simp only [parse]; rw [cellAs_look (h c (by simp))]

theorem parseAll_look {look look' : Nat → Option Blk} {t : Ty} {cs : List Cell} (h : ∀ c ∈ cs, ∀ n ∈ ownOf c, look' n = look n) : parseAll look' t cs = parseAll look t cs := by
  unfold parseAll
  rw [parse_look t cs h]

theorem ownOf_names {c : Cell} {n : Nat} (h : n ∈ ownOf c) : n ∈ namesOfCell c := by
  cases c <;> first | exact h | (simp [ownOf] at h)

theorem touched_mem {fr : Fr} {o : Op} {x : Operand} (hx : x ∈ o.operands.toList) {n : Nat} (hn : n ∈ namesOfV (rd fr x)) : n ∈ touched fr o := by
  have lit : ∀ v : Value, namesOfCell (litCell v) = [] := by
    intro v
    cases v with
    | int k m => simp only [litCell]; split <;> rfl
    | string s => simp only [litCell]; split <;> rfl
    | slice a l c =>
      cases a with
      | some a => rfl
      | none => cases l with
        | succ l => rfl
        | zero => cases c <;> rfl
    | _ => rfl
  have lits : ∀ v : Value, namesOfV (litV v) = [] := by
    intro v
    have one : ∀ v : Value, namesOfV (.one (litCell v)) = [] := fun v => lit v
    cases v with
    | agg cs =>
      simp only [litV]
      split
      · simp only [namesOfV, List.flatMap_map]
        exact List.flatMap_eq_nil_iff.2 fun c _ => lit c
      · rfl
    | _ => exact one _
  cases x with
  | tmp t => exact List.mem_flatMap.2 ⟨_, hx, hn⟩
  | const v => simp only [rd] at hn; rw [lits] at hn; cases hn
  | func f => simp [rd, namesOfV, namesOfCell] at hn
  | global g => simp [rd, namesOfV, namesOfCell] at hn

theorem rdC_names {fr : Fr} {x : Operand} {n : Nat} (h : n ∈ namesOfCell (rdC fr x)) : n ∈ namesOfV (rd fr x) := by
  unfold rdC at h
  split at h
  · rename_i c hc; rw [hc]; exact h
  · simp [namesOfCell] at h

theorem loadA_look {E : Env} {look look' : Nat → Option Blk} {t : TypeId} {c : Cell} (h : ∀ n ∈ namesOfCell c, look' n = look n) : loadA E look' t c = loadA E look t c := by
  unfold loadA
  cases c with
  | ptr n off => simp only [h n (by simp [namesOfCell])]
  | eptr n e i off => simp only [h n (by simp [namesOfCell])]
  | val ty x => cases ty <;> rfl
  | _ => rfl

theorem indexAddrA_look {E : Env} {look look' : Nat → Option Blk} {t : TypeId} {c : Cell} {i : Int} (h : ∀ n ∈ namesOfCell c, look' n = look n) : indexAddrA E look' t c i = indexAddrA E look t c i := by
  unfold indexAddrA
  cases c with
  | own n e => simp only [h n (by simp [namesOfCell])]
  | sub n e lo hi => simp only [h n (by simp [namesOfCell])]
  | val ty x => cases ty <;> rfl
  | _ => rfl

theorem lenA_look {E : Env} {look look' : Nat → Option Blk} {t : TypeId} {c : Cell} (h : ∀ n ∈ namesOfCell c, look' n = look n) : lenA E look' t c = lenA E look t c := by
  have : ∀ b, lenOfCell look' b c = lenOfCell look b c := by
    intro b
    cases c with
    | own n e => simp only [lenOfCell, h n (by simp [namesOfCell])]
    | sub n e lo hi => simp only [lenOfCell, h n (by simp [namesOfCell])]
    | val ty x => cases ty <;> rfl
    | _ => rfl
  unfold lenA
  simp only [this]

theorem sliceA_look {E : Env} {look look' : Nat → Option Blk} {fr : Fr} {t : TypeId} {c : Cell} {lo hi mx : Option Operand} (h : ∀ n ∈ namesOfCell c, look' n = look n) : sliceA E look' fr t c lo hi mx = sliceA E look fr t c lo hi mx := by
  unfold sliceA
  cases c with
  | own n e => simp only [h n (by simp [namesOfCell])]
  | sub n e lo hi => simp only [h n (by simp [namesOfCell])]
  | val ty x => cases ty <;> rfl
  | _ => rfl

/-- An operation that leaves the blocks alone does the same where the blocks that its operands name are the same. -/
theorem stepA_look {E : Env} {look look' : Nat → Option Blk} {fr : Fr} {nx nx' : Nat} {o : Op} {out : Out} (hs : stepA E look fr nx o = some out) (h1 : out.acts = []) (h2 : out.made = 0) (h : ∀ n ∈ touched fr o, look' n = look n) :
    stepA E look' fr nx' o = some out := by
  have hx : ∀ x ∈ o.operands.toList, ∀ n ∈ namesOfCell (rdC fr x), look' n = look n := fun x hx n hn => h n (touched_mem hx (rdC_names hn))
  cases o with
  | alloc t =>
    simp only [stepA] at hs
    split at hs
    · split at hs
      · simp only [Option.some.injEq] at hs; subst hs; simp at h2
      · cases hs
    · cases hs
  | box t x =>
    simp only [stepA] at hs
    split at hs
    · simp only [Option.some.injEq] at hs; subst hs; simp at h2
    · cases hs
  | buildSlice t n ps =>
    exfalso
    simp only [stepA, buildSliceA] at hs
    repeat' split at hs
    all_goals first | (cases hs; done) | (simp only [Option.some.injEq] at hs; subst hs; simp at h2)
  | load t x => simp only [stepA] at hs ⊢; rw [loadA_look (hx x (by simp [Op.operands]))]; exact hs
  | store t x v =>
    exfalso
    simp only [stepA, storeA] at hs
    repeat' split at hs
    all_goals first | (cases hs; done) | (simp only [Option.some.injEq] at hs; subst hs; simp at h1)
  | convert s d x =>
    have hc := hx x (by simp [Op.operands])
    simp only [stepA] at hs ⊢
    unfold convertA at hs ⊢
    split at hs
    · exact hs
    · exact hs
    · split at hs
      · rw [cellAs_look (fun n hn => hc n (ownOf_names hn))]
        exact hs
      · cases hs
    · split at hs
      · split at hs
        · simp only [Option.some.injEq] at hs; subst hs; simp at h2
        · cases hs
      · cases hs
    · cases hs
  | makeSlice t l c =>
    exfalso
    simp only [stepA, makeA] at hs
    repeat' split at hs
    all_goals first | (cases hs; done) | (simp only [Option.some.injEq] at hs; subst hs; simp at h2)
  | slice t x lo hi mx => simp only [stepA] at hs ⊢; rw [sliceA_look (hx x (by simp [Op.operands]))]; exact hs
  | indexAddr t x i =>
    simp only [stepA] at hs ⊢
    split at hs
    · rw [indexAddrA_look (hx x (by simp [Op.operands]))]; exact hs
    · cases hs
  | call c =>
    obtain ⟨callee, args, ats⟩ := c
    cases callee with
    | builtin b =>
      have hx' : ∀ x ∈ args.toList, ∀ n ∈ namesOfCell (rdC fr x), look' n = look n := fun x hm => hx x (by simpa [Op.operands, Call.operands] using hm)
      simp only [stepA] at hs ⊢
      unfold builtinA at hs ⊢
      generalize args.toList = l at hs hx'
      generalize ats.toList = ts at hs
      split at hs
      · rename_i x t r
        rw [lenA_look (hx' x (by simp))]
        exact hs
      · exfalso
        split at hs
        · unfold appendA at hs
          repeat' split at hs
          all_goals first | (cases hs; done) | (simp only [Option.some.injEq, Option.map_eq_some_iff] at hs; first | (subst hs; simp at h2) | (obtain ⟨_, _, rfl⟩ := hs; simp at h2))
        · cases hs
      · exfalso
        unfold copyA at hs
        repeat' split at hs
        all_goals first | (cases hs; done) | (simp only [Option.some.injEq, Option.map_eq_some_iff] at hs; first | (subst hs; simp at h1) | (obtain ⟨_, _, rfl⟩ := hs; simp at h1))
      · exact hs
      · exact hs
      · cases hs
    | _ => exact hs
  | makeFunc fn first caps => cases fn <;> exact hs
  | _ => exact hs

/-! ### the same names: whatever it does -/
theorem srcAs_look {look look' : Nat → Option Blk} {e : Ty} {c : Cell} (h : ∀ n ∈ ownOf c, look' n = look n) : srcAs look' e c = srcAs look e c := by
  unfold srcAs
  split
  · rfl
  · exact cellAs_look h

theorem appendA_look {E : Env} {look look' : Nat → Option Blk} {nx : Nat} {t : TypeId} {x y : Cell} (hx : ∀ n ∈ namesOfCell x, look' n = look n) (hy : ∀ n ∈ namesOfCell y, look' n = look n) : appendA E look' nx t x y = appendA E look nx t x y := by
  unfold appendA
  have hy' : ∀ n ∈ ownOf y, look' n = look n := fun n hn => hy n (ownOf_names hn)
  cases x with
  | own n e => simp only [srcAs_look hy', hx n (by simp [namesOfCell])]
  | sub n e lo hi => simp only [srcAs_look hy', hx n (by simp [namesOfCell])]
  | _ => simp only [srcAs_look hy']

theorem copyA_look {E : Env} {look look' : Nat → Option Blk} {t : TypeId} {x y : Cell} (hx : ∀ n ∈ namesOfCell x, look' n = look n) (hy : ∀ n ∈ namesOfCell y, look' n = look n) : copyA E look' t x y = copyA E look t x y := by
  unfold copyA
  have hy' : ∀ n ∈ ownOf y, look' n = look n := fun n hn => hy n (ownOf_names hn)
  cases x with
  | own n e => simp only [srcAs_look hy', hx n (by simp [namesOfCell])]
  | sub n e lo hi => simp only [srcAs_look hy', hx n (by simp [namesOfCell])]
  | _ => simp only [srcAs_look hy']

theorem cells_names {v : AVal} {c : Cell} (hc : c ∈ cellsOf v) {n : Nat} (hn : n ∈ ownOf c) : n ∈ namesOfV v := by
  cases v with
  | one d => simp only [cellsOf, List.mem_singleton] at hc; subst hc; exact ownOf_names hn
  | pure t x => rw [flat_own t x c hc] at hn; cases hn
  | agg cs => exact List.mem_flatMap.2 ⟨c, hc, ownOf_names hn⟩
  | tup ps => cases hc

theorem reify_look {look look' : Nat → Option Blk} {t : Ty} {v : AVal} (h : ∀ n ∈ namesOfV v, look' n = look n) : reify look' t v = reify look t v := by
  unfold reify
  split
  · rfl
  · rw [parseAll_look fun c hc n hn => h n (cells_names hc hn)]

theorem elemsA_look {look look' : Nat → Option Blk} {fr : Fr} {e : Ty} : ∀ (ps : List (Nat × Operand)) (j : Nat), (∀ p ∈ ps, ∀ n ∈ namesOfV (rd fr p.2), look' n = look n) → elemsA look' fr e j ps = elemsA look fr e j ps := by
  intro ps
  induction ps with
  | nil => intro j _; rfl
  | cons p r ih =>
    intro j h
    obtain ⟨i, x⟩ := p
    simp only [elemsA]
    rw [reify_look (h (i, x) (by simp)), ih (j + 1) fun q hq => h q (by simp [hq])]

theorem storeA_look {E : Env} {look look' : Nat → Option Blk} {t : TypeId} {a : Cell} {v : AVal} (ha : ∀ n ∈ namesOfCell a, look' n = look n) (hv : ∀ n ∈ namesOfV v, look' n = look n) : storeA E look' t a v = storeA E look t a v := by
  unfold storeA
  cases a with
  | ptr n off => simp only [ha n (by simp [namesOfCell])]
  | eptr n e i off =>
    simp only [ha n (by simp [namesOfCell])]
    have hp : ∀ xs : List e.den, parseAll look' e (splice (flat e (getI e.dflt xs i)) off (cellsOf v)) = parseAll look e (splice (flat e (getI e.dflt xs i)) off (cellsOf v)) := fun xs => by
      refine parseAll_look fun c hc m hm => ?_
      unfold splice at hc
      rcases List.mem_append.1 hc with hc | hc
      · rcases List.mem_append.1 hc with hc | hc
        · rw [flat_own e _ c (List.mem_of_mem_take hc)] at hm; cases hm
        · exact hv m (cells_names hc hm)
      · rw [flat_own e _ c (List.mem_of_mem_drop hc)] at hm; cases hm
    simp only [hp]
  | _ => rfl

theorem convertA_look {E : Env} {look look' : Nat → Option Blk} {nx : Nat} {s d : TypeId} {c : Cell} (h : ∀ n ∈ namesOfCell c, look' n = look n) : convertA E look' nx s d c = convertA E look nx s d c := by
  have hc : ∀ t, cellAs look' t c = cellAs look t c := fun t => cellAs_look (fun n hn => h n (ownOf_names hn))
  unfold convertA
  split
  · rfl
  · rfl
  · rw [hc]
  · rfl
  · rfl

theorem stepA_look2 {E : Env} {look look' : Nat → Option Blk} {fr : Fr} {nx : Nat} {o : Op} (h : ∀ n ∈ touched fr o, look' n = look n) : stepA E look' fr nx o = stepA E look fr nx o := by
  have hv : ∀ x ∈ o.operands.toList, ∀ n ∈ namesOfV (rd fr x), look' n = look n := fun x hx n hn => h n (touched_mem hx hn)
  have hx : ∀ x ∈ o.operands.toList, ∀ n ∈ namesOfCell (rdC fr x), look' n = look n := fun x hx n hn => hv x hx n (rdC_names hn)
  cases o with
  | buildSlice t n ps =>
    simp only [stepA, buildSliceA]
    have he : ∀ e : Ty, elemsA look' fr e 0 ps.toList = elemsA look fr e 0 ps.toList := fun e => elemsA_look ps.toList 0 fun p hp => hv p.2 (by simp only [Op.operands, Array.toList_map, List.mem_map]; exact ⟨p, hp, rfl⟩)
    simp only [he]
  | load t x => simp only [stepA]; rw [loadA_look (hx x (by simp [Op.operands]))]
  | store t x v => simp only [stepA]; rw [storeA_look (hx x (by simp [Op.operands])) (hv v (by simp [Op.operands]))]
  | convert s d x => simp only [stepA]; rw [convertA_look (hx x (by simp [Op.operands]))]
  | slice t x lo hi mx => simp only [stepA]; rw [sliceA_look (hx x (by simp [Op.operands]))]
  | indexAddr t x i =>
    have he : ∀ i, indexAddrA E look' t (rdC fr x) i = indexAddrA E look t (rdC fr x) i := fun i => indexAddrA_look (hx x (by simp [Op.operands]))
    simp only [stepA, he]
  | makeFunc fn first caps => cases fn <;> rfl
  | call c =>
    obtain ⟨callee, args, ats⟩ := c
    cases callee with
    | builtin b =>
      have hx' : ∀ x ∈ args.toList, ∀ n ∈ namesOfCell (rdC fr x), look' n = look n := fun x hm => hx x (by simpa [Op.operands, Call.operands] using hm)
      simp only [stepA]
      unfold builtinA
      generalize args.toList = l at hx'
      generalize ats.toList = ts
      split
      · rename_i x t r; rw [lenA_look (hx' x (by simp))]
      · rename_i x y t u r; rw [appendA_look (hx' x (by simp)) (hx' y (by simp))]
      · rename_i x y t r; rw [copyA_look (hx' x (by simp)) (hx' y (by simp))]
      · rfl
      · rfl
      · rfl
    | _ => rfl
  | _ => rfl

end Go.Ab
