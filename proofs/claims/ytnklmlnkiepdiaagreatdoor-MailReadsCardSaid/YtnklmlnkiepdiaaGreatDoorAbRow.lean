/-
  THE ROW: what an argument reads as is typed data; behind a call that turns nothing that was there it reads so again. So a pure function that is always true proves the row's post.
-/
import Derived.Test.YtnklmlnkiepdiaaGreatDoorAbCtx
import Derived.Test.YtnklmlnkiepdiaaGreatDoorRows
import Derived.OpenShut
import Derived.DataShut
set_option linter.unusedVariables false
set_option linter.unusedSectionVars false
set_option linter.unusedSimpArgs false
namespace Go.Ab
variable [Tabs]
open Go.RowKit Go.ChangeShapes Go.WideShapes

/-! ### types that fit -/
def fitTail (r : Ty → TypeId → Bool) (P : Program) : Ty → List Field → Nat → Bool
  | _, [], _ => false
  | τ, [f], off => r τ f.type && decide (f.offset = off ∧ τ.size = P.cellsOf f.type)
  | .pair a b, f :: g :: fs, off => r a f.type && decide (f.offset = off ∧ a.size = P.cellsOf f.type) && fitTail r P b (g :: fs) (off + a.size)
  | _, _ :: _ :: _, _ => false

def fitFields (r : Ty → TypeId → Bool) (P : Program) : Ty → List Field → Bool
  | .unit, [] => true
  | .pair a .unit, [f] => fitTail r P a [f] 0
  | τ, f :: g :: fs => fitTail r P τ (f :: g :: fs) 0
  | _, _ => false

def fitTy (P : Program) : Nat → Ty → TypeId → Bool
  | 0, _, _ => false
  | n + 1, τ, t =>
    match P.underlying t with
    | some .bool => decide (τ = .bool)
    | some (.int k) => decide (τ = .int k)
    | some .string => decide (τ = .str)
    | some (.slice e) => (match τ with | .slice ε => fitTy P n ε e && decide (ε.size = P.cellsOf e ∧ 0 < ε.size) | _ => false)
    | some (.struct fs) => fitFields (fitTy P n) P τ fs.toList && decide (τ.size = P.cellsOf t)
    | _ => false

/-- how much data -/
def Ty.bulk : (t : Ty) → t.den → Nat
  | .int _, _ => 1
  | .bool, _ => 1
  | .str, s => List.length s + 1
  | .slice e, xs => (List.map e.bulk xs).sum + 1
  | .unit, _ => 0
  | .pair a b, p => a.bulk p.1 + b.bulk p.2
  | .map _ _, _ => 0

/-- what is known of the data as such -/
def Ty.ok : (t : Ty) → t.den → Prop
  | .int k, n => k.wrap n = n
  | .bool, _ => True
  | .str, s => ∀ c ∈ (s : List Int), 0 ≤ c ∧ c < 256
  | .slice e, xs => ∀ x ∈ (xs : List e.den), e.ok x
  | .unit, _ => True
  | .pair a b, p => a.ok p.1 ∧ b.ok p.2
  | .map _ _, _ => True

theorem VRel.ok {w : World} {O : Nat → Prop} : ∀ (t : Ty) (x : t.den) (cs : List Value), VRel w O t x cs → t.ok x := by
  intro t
  induction t with
  | int k => intro x cs h; exact h.2
  | bool => intro x cs h; trivial
  | str =>
    intro x cs h
    obtain ⟨ba, _, rfl, _⟩ := h
    intro c hc
    obtain ⟨b, _, rfl⟩ := List.mem_map.1 hc
    have := b.toNat_lt
    omega
  | unit => intro x cs h; trivial
  | map k v _ _ => intro x cs h; trivial
  | pair a b iha ihb =>
    intro x cs h
    obtain ⟨c1, c2, _, h1, h2⟩ := h
    exact ⟨iha _ _ h1, ihb _ _ h2⟩
  | slice e ih =>
    intro x cs h
    obtain ⟨a, cap, _, _, _, h3⟩ := h
    intro y hy
    obtain ⟨_, _, _, _, _, _, _, _, _, hv⟩ := h3 (by intro hx; rw [hx] at hy; cases hy)
    obtain ⟨i, hi, rfl⟩ := List.mem_iff_getElem.1 hy
    exact ih _ _ (hv i hi)

theorem cells_get {w : World} {b n : Nat} {a : Addr} {cs : List Value} (h : w.cells? b a n = some cs) (hn : 0 < n) :
    ∃ B o row E fz, a = ⟨B, o, none⟩ ∧ w.heap[B]? = some (.cells row E fz) ∧ o + n ≤ row.size ∧ cs = part_ row o n := by
  unfold World.cells? at h
  split at h
  · have hl := mapM_some_length h
    have hg : ∀ i, i < n → w.cell? (a.add i) = cs[i]? := fun i hi => by
      have := mapM_some_get h i i (by simp [hi])
      exact this
    have hlen : cs.length = n := by simpa using hl
    obtain ⟨B, o, sp⟩ := a
    have g0 := hg 0 hn
    simp only [Addr.add, if_true] at g0
    have hc0 : ∃ c, cs[0]? = some c := ⟨cs[0]'(by omega), List.getElem?_eq_getElem _⟩
    obtain ⟨c0, hc0⟩ := hc0
    rw [hc0] at g0
    unfold World.cell? at g0
    split at g0
    · rename_i row E fz hb
      split at g0
      · cases g0
      · rename_i hs
        simp only [Option.isSome_iff_ne_none, ne_eq, Decidable.not_not] at hs
        subst hs
        have hrow : ∀ i, i < n → row[o + i]? = cs[i]? := fun i hi => by
          rw [← hg i hi, add0]
          unfold World.cell?
          simp only at hb
          rw [hb]
          simp
        have hsz : o + n ≤ row.size := by
          have := hrow (n - 1) (by omega)
          rw [List.getElem?_eq_getElem (by omega)] at this
          have h2 := (Array.getElem?_eq_some_iff.1 this).1
          omega
        refine ⟨B, o, row, E, fz, rfl, hb, hsz, ?_⟩
        apply List.ext_getElem?
        intro i
        by_cases hi : i < n
        · rw [part_get hi, hrow i hi]
        · rw [List.getElem?_eq_none (by omega), List.getElem?_eq_none (by rw [part_len hsz]; omega)]
    · cases g0
  · cases h

theorem cells_same {w w' : World} (hb : Below w.heap.size w w') {b n : Nat} {a : Addr} {cs : List Value} (h : w.cells? b a n = some cs) : w'.cells? b a n = some cs := by
  unfold World.cells? at h ⊢
  split at h
  · rename_i hle
    rw [if_pos hle]
    have hl := mapM_some_length h
    refine mapM_some_of_get _ _ hl fun i x hx => ?_
    have := mapM_some_get h i x hx
    rw [← this]
    have hi : i < cs.length := by
      have := (List.getElem?_eq_some_iff.1 hx).1
      omega
    rw [List.getElem?_eq_getElem hi] at this
    unfold World.cell? at this ⊢
    have hblk : (a.add x).block < w.heap.size := by
      split at this
      · rename_i hb' ; exact heap_lt hb'
      · cases this
    rw [hb.block _ hblk]
  · cases h

theorem choose_list {α : Type} {R : Nat → α → Prop} : ∀ (n : Nat), (∀ i, i < n → ∃ v, R i v) → ∃ xs : List α, xs.length = n ∧ ∀ i (h : i < xs.length), R i xs[i]
  | 0, _ => ⟨[], rfl, fun i h => by simp at h⟩
  | n + 1, h => by
    obtain ⟨xs, h1, h2⟩ := choose_list n fun i hi => h i (by omega)
    obtain ⟨v, hv⟩ := h n (by omega)
    refine ⟨xs ++ [v], by simp [h1], fun i hi => ?_⟩
    by_cases hin : i < n
    · rw [List.getElem_append_left (by omega)]; exact h2 i (by omega)
    · have e : i = n := by simp [h1] at hi; omega
      subst e
      simp [h1, hv]

open Go.Proofs.YtnklmlnkiepdiaaGreatDoor.Rows (uptoBulk uptoBulkAll)

theorem bulk_sum {H α : Type} {f : α → Nat} : ∀ {xs : List α} {ds : List (DataW H)}, xs.length = ds.length → (∀ i (h : i < xs.length) (h' : i < ds.length), f xs[i] ≤ uptoBulk ds[i]) → (xs.map f).sum ≤ uptoBulkAll ds
  | [], [], _, _ => Nat.zero_le _
  | [], _ :: _, h, _ => by simp at h
  | _ :: _, [], h, _ => by simp at h
  | x :: xs, d :: ds, h, g => by
    simp only [List.map_cons, List.sum_cons, uptoBulkAll]
    have h0 := g 0 (by simp) (by simp)
    have h1 := bulk_sum (xs := xs) (ds := ds) (by simpa using h) fun i h h' => g (i + 1) (by simp; omega) (by simp; omega)
    simp only [List.getElem_cons_zero] at h0
    omega

variable {H : Type} {enc : TypeId × Value → H} {P : Program} {w : World}

/-- What a cell run that reads as d is. -/
def ReadOK (P : Program) (enc : TypeId × Value → H) (w : World) (n : Nat) (τ : Ty) (t : TypeId) (cs : List Value) (x : DataW H × List MemPlace) : Prop :=
  (∃ v : τ.den, VRel w (fun _ => False) τ v cs ∧ τ.bulk v ≤ uptoBulk x.1) ∧
  ∀ (w' : World) (sp : Nat → Bool), Below w.heap.size w w' → (∀ p ∈ x.2, sp p.block = true) → DataW.trod enc P w' 0 sp true n t cs = some x

theorem tail_rel {r : Ty → TypeId → Bool} {n : Nat} (hr : ∀ (t : TypeId) (cs : List Value) (x : DataW H × List MemPlace) (τ : Ty), DataW.trod enc P w 0 (fun _ => true) true n t cs = some x → r τ t = true → ReadOK P enc w n τ t cs x) {cs : List Value} :
    ∀ (fs : List Field) (τ : Ty) (off : Nat) (xs : List (DataW H × List MemPlace)), fitTail r P τ fs off = true → off + τ.size ≤ cs.length → xs.length = fs.length →
      (∀ (i : Nat) (f : Field), fs[i]? = some f → DataW.trod enc P w 0 (fun _ => true) true n f.type ((cs.drop f.offset).take (P.cellsOf f.type)) = xs[i]?) →
      ∃ v : τ.den, VRel w (fun _ => False) τ v ((cs.drop off).take τ.size) ∧ τ.bulk v ≤ uptoBulkAll (xs.map (·.1)) := by
  intro fs
  induction fs with
  | nil => intro τ off xs h; cases τ <;> simp [fitTail] at h
  | cons f r' ih =>
    intro τ off xs h hs hl hx
    match xs, hl with
    | x :: xs, hl =>
    have h0 := hx 0 f rfl
    simp only [List.getElem?_cons_zero] at h0
    cases r' with
    | nil =>
      have h : (r τ f.type && decide (f.offset = off ∧ τ.size = P.cellsOf f.type)) = true := by cases τ <;> exact h
      simp only [Bool.and_eq_true, decide_eq_true_eq] at h
      obtain ⟨h1, h2, h3⟩ := h
      obtain ⟨⟨v, g1, g2⟩, _⟩ := hr _ _ _ _ h0 h1
      rw [h2, ← h3] at g1
      have : xs = [] := by simpa using hl
      subst this
      exact ⟨v, g1, by simp only [List.map_cons, List.map_nil, uptoBulkAll]; omega⟩
    | cons g fs =>
      cases τ with
      | pair a b =>
        simp only [fitTail, Bool.and_eq_true, decide_eq_true_eq] at h
        obtain ⟨⟨h1, h2, h3⟩, h4⟩ := h
        obtain ⟨⟨v, g1, g2⟩, _⟩ := hr _ _ _ _ h0 h1
        rw [h2, ← h3] at g1
        simp only [Ty.size] at hs
        obtain ⟨u, g3, g4⟩ := ih b (off + a.size) xs h4 (by omega) (by simpa using hl) fun i f' hf => by
          have := hx (i + 1) f' (by simpa using hf)
          simpa using this
        refine ⟨(v, u), ⟨_, _, ?_, g1, g3⟩, ?_⟩
        · simp only [Ty.size]
          rw [List.take_add, List.drop_drop]
        · simp only [Ty.bulk, List.map_cons, uptoBulkAll]
          omega
      | _ => simp [fitTail] at h

theorem trod_rel : ∀ (n m : Nat) (t : TypeId) (cs : List Value) (x : DataW H × List MemPlace) (τ : Ty), DataW.trod enc P w 0 (fun _ => true) true n t cs = some x → fitTy P m τ t = true → ReadOK P enc w n τ t cs x := by
  intro n
  induction n with
  | zero => intro m t cs x τ h; simp [DataW.trod] at h
  | succ n ih =>
    intro m t cs x τ h hf
    cases m with
    | zero => simp [fitTy] at hf
    | succ m =>
    unfold fitTy at hf
    cases ht : P.underlying t with
    | none => rw [ht] at hf; cases hf
    | some d =>
    rw [ht] at hf
    cases d with
    | bool =>
      simp only [decide_eq_true_eq] at hf
      subst hf
      obtain ⟨b, rfl, rfl⟩ := DataW.trod_bool ht h
      exact ⟨⟨b, rfl, by simp [Ty.bulk, uptoBulk]⟩, fun w' sp _ _ => by unfold DataW.trod; rw [ht]⟩
    | int k =>
      simp only [decide_eq_true_eq] at hf
      subst hf
      obtain ⟨i, rfl, rfl, hw⟩ := DataW.trod_int ht h
      refine ⟨⟨i, ⟨rfl, ?_⟩, by simp [Ty.bulk, uptoBulk]⟩, fun w' sp _ _ => by unfold DataW.trod; rw [ht]; simp [hw]⟩
      have hw' := hw
      cases k <;> simp [Lit.wf, IntKind.wrap, IntKind.min, IntKind.max, IntKind.signed, IntKind.bits] at hw' ⊢ <;> omega
    | string =>
      simp only [decide_eq_true_eq] at hf
      subst hf
      obtain ⟨s, rfl, rfl, hs⟩ := DataW.trod_string ht h
      refine ⟨⟨bytesOf s, ⟨s, rfl, rfl, hs⟩, ?_⟩, fun w' sp _ _ => by unfold DataW.trod; rw [ht]; simp [hs]⟩
      simp [Ty.bulk, uptoBulk, bytesOf]
    | slice e =>
      cases τ with
      | slice ε =>
        simp only [Bool.and_eq_true, decide_eq_true_eq] at hf
        obtain ⟨hf, hc, h0⟩ := hf
        rcases DataW.trod_slice ht h with ⟨rfl, rfl⟩ | ⟨a, len, cap, elems, rest, n', hn, rfl, rfl, _, hle, hcap, hel, hget, hrest, _⟩
        · exact ⟨⟨[], ⟨none, 0, rfl, Nat.le_refl _, Nat.zero_le _, fun h => absurd rfl h⟩, by simp [Ty.bulk, uptoBulk]⟩, fun w' sp _ _ => by unfold DataW.trod; rw [ht]; rfl⟩
        · have hn : n = n' := by omega
          subst hn
          obtain ⟨hrl, hrg⟩ := hrest rfl
          -- an element's cells
          have elem : ∀ i, i < len → ∃ cs', w.cells? 0 (a.add (i * P.cellsOf e)) (P.cellsOf e) = some cs' ∧ ∃ y, elems[i]? = some y ∧ DataW.trod enc P w 0 (fun _ => true) true n e cs' = some y := fun i hi => by
            have hg := hget i hi
            have hy : elems[i]? = some (elems[i]'(by omega)) := List.getElem?_eq_getElem _
            rw [hy] at hg
            cases hc' : w.cells? 0 (a.add (i * P.cellsOf e)) (P.cellsOf e) with
            | none => rw [hc'] at hg; cases hg
            | some cs' => rw [hc'] at hg; exact ⟨cs', rfl, _, hy, hg⟩
          have relem : ∀ j, j < cap - len → ∃ cs', w.cells? 0 (a.add ((len + j) * P.cellsOf e)) (P.cellsOf e) = some cs' ∧ ∃ y, rest[j]? = some y ∧ DataW.trod enc P w 0 (fun _ => true) true n e cs' = some y := fun i hi => by
            have hg := hrg i hi
            have hy : rest[i]? = some (rest[i]'(by omega)) := List.getElem?_eq_getElem _
            rw [hy] at hg
            cases hc' : w.cells? 0 (a.add ((len + i) * P.cellsOf e)) (P.cellsOf e) with
            | none => rw [hc'] at hg; cases hg
            | some cs' => rw [hc'] at hg; exact ⟨cs', rfl, _, hy, hg⟩
          have hpos : 0 < P.cellsOf e := by omega
          constructor
          · -- the data
            have hv : ∀ i, i < len → ∃ v : ε.den, (∃ cs', w.cells? 0 (a.add (i * P.cellsOf e)) (P.cellsOf e) = some cs' ∧ VRel w (fun _ => False) ε v cs') ∧ ∃ y, elems[i]? = some y ∧ ε.bulk v ≤ uptoBulk y.1 := fun i hi => by
              obtain ⟨cs', g1, y, g2, g3⟩ := elem i hi
              obtain ⟨⟨v, g4, g5⟩, _⟩ := ih m e cs' y ε g3 hf
              exact ⟨v, ⟨cs', g1, g4⟩, y, g2, g5⟩
            obtain ⟨xs, hxl, hxs⟩ := choose_list len hv
            refine ⟨xs, ⟨some a, cap, by rw [hxl], by omega, hcap, fun hne => ?_⟩, ?_⟩
            · have hlen : 0 < len := by
                rw [← hxl]; exact List.length_pos_iff.2 hne
              obtain ⟨⟨cs0, g1, _⟩, _⟩ := hxs 0 (by omega)
              simp only [Nat.zero_mul] at g1
              obtain ⟨B, o, row, E, fz, ha, hb, _, _⟩ := cells_get g1 hpos
              simp only [Addr.add, if_true] at ha
              subst ha
              have each : ∀ i, i < len → (o + i * P.cellsOf e) + P.cellsOf e ≤ row.size ∧ ∀ cs', w.cells? 0 ((⟨B, o, none⟩ : Addr).add (i * P.cellsOf e)) (P.cellsOf e) = some cs' → cs' = part_ row (o + i * P.cellsOf e) (P.cellsOf e) := fun i hi => by
                obtain ⟨cs', g1, _⟩ := elem i hi
                obtain ⟨B', o', row', E', fz', ha', hb', hs', hp'⟩ := cells_get g1 hpos
                rw [add0] at ha'
                injection ha' with e1 e2
                subst e1; subst e2
                rw [hb] at hb'
                simp only [Option.some.injEq, Obj.cells.injEq] at hb'
                obtain ⟨rfl, rfl, rfl⟩ := hb'
                exact ⟨hs', fun cs2 g2 => by rw [g1] at g2; cases g2; exact hp'⟩
              refine ⟨B, o, row, E, fz, rfl, fun h => h, hb, ?_, fun i hi => ?_⟩
              · have := (each (len - 1) (by omega)).1
                rw [hc, hxl]
                have e1 : len * P.cellsOf e = (len - 1) * P.cellsOf e + P.cellsOf e := by
                  conv => lhs; rw [show len = (len - 1) + 1 from by omega, Nat.add_mul, Nat.one_mul]
                omega
              · obtain ⟨⟨cs', g1, g2⟩, _⟩ := hxs i hi
                have := (each i (by omega)).2 cs' g1
                rw [hc, ← this]
                exact g2
            · simp only [Ty.bulk, uptoBulk]
              have := bulk_sum (f := ε.bulk) (xs := xs) (ds := elems.map (·.1)) (by simp; omega) fun i h1 h2 => by
                obtain ⟨_, y, g1, g2⟩ := hxs i h1
                simp only [List.getElem_map]
                have : elems[i]'(by simpa using h2) = y := by
                  have := List.getElem?_eq_some_iff.1 g1
                  exact this.2
                rw [this]
                exact g2
              omega
          · intro w' sp hb hsp
            unfold DataW.trod
            rw [ht]
            simp only [Nat.zero_le, true_and]
            rw [if_pos ⟨hle, hcap⟩]
            have hsub : ∀ y ∈ elems ++ rest, ∀ p ∈ y.2, sp p.block = true := fun y hy p hp => hsp p (List.mem_append.2 (.inr (List.mem_flatMap.2 ⟨y, hy, hp⟩)))
            have e1 : (List.range len).mapM (fun i => (w'.cells? 0 (a.add (i * P.cellsOf e)) (P.cellsOf e)).bind (DataW.trod enc P w' 0 sp true n e)) = some elems := by
              refine mapM_some_of_get _ _ (by simp [hel]) fun i x hx => ?_
              have hix : x = i ∧ i < len := by simpa [List.getElem?_range] using (by
                have := List.getElem?_eq_some_iff.1 hx
                obtain ⟨g1, g2⟩ := this
                simp at g1 g2
                exact ⟨g2.symm, g1⟩ : x = i ∧ i < len)
              obtain ⟨rfl, hi⟩ := hix
              obtain ⟨cs', g1, y, g2, g3⟩ := elem x hi
              rw [cells_same hb g1, g2]
              exact (ih m e cs' y ε g3 hf).2 w' sp hb (hsub y (List.mem_append.2 (.inl (List.mem_of_getElem? g2))))
            rw [e1]
            simp only [Option.bind_some]
            have e2 : (if sp a.block = true then (List.range (cap - len)).mapM (fun j => (w'.cells? 0 (a.add ((len + j) * P.cellsOf e)) (P.cellsOf e)).bind (DataW.trod enc P w' 0 sp true n e)) else some []) = some rest := by
              by_cases hz : cap - len = 0
              · rw [hz]
                have : rest = [] := by rw [← List.length_eq_zero_iff]; omega
                subst this
                split <;> simp
              · have hsa : sp a.block = true := by
                  refine hsp (.cell a.block (a.off + 0)) (List.mem_append.2 (.inl ?_))
                  refine List.mem_map.2 ⟨0, ?_, rfl⟩
                  simp only [List.mem_range]
                  rw [hel, hrl]
                  exact Nat.mul_pos (by omega) hpos
                rw [if_pos hsa]
                refine mapM_some_of_get _ _ (by simp [hrl]) fun i x hx => ?_
                have hix : x = i ∧ i < cap - len := by
                  have := List.getElem?_eq_some_iff.1 hx
                  obtain ⟨g1, g2⟩ := this
                  simp at g1 g2
                  exact ⟨g2.symm, by omega⟩
                obtain ⟨rfl, hi⟩ := hix
                obtain ⟨cs', g1, y, g2, g3⟩ := relem x hi
                rw [cells_same hb g1, g2]
                exact (ih m e cs' y ε g3 hf).2 w' sp hb (hsub y (List.mem_append.2 (.inr (List.mem_of_getElem? g2))))
            rw [e2]
            rfl
      | _ => cases hf
    | struct fs =>
      simp only [Bool.and_eq_true, decide_eq_true_eq] at hf
      obtain ⟨hf, hsz⟩ := hf
      obtain ⟨xs, n', hn, rfl, hcl, hxl, hxs⟩ := DataW.trod_struct ht h
      have hn : n = n' := by omega
      subst hn
      have hr : ∀ (t : TypeId) (cs : List Value) (x : DataW H × List MemPlace) (τ : Ty), DataW.trod enc P w 0 (fun _ => true) true n t cs = some x → fitTy P m τ t = true → ReadOK P enc w n τ t cs x := fun t cs x τ g1 g2 => ih m t cs x τ g1 g2
      have hxs' : ∀ (i : Nat) (f : Field), fs.toList[i]? = some f → DataW.trod enc P w 0 (fun _ => true) true n f.type ((cs.drop f.offset).take (P.cellsOf f.type)) = xs[i]? := fun i f hf' => hxs i f (by simpa using hf')
      have hxl' : xs.length = fs.toList.length := by simpa using hxl
      -- each field's own goodness
      have each : ∀ (τ : Ty) (l : List Field) (off : Nat), fitTail (fitTy P m) P τ l off = true → ∀ f ∈ l, ∃ σ, fitTy P m σ f.type = true := by
        intro τ l
        induction l generalizing τ with
        | nil => intro off _ f hf'; cases hf'
        | cons g l ihl =>
          intro off hl f hf'
          cases l with
          | nil =>
            have hl : (fitTy P m τ g.type && decide (g.offset = off ∧ τ.size = P.cellsOf g.type)) = true := by cases τ <;> exact hl
            simp only [Bool.and_eq_true] at hl
            simp only [List.mem_singleton] at hf'
            subst hf'
            exact ⟨τ, hl.1⟩
          | cons g' l' =>
            cases τ with
            | pair a b =>
              simp only [fitTail, Bool.and_eq_true] at hl
              rcases List.mem_cons.1 hf' with e | hf'
              · subst e; exact ⟨a, hl.1.1⟩
              · exact ihl b _ hl.2 f hf'
            | _ => simp [fitTail] at hl
      have main : (∃ v : τ.den, VRel w (fun _ => False) τ v cs ∧ τ.bulk v ≤ uptoBulkAll (xs.map (·.1))) ∧ ∀ f ∈ fs.toList, ∃ σ, fitTy P m σ f.type = true := by
        unfold fitFields at hf
        split at hf
        · rename_i e
          rw [e] at hxl'
          have : xs = [] := by simpa using hxl'
          subst this
          simp only [Ty.size] at hsz
          have hcs : cs = [] := by rw [← List.length_eq_zero_iff]; omega
          subst hcs
          exact ⟨⟨(), rfl, by simp [Ty.bulk]⟩, by rw [e]; intro f hf'; cases hf'⟩
        · rename_i a f e
          rw [e] at hxl' hxs'
          obtain ⟨v, g1, g2⟩ := tail_rel hr [f] a 0 xs hf (by simp only [Ty.size] at hsz; omega) hxl' hxs'
          refine ⟨⟨(v, ()), ⟨_, _, ?_, g1, rfl⟩, by simpa [Ty.bulk] using g2⟩, by rw [e]; exact each a _ 0 hf⟩
          simp only [Ty.size] at hsz
          rw [List.drop_zero, List.take_of_length_le (by omega), List.append_nil]
        · rename_i τ _ _ f g l e
          rw [e] at hxl' hxs'
          obtain ⟨v, g1, g2⟩ := tail_rel hr (f :: g :: l) τ 0 xs hf (by omega) hxl' hxs'
          rw [List.drop_zero, List.take_of_length_le (by omega)] at g1
          exact ⟨⟨v, g1, g2⟩, by rw [e]; exact each τ _ 0 hf⟩
        · cases hf
      obtain ⟨⟨v, g1, g2⟩, hall⟩ := main
      refine ⟨⟨v, g1, by simp only [uptoBulk]; omega⟩, fun w' sp hb hsp => ?_⟩
      unfold DataW.trod
      rw [ht]
      simp only
      rw [if_pos hcl]
      have e1 : (fs.toList.mapM fun f => DataW.trod enc P w' 0 sp true n f.type ((cs.drop f.offset).take (P.cellsOf f.type))) = some xs := by
        refine mapM_some_of_get _ _ hxl' fun i f hf' => ?_
        obtain ⟨σ, hσ⟩ := hall f (List.mem_of_getElem? hf')
        have hx := hxs' i f hf'
        have hi : i < xs.length := by rw [hxl']; exact (List.getElem?_eq_some_iff.1 hf').1
        rw [List.getElem?_eq_getElem hi] at hx ⊢
        exact (hr _ _ _ σ hx hσ).2 w' sp hb fun p hp => hsp p (List.mem_flatMap.2 ⟨xs[i], List.getElem_mem _, hp⟩)
      rw [e1]
      rfl
    | _ => cases hf

/-! ### arguments -/
def fitArgs (P : Program) (m : Nat) : List Ty → List TypeId → Bool
  | [], [] => true
  | τ :: τs, t :: ts => fitTy P m τ t && fitArgs P m τs ts
  | _, _ => false

def argTy : List Ty → Ty
  | [] => .unit
  | [a] => a
  | a :: b :: r => .pair a (argTy (b :: r))

/-- the arguments' bulk, one after the other -/
def argParts (τs : List Ty) : List (Bool × Nat) := τs.map fun τ => (τ.isAgg, τ.size)

theorem fit_agg {m : Nat} {τ : Ty} {t : TypeId} {b base : Nat} {r : Reach} {v : Value} (h : fitTy P m τ t = true) (hv : Value.okWide P w r base t v) (hs : v.cells.toList.length = τ.size) :
    (τ.isAgg = true ∧ ∃ vs : Array Value, v = .agg vs) ∨ (τ.isAgg = false ∧ v.cells = #[v]) := by
  cases m with
  | zero => simp [fitTy] at h
  | succ m =>
  unfold fitTy at h
  unfold Value.okWide at hv
  cases ht : P.underlying t with
  | none => rw [ht] at h; cases h
  | some d =>
  rw [ht] at h hv
  cases d with
  | bool =>
    simp only [decide_eq_true_eq] at h
    subst h
    refine .inr ⟨rfl, ?_⟩
    simp only [Cell.okWide, ht, Cell.ok] at hv
    cases v <;> first | rfl | exact hv.elim
  | int k =>
    simp only [decide_eq_true_eq] at h
    subst h
    refine .inr ⟨rfl, ?_⟩
    simp only [Cell.okWide, ht, Cell.ok] at hv
    cases v <;> first | rfl | exact hv.elim
  | string =>
    simp only [decide_eq_true_eq] at h
    subst h
    refine .inr ⟨rfl, ?_⟩
    simp only [Cell.okWide, ht, Cell.ok] at hv
    cases v <;> first | rfl | exact hv.elim
  | slice e =>
    cases τ with
    | slice ε =>
      refine .inr ⟨rfl, ?_⟩
      simp only [Cell.okWide, ht, Cell.ok] at hv
      cases v <;> first | rfl | exact hv.elim
    | _ => cases h
  | struct fs =>
    obtain ⟨cs, rfl, _⟩ := hv
    refine .inl ⟨?_, cs, rfl⟩
    simp only [Bool.and_eq_true] at h
    have h := h.1
    unfold fitFields at h
    split at h
    · rfl
    · rfl
    · rename_i τ _ _ f g l _ _
      cases τ <;> first | rfl | (simp [fitTail] at h)
    · cases h
  | _ => cases h

theorem args_rel {O : Nat → Prop} {b base : Nat} {r : Reach} {m : Nat} {k : Kx} (hk : k.w = w) (hO : ∀ B, ¬ k.O B) : ∀ (τs : List Ty) (ts : List TypeId) (vs : List Value) (ds : List (DataW H)) (ps : List MemPlace),
    fitArgs P m τs ts = true → DataW.TrodAll enc P w 0 (fun _ => true) true ts vs ds ps → (∀ (j : Nat) t v, ts[j]? = some t → vs[j]? = some v → Value.okWide P w r base t v) →
    (∃ x : (argTy τs).den, PRels k (deal (argParts τs) (flat (argTy τs) x)) vs ∧ (argTy τs).bulk x ≤ uptoBulkAll ds ∧ (argTy τs).ok x) ∧
    ∀ (w' : World) (sp : Nat → Bool), Below w.heap.size w w' → (∀ p ∈ ps, sp p.block = true) → DataW.TrodAll enc P w' 0 sp true ts vs ds ps := by
  intro τs
  induction τs with
  | nil =>
    intro ts vs ds ps hf h hok
    cases ts with
    | cons t ts => simp [fitArgs] at hf
    | nil =>
      obtain ⟨rfl, rfl, rfl⟩ := trodAll_nil h
      exact ⟨⟨(), rfl, Nat.zero_le _, trivial⟩, fun w' sp _ _ => rfl⟩
  | cons τ τs ih =>
    intro ts vs ds ps hf h hok
    cases ts with
    | nil => simp [fitArgs] at hf
    | cons t ts =>
      simp only [fitArgs, Bool.and_eq_true] at hf
      obtain ⟨v, vs', d, ds', p, q, rfl, rfl, rfl, ⟨n, h1⟩, h2⟩ := trodAll_cons h
      obtain ⟨⟨x, hx, hb⟩, hag⟩ := trod_rel n m t v.cells.toList (d, p) τ h1 hf.1
      simp only at hb
      obtain ⟨⟨y, hy, hby, hyo⟩, hrest⟩ := ih ts vs' ds' q hf.2 h2 fun j t' v' g1 g2 => hok (j + 1) t' v' (by simpa using g1) (by simpa using g2)
      have hlen : v.cells.toList.length = τ.size := VRel.len τ x _ hx
      have hcs : CRels k (flat τ x) v.cells.toList := by
        rw [← flat_rel, hk]
        exact VRel.mono (fun _ _ _ => rfl) (fun B hB _ => hO B hB) τ x _ hx
      have hp : PRel k τ.isAgg (flat τ x) v := by
        rcases fit_agg (b := b) hf.1 (hok 0 t v rfl rfl) hlen with ⟨ha, us, rfl⟩ | ⟨ha, hv⟩
        · unfold PRel; rw [if_pos ha]; exact ⟨us, rfl, hcs⟩
        · unfold PRel
          rw [if_neg (by simp [ha])]
          rw [hv] at hcs
          obtain ⟨c, hc, hcr⟩ := crels_one hcs
          exact ⟨c, hc, .inr ⟨hcr, hv⟩⟩
      refine ⟨?_, fun w' sp hbw hsp => trodAll_cons_mk ⟨n, hag w' sp hbw fun p' hp' => hsp p' (List.mem_append.2 (.inl hp'))⟩ (hrest w' sp hbw fun p' hp' => hsp p' (List.mem_append.2 (.inr hp')))⟩
      cases τs with
      | nil =>
        refine ⟨x, ?_, ?_, VRel.ok τ x _ hx⟩
        · simp only [argTy, argParts, List.map_cons, List.map_nil, deal]
          have hvs : vs' = [] := by
            simpa [argParts, deal, PRels] using hy
          rw [List.take_of_length_le (by rw [flat_len]; exact Nat.le_refl _)]
          exact ⟨v, vs', rfl, hp, hvs⟩
        · simp only [argTy, uptoBulkAll]; omega
      | cons τ2 τs =>
        refine ⟨(x, y), ?_, ?_, VRel.ok τ x _ hx, hyo⟩
        · simp only [argTy, argParts, List.map_cons, deal, flat]
          have e1 : (flat τ x ++ flat (argTy (τ2 :: τs)) y).take τ.size = flat τ x := by
            rw [← flat_len τ x, List.take_left]
          have e2 : (flat τ x ++ flat (argTy (τ2 :: τs)) y).drop τ.size = flat (argTy (τ2 :: τs)) y := by
            rw [← flat_len τ x, List.drop_left]
          rw [e1, e2]
          exact ⟨v, vs', rfl, hp, by simpa [argParts, deal] using hy⟩
        · simp only [argTy, Ty.bulk, uptoBulkAll]; omega

theorem sum_ge {α : Type} {f : α → Nat} : ∀ {xs : List α} {m : Nat}, (∀ x ∈ xs, m ≤ f x) → m * xs.length ≤ (xs.map f).sum
  | [], _, _ => by simp
  | x :: xs, m, h => by
    have h1 := h x (by simp)
    have h2 := sum_ge (f := f) (xs := xs) (m := m) fun y hy => h y (by simp [hy])
    simp only [List.length_cons, List.map_cons, List.sum_cons, Nat.mul_add, Nat.mul_one]
    omega
theorem sum_mem {α : Type} {f : α → Nat} : ∀ {xs : List α} {x : α}, x ∈ xs → f x ≤ (xs.map f).sum
  | [], _, h => by cases h
  | y :: ys, x, h => by
    simp only [List.map_cons, List.sum_cons]
    rcases List.mem_cons.1 h with e | h
    · subst e; omega
    · have := sum_mem (f := f) h; omega
theorem bulk_pair {a b : Ty} {x : (Ty.pair a b).den} {n : Nat} (h : (Ty.pair a b).bulk x ≤ n) : a.bulk x.1 ≤ n ∧ b.bulk x.2 ≤ n := by
  have h : a.bulk x.1 + b.bulk x.2 ≤ n := h
  omega
theorem bulk_str {s : List Int} {n : Nat} (h : Ty.str.bulk s ≤ n) : s.length ≤ n := by
  have h : s.length + 1 ≤ n := h
  omega
theorem bulk_ints (k : IntKind) (xs : List Int) : (Ty.slice (.int k)).bulk xs = xs.length + 1 := by
  show (List.map (fun _ => 1) xs).sum + 1 = _
  induction xs with
  | nil => rfl
  | cons x xs ih => simp only [List.map_cons, List.sum_cons, List.length_cons] at ih ⊢; omega
theorem bulk_data {k : IntKind} {xs : List Int} {n : Nat} (h : (Ty.slice (.int k)).bulk xs ≤ n) : xs.length ≤ n := by
  rw [bulk_ints] at h
  omega
theorem bulk_mem {e : Ty} {xs : List e.den} {n : Nat} (h : (Ty.slice e).bulk xs ≤ n) : ∀ x ∈ xs, e.bulk x ≤ n := by
  intro x hx
  have h : (List.map e.bulk xs).sum + 1 ≤ n := h
  have := sum_mem (f := e.bulk) hx
  omega
theorem bulk_len {e : Ty} {xs : List e.den} {n : Nat} (he : ∀ x, 1 ≤ e.bulk x) (h : (Ty.slice e).bulk xs ≤ n) : xs.length ≤ n := by
  have h : (List.map e.bulk xs).sum + 1 ≤ n := h
  have key : ∀ ys : List e.den, ys.length ≤ (List.map e.bulk ys).sum := by
    intro ys
    induction ys with
    | nil => exact Nat.le_refl _
    | cons y r ih =>
      have := he y
      simp only [List.map_cons, List.sum_cons, List.length_cons]
      omega
  have := key xs
  omega
theorem bulk_pos_str {b : Ty} (x : (Ty.pair .str b).den) : 1 ≤ (Ty.pair .str b).bulk x := by
  show 1 ≤ (List.length (x.1 : List Int) + 1) + b.bulk x.2
  omega
theorem ok_bytes {xs : List Int} (h : (Ty.slice (.int .u8)).ok xs) : ∀ x ∈ xs, 0 ≤ x ∧ x < 256 := fun x hx => by
  have h : IntKind.wrap .u8 x = x := h x hx
  simp [IntKind.wrap, IntKind.bits, IntKind.signed] at h
  omega
theorem ok_i64 {x : Int} (h : (Ty.int .i64).ok x) : -9223372036854775808 ≤ x ∧ x ≤ 9223372036854775807 := by
  have h : IntKind.wrap .i64 x = x := h
  simp [IntKind.wrap, IntKind.bits, IntKind.signed] at h
  omega

/-- What a call of a law is to come to, by a pure function that is true. -/
theorem law_post {fn : Func} {spec : ChangeSpec} {g : FuncId} {T : TFun} (hS : Sound P g T) {W : World} (hT : Tabs.p W) (hlo : Tabs.lo ≤ W.heap.size) {m : Nat} {τs : List Ty} {tb : TypeId} (hargs : T.arg = argTy τs) (hparts : T.args = argParts τs) (hres : T.res = .bool) (hpr : T.parts = [(false, 1)]) (hown : T.own = [])
    (hfit : fitArgs P m τs fn.params.toList = true) (hrt : fn.resultTypes = #[tb]) (htb : P.underlying tb = some .bool) (hvars : spec.vars = [])
    {base : Nat} {args : Array Value} {ds gs : List (DataW H)} {before : List MemPlace}
    (hspec : gs = [] → ds.length = fn.params.size → spec.fn H (ds ++ gs) = { results := [.lit (.bool true)], args := ds })
    (hval : ∀ (j : Nat) t v, fn.params[j]? = some t → args[j]? = some v → Value.okWide P W .any base t v)
    (hW : DataW.Whole enc P fn.params.toList spec.vars false W args.toList ds gs before) {B : Nat} (hB : uptoBulkAll (ds ++ gs) ≤ B)
    (hpure : ∀ x : T.arg.den, T.arg.ok x → T.arg.bulk x ≤ B → T.f x = some (hres ▸ true)) :
    Calls P g args W fun e W' => ∃ v, e = .returned v ∧ spec.post enc P fn false true false false W args v W' := by
  obtain ⟨ta, tr, targs, tparts, town, tf⟩ := T
  simp only at hargs hparts hres hpr hown hpure
  subst hargs; subst hparts; subst hres; subst hpr; subst hown
  obtain ⟨p, q, hA, hV, hps, hfz, hnd⟩ := id hW
  rw [hvars] at hV
  obtain ⟨rfl, rfl⟩ := trodVars_none hV
  have hlen : ds.length = fn.params.size := by
    have : ∀ (ts : List TypeId) (vs : List Value) (ds : List (DataW H)) (ps : List MemPlace), DataW.TrodAll enc P W 0 (fun _ => true) true ts vs ds ps → ds.length = ts.length := by
      intro ts
      induction ts with
      | nil => intro vs ds ps h; obtain ⟨_, rfl, _⟩ := trodAll_nil h; rfl
      | cons t ts ih => intro vs ds ps h; obtain ⟨v, vs', d, ds', p, q, rfl, rfl, rfl, _, h2⟩ := trodAll_cons h; simp [ih _ _ _ h2]
    simpa using this _ _ _ _ hA
  have hsp := hspec rfl hlen
  rw [List.append_nil] at hB
  rw [List.append_nil] at hsp
  obtain ⟨⟨x, hx, hb, hok⟩, hagain⟩ := args_rel (O := fun _ => False) (b := base) (k := noneK W 0 fun _ => False) rfl (fun B hB => (noneK_O W 0 _ B).1 hB) τs fn.params.toList args.toList ds p hfit hA fun j t v g1 g2 => hval j t v (by simpa using g1) (by simpa using g2)
  refine (hS.calls W (fun _ => False) 0 x true args ⟨fun B hB => hB.elim, hT, hlo, hlo⟩ hx (hpure x hok (by omega))).mono fun e W' h => ?_
  obtain ⟨v, μ, he, hbel, _, hv⟩ := h
  refine ⟨v, he, ?_⟩
  have hvb : v = .bool true := by
    simp only [mkRes, flat, ownize] at hv
    simp only [ARel, mkV, List.contains_nil, if_false] at hv
    rcases hv with hv | hv
    · cases hv
    · have hv : [v] = [Value.bool true] := hv
      injection hv
  subst hvb
  have hlt : ∀ p' ∈ before, p'.block < W.heap.size := fun p' hp' => hW.lt p' hp'
  have hold : ∀ p' ∈ before, (fun b => decide (b < W.heap.size)) p'.block = true := fun p' hp' => by simpa using hlt p' hp'
  have hbp : before = p := by rw [hps, List.append_nil]
  subst hbp
  have ha : ∀ sp : Nat → Bool, (∀ p' ∈ before, sp p'.block = true) → DataW.TrodAll enc P W' 0 sp true fn.params.toList args.toList ds before := fun sp hs => hagain W' sp hbel hs
  have hr : ∀ (b : Nat) (sp : Nat → Bool) (hd : Bool), DataW.TrodAll enc P W' b sp hd fn.resultTypes.toList ((Value.bool true).resultList fn.resultTypes.size) [.lit (.bool true)] [] := fun b sp hd => by
    rw [hrt]
    exact trodAll_cons_mk (shut_bool htb _) trodAll_mk0
  have hv0 : ∀ sp : Nat → Bool, DataW.TrodVars enc P W' sp spec.vars [] [] := fun sp => by rw [hvars]; rfl
  refine ⟨ds, [], before, [], before, [], hW, ?_, ?_, ?_, World.keptBut_mono (fun p' hp' => ⟨hp', ?_⟩) (hbel.frame (· ∈ before)), fun _ => ?_⟩
  · rw [List.append_nil, hsp]; exact hr _ _ _
  · rw [List.append_nil, hsp]; exact ha _ hold
  · rw [List.append_nil, hsp]; exact hv0 _
  · exact Or.inr (Or.inl hp')
  · refine ⟨ok_one hrt rfl (okWide_bool_mk htb _), _, _, ([] ++ before) ++ [], ⟨[] ++ before, [], trodAll_append (ha _ (fun _ _ => rfl)) (hr _ _ _), hv0 _, rfl, ?_, ?_⟩, ?_⟩
    · intro b off hp'
      have hin : MemPlace.cell b off ∈ before := by simpa using hp'
      rw [hbel.frozen (hlt _ hin)]
      exact hfz b off hin
    · intro ha'; cases ha'
    · intro p' hp' _
      simpa using hp'

end Go.Ab
