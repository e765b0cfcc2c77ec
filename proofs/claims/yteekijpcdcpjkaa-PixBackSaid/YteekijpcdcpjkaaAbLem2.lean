/-
  LEMMAS: cells read as data; freezing; runs of loads, stores, new rows.
-/
import Derived.Test.YteekijpcdcpjkaaAbLem
import Derived.Laws.CopyRow
set_option linter.unusedVariables false
namespace Go.Ab
open Go.RowKit (Below)

/-- 'O2' is true of no block that one of these cells stands for. -/
def Clear (k : Kx) (O2 : Nat → Prop) (cs : List Cell) : Prop := ∀ c ∈ cs, ∀ n ∈ ownOf c, (∃ e xs, hget k.hp n = some (.arr e xs)) → ∀ B, (k.μ n).block = some B → ¬ O2 B

theorem parse_sound {N : Nat} {k : Kx} (hk : HRel N k) {O2 : Nat → Prop} (hO : ∀ B, O2 B → k.O B) : ∀ (t : Ty) (cs : List Cell) (vs : List Value) (x : t.den) (rest : List Cell),
    CRels k cs vs → parse (hget k.hp) t cs = some (x, rest) → Clear k O2 cs → ∃ pre us ws, cs = pre ++ rest ∧ vs = us ++ ws ∧ VRel k.w O2 t x us ∧ CRels k rest ws := by
  have single : ∀ (t : Ty) (c : Cell) (r : List Cell) (vs : List Value) (x : t.den) (rest : List Cell), CRels k (c :: r) vs → (cellAs (hget k.hp) t c).map (fun y => (y, r)) = some (x, rest) → Clear k O2 (c :: r) →
      (∀ y v, VRel k.w O2 t y [v] → VRel k.w O2 t y [v]) → ∃ pre us ws, c :: r = pre ++ rest ∧ vs = us ++ ws ∧ VRel k.w O2 t x us ∧ CRels k rest ws := by
    intro t c r vs x rest h hp hc _
    cases hy : cellAs (hget k.hp) t c with
    | none => rw [hy] at hp; cases hp
    | some y =>
      rw [hy] at hp
      simp only [Option.map_some, Option.some.injEq, Prod.mk.injEq] at hp
      obtain ⟨rfl, rfl⟩ := hp
      obtain ⟨v, ws, e, h1, h2⟩ := h
      exact ⟨[c], [v], ws, rfl, e, cellAs_sound hk h1 hy hO (fun n hn => hc c (by simp) n hn), h2⟩
  intro t
  induction t with
  | unit =>
    intro cs vs x rest h hp hc
    simp only [parse, Option.some.injEq, Prod.mk.injEq] at hp
    obtain ⟨_, rfl⟩ := hp
    exact ⟨[], [], vs, rfl, rfl, rfl, h⟩
  | pair a b iha ihb =>
    intro cs vs x rest h hp hc
    simp only [parse] at hp
    cases h1 : parse (hget k.hp) a cs with
    | none => rw [h1] at hp; cases hp
    | some p =>
      obtain ⟨y, r⟩ := p
      rw [h1] at hp
      simp only at hp
      cases h2 : parse (hget k.hp) b r with
      | none => rw [h2] at hp; cases hp
      | some q =>
        obtain ⟨z, r'⟩ := q
        rw [h2] at hp
        simp only [Option.some.injEq, Prod.mk.injEq] at hp
        obtain ⟨rfl, rfl⟩ := hp
        obtain ⟨pre, us, ws, e1, e2, hv, hr⟩ := iha cs vs y r h h1 hc
        obtain ⟨pre', us', ws', e3, e4, hv', hr'⟩ := ihb r ws z r' hr h2 (fun c hm => hc c (by rw [e1]; simp [hm]))
        exact ⟨pre ++ pre', us ++ us', ws', by rw [e1, e3, List.append_assoc], by rw [e2, e4, List.append_assoc], ⟨us, us', rfl, hv, hv'⟩, hr'⟩
  | int q =>
    intro cs vs x rest h hp hc
    cases cs with
    | nil => simp [parse] at hp
    | cons c r => exact single _ c r vs x rest h hp hc (fun _ _ h => h)
  | bool =>
    intro cs vs x rest h hp hc
    cases cs with
    | nil => simp [parse] at hp
    | cons c r => exact single _ c r vs x rest h hp hc (fun _ _ h => h)
  | str =>
    intro cs vs x rest h hp hc
    cases cs with
    | nil => simp [parse] at hp
    | cons c r => exact single _ c r vs x rest h hp hc (fun _ _ h => h)
  | slice e _ =>
    intro cs vs x rest h hp hc
    cases cs with
    | nil => simp [parse] at hp
    | cons c r => exact single _ c r vs x rest h hp hc (fun _ _ h => h)

theorem parseAll_sound {N : Nat} {k : Kx} (hk : HRel N k) {O2 : Nat → Prop} (hO : ∀ B, O2 B → k.O B) {t : Ty} {cs : List Cell} {vs : List Value} {x : t.den}
    (h : CRels k cs vs) (hp : parseAll (hget k.hp) t cs = some x) (hc : Clear k O2 cs) : VRel k.w O2 t x vs := by
  unfold parseAll at hp
  split at hp
  · rename_i y hy
    simp only [Option.some.injEq] at hp
    subst hp
    obtain ⟨pre, us, ws, e1, e2, hv, hr⟩ := parse_sound hk hO t cs vs y [] h hy hc
    have hr : ws = [] := hr
    rw [e2, hr, List.append_nil]; exact hv
  · cases hp

theorem zeros_len : ∀ t : Ty, (zeros t).length = t.size := by
  intro t
  induction t with
  | pair a b iha ihb => simp [zeros, Ty.size, iha, ihb]
  | _ => rfl

/-- the cells of a zero value -/
def zeroVals : Ty → List Value
  | .unit => []
  | .pair a b => zeroVals a ++ zeroVals b
  | .int k => [.int k 0]
  | .bool => [.bool false]
  | .str => [.string ⟨#[]⟩]
  | .slice _ => [.slice none 0 0]

theorem wrap_zero (k : IntKind) : k.wrap 0 = 0 := by cases k <;> decide

theorem zeros_rel (k : Kx) : ∀ t : Ty, CRels k (zeros t) (zeroVals t) := by
  intro t
  induction t with
  | pair a b iha ihb => exact iha.append ihb
  | unit => rfl
  | int q => exact ⟨_, [], rfl, ⟨rfl, wrap_zero q⟩, rfl⟩
  | bool => exact ⟨_, [], rfl, rfl, rfl⟩
  | str => exact ⟨_, [], rfl, ⟨⟨#[]⟩, rfl, rfl, Nat.zero_le _⟩, rfl⟩
  | slice e _ => exact ⟨_, [], rfl, rfl, rfl⟩

theorem dflt_rel (w : World) (O : Nat → Prop) : ∀ t : Ty, VRel w O t t.dflt (zeroVals t) := by
  intro t
  induction t with
  | pair a b iha ihb => exact ⟨_, _, rfl, iha, ihb⟩
  | unit => rfl
  | int q => exact ⟨rfl, wrap_zero q⟩
  | bool => rfl
  | str => exact ⟨⟨#[]⟩, rfl, rfl, Nat.zero_le _⟩
  | slice e _ => exact ⟨none, 0, rfl, by simp [Ty.dflt], by simp [MAXL], fun h => absurd rfl h⟩

/-! ### the types -/
/-- What is asked of the table of pure types. -/
def EnvOK (E : Env) : Prop := ∀ t ty, E.ty t = some ty → ∃ i z, E.P.info? t = some i ∧ i.zero = some z ∧ z.cells.toList = zeroVals ty ∧ ty.size = i.size ∧ ty.isAgg = aggT E.P t

theorem cellsOf_info {P : Program} {t : TypeId} {i : TypeInfo} (h : P.info? t = some i) : P.cellsOf t = i.size := by simp [Program.cellsOf, h]
theorem bytesOf_info {P : Program} {t : TypeId} {i : TypeInfo} (h : P.info? t = some i) : P.bytesOf t = i.bytes := by simp [Program.bytesOf, h]
theorem info_of_cells {P : Program} {t : TypeId} (h : P.cellsOf t ≠ 0) : ∃ i, P.info? t = some i := by
  cases hi : P.info? t with
  | none => simp [Program.cellsOf, hi] at h
  | some i => exact ⟨i, rfl⟩
theorem info_of_under {P : Program} {t : TypeId} {d : TypeDesc} (h : P.underlying t = some d) : ∃ i, P.info? t = some i := by
  cases hi : P.info? t with
  | some i => exact ⟨i, rfl⟩
  | none => simp [Program.underlying, hi] at h

theorem run_under {P : Program} {t : TypeId} {d : TypeDesc} (w : World) (h : P.underlying t = some d) : (underlying t).run P w = .ok d w := by
  simp [underlying, program, Sem.run, bind, Sem.bind, h, pure]
theorem run_info {P : Program} {t : TypeId} {i : TypeInfo} (w : World) (h : P.info? t = some i) : (typeInfo t).run P w = .ok i w := by
  simp [typeInfo, program, Sem.run, bind, Sem.bind, h, pure]
theorem run_sizeOf' {P : Program} {t : TypeId} {i : TypeInfo} (w : World) (h : P.info? t = some i) : (sizeOf t).run P w = .ok i.size w := by
  simp [sizeOf, typeInfo, program, Sem.run, bind, Sem.bind, h, pure]
theorem run_zero {P : Program} {t : TypeId} {i : TypeInfo} {z : Value} (w : World) (h : P.info? t = some i) (hz : i.zero = some z) : (zeroValue t).run P w = .ok z w := by
  simp [zeroValue, typeInfo, program, Sem.run, bind, Sem.bind, h, hz, pure]
theorem run_isAgg {P : Program} {t : TypeId} {d : TypeDesc} (w : World) (h : P.underlying t = some d) : (isAgg t).run P w = .ok (aggT P t) w := by
  simp only [isAgg, aggT, h, Sem.run_bind, run_under w h, Result.andThen_ok]
  cases d <;> rfl

/-! ### one cell each -/
theorem VRel.one {w : World} {O : Nat → Prop} : ∀ (t : Ty) (x : t.den) (cs : List Value), VRel w O t x cs → ∀ v ∈ cs, v.oneCell' = true := by
  intro t
  induction t with
  | int k => intro x cs h v hv; rw [h.1] at hv; simp at hv; subst hv; rfl
  | bool => intro x cs h v hv; have h : cs = _ := h; rw [h] at hv; simp at hv; subst hv; rfl
  | str => intro x cs h v hv; obtain ⟨ba, e, _⟩ := h; rw [e] at hv; simp at hv; subst hv; rfl
  | unit => intro x cs h v hv; have h : cs = _ := h; rw [h] at hv; cases hv
  | slice e ih => intro x cs h v hv; obtain ⟨a, cap, e, _⟩ := h; rw [e] at hv; simp at hv; subst hv; rfl
  | pair a b iha ihb =>
    intro x cs h v hv
    obtain ⟨c1, c2, e, h1, h2⟩ := h
    rw [e] at hv
    rcases List.mem_append.1 hv with hv | hv
    · exact iha _ _ h1 v hv
    · exact ihb _ _ h2 v hv

theorem CRel.one {k : Kx} {c : Cell} {v : Value} (h : CRel k c v) : v.oneCell' = true := by
  cases c with
  | undef => exact h
  | val t x => exact VRel.one t x [v] h v (by simp)
  | nilS => have h : v = _ := h; subst h; rfl
  | pptr t x off => obtain ⟨B, o, row, E, fz, e, _⟩ := h; subst e; rfl
  | fn f caps => obtain ⟨vs, e, _⟩ := h; subst e; rfl
  | clip e xs => obtain ⟨a, e, _⟩ := h; subst e; rfl
  | own n e => exact h.1.2
  | sub n e lo hi => exact h.1.2
  | ptr n off => obtain ⟨a, e⟩ := h.1.2; subst e; rfl
  | eptr n e i off => obtain ⟨a, e⟩ := h.1.2; subst e; rfl

theorem CRels.one {k : Kx} : ∀ {cs : List Cell} {vs : List Value}, CRels k cs vs → ∀ v ∈ vs, v.oneCell' = true := by
  intro cs
  induction cs with
  | nil => intro vs h v hv; have h : vs = [] := h; rw [h] at hv; cases hv
  | cons c cs ih =>
    intro vs h v hv
    obtain ⟨u, r, e, h1, h2⟩ := h
    rw [e] at hv
    rcases List.mem_cons.1 hv with hv | hv
    · rw [hv]; exact h1.one
    · exact ih h2 v hv

theorem cells_one {v : Value} (h : v.oneCell' = true) : v.cells = #[v] := by cases v <;> first | rfl | (simp [Value.oneCell'] at h)

/-- the cells of a value whose make is known -/
theorem ARel.cells {k : Kx} {a : AVal} {v : Value} (h : ARel k a v) (hk : known a = true) : CRels k (cellsOf a) v.cells.toList := by
  cases a with
  | one c =>
    rcases h with h | h
    · subst h; simp [known] at hk
    · rw [cells_one h.one]; exact ⟨v, [], rfl, h, rfl⟩
  | pure t x =>
    obtain ⟨_, vs, e, hv⟩ := h
    subst e
    exact (flat_rel t x _).1 hv
  | agg cs => obtain ⟨vs, e, hv⟩ := h; subst e; exact hv
  | tup ps => simp [known] at hk

/-! ### reading a row -/
theorem add0 (B o j : Nat) : (⟨B, o, none⟩ : Addr).add j = ⟨B, o + j, none⟩ := by unfold Addr.add; split <;> simp_all

theorem run_cells_row {P : Program} (w : World) (B o n : Nat) (row : Array Value) (E : TypeId) (fz : Nat × Nat) (h : w.heap[B]? = some (.cells row E fz)) (hn : o + n ≤ row.size) :
    (loadCells ⟨B, o, none⟩ n).run P w = .ok (part_ row o n).toArray w := by
  have hl : (part_ row o n).length = n := part_len hn
  have := run_loadCells_list (P := P) w ⟨B, o, none⟩ (part_ row o n) (fun j v hj => by
    have hj' : j < n := by
      have := (List.getElem?_eq_some_iff.1 hj).1
      omega
    rw [add0, cell_of_row w B (o + j) row E fz h, ← part_get hj']; exact hj)
  rw [hl] at this
  exact this

/-- What is loaded from a row: a value of the type's make. -/
theorem run_loadVar {P : Program} (w : World) (t : TypeId) (d : TypeDesc) (B o : Nat) (row : Array Value) (E : TypeId) (fz : Nat × Nat) (hd : P.underlying t = some d)
    (h : w.heap[B]? = some (.cells row E fz)) (hn : o + P.cellsOf t ≤ row.size) (h1 : aggT P t = false → P.cellsOf t = 1) :
    ∃ v, (loadVar t ⟨B, o, none⟩).run P w = .ok v w ∧ v = (if aggT P t then .agg (part_ row o (P.cellsOf t)).toArray else (part_ row o (P.cellsOf t)).getD 0 undef) := by
  obtain ⟨i, hi⟩ := info_of_under hd
  have hs : P.cellsOf t = i.size := cellsOf_info hi
  cases ha : aggT P t with
  | true =>
    refine ⟨_, ?_, rfl⟩
    simp only [loadVar, Sem.run_bind, run_isAgg w hd, ha, Result.andThen_ok, if_true, run_sizeOf' w hi, ← hs, run_cells_row (P := P) w B o (P.cellsOf t) row E fz h hn]
    rfl
  | false =>
    refine ⟨_, ?_, rfl⟩
    have h1 := h1 ha
    have hlt : o < row.size := by omega
    simp only [loadVar, Sem.run_bind, run_isAgg w hd, ha, Result.andThen_ok, Bool.false_eq_true, if_false, run_load, cell_of_row w B o row E fz h]
    have e : (part_ row o (P.cellsOf t)).getD 0 undef = row[o] := by
      rw [List.getD_eq_getElem?_getD, part_get (by omega)]
      simp [hlt]
    rw [e]
    simp [hlt]

/-- A value that was loaded is of the cells that lie there. -/
theorem loaded_rel {k : Kx} {P : Program} {t : TypeId} {cs : List Cell} {us : List Value} (h : CRels k cs us) (hw : wf1 P t = true) (hl : cs.length = P.cellsOf t) :
    ARel k (mkV (aggT P t) cs) (if aggT P t then .agg us.toArray else us.getD 0 undef) := by
  cases ha : aggT P t with
  | true => exact ⟨us.toArray, rfl, by simpa using h⟩
  | false =>
    simp only [wf1, ha, Bool.false_or, Bool.and_eq_true, decide_eq_true_eq] at hw
    match cs, us, h with
    | [c], us, h =>
      obtain ⟨v, r, e, h1, h2⟩ := h
      subst e
      exact Or.inr h1
    | [], _, _ => simp at hl; omega
    | _ :: _ :: _, _, _ => simp at hl; omega

/-! ### writing a row -/
def putRow (w : World) (B : Nat) (row : Array Value) : World := w.setRow B row

theorem run_storeCells' (P : Program) (g o : Nat) (t : TypeId) (fz : Nat × Nat) : ∀ (vs : List Value) (i : Nat) (cur : Array Value) (w : World), w.heap[g]? = some (.cells cur t fz) → Unfrozen cur fz → o + i + vs.length ≤ cur.size → (∀ v ∈ vs, v.oneCell' = true) →
    (storeCells ⟨g, o, none⟩ vs i).run P w = .ok () (w.setRow g (cur.toList.take (o + i) ++ vs ++ cur.toList.drop (o + i + vs.length)).toArray)
  | [], i, cur, w, hg, _, _, _ => by
    simp only [storeCells, List.append_nil, List.length_nil, Nat.add_zero, List.take_append_drop, Array.toArray_toList]
    rw [setRow_self w g cur t fz hg]
    rfl
  | v :: rest, i, cur, w, hg, hf, hl, h1 => by
    have hi : o + i < cur.size := by simp at hl; omega
    have hadd : (⟨g, o, none⟩ : Addr).add i = ⟨g, o + i, none⟩ := add0 g o i
    have hcell : w.cell? ⟨g, o + i, none⟩ = some cur[o + i] := by simp [World.cell?, hg, hi]
    have hfro : w.frozen? ⟨g, o + i, none⟩ = false := by
      have := hf (o + i) hi
      simp only [World.frozen?, hg]
      simpa using this
    have hst : (store ((⟨g, o, none⟩ : Addr).add i) v).run P w = .ok () (w.setRow g (cur.setIfInBounds (o + i) v)) := by
      rw [hadd, run_store P w _ v _ (h1 v (by simp)), hcell]
      simp [hfro, setCell_eq_setRow w g (o + i) cur t fz v hg]
    have ih := run_storeCells' P g o t fz rest (i + 1) (cur.setIfInBounds (o + i) v) (w.setRow g (cur.setIfInBounds (o + i) v)) (setRow_heap w g cur _ t _ hg) (by simpa [Unfrozen] using hf) (by simp at hl ⊢; omega) (fun x hx => h1 x (by simp [hx]))
    simp only [storeCells, Sem.run_bind, hst, Result.andThen_ok, ih, setRow_setRow]
    congr 3
    have e := list_seg_step cur.toList (o + i) v rest (by simp at hl ⊢; omega)
    simpa [Array.toList_setIfInBounds, Nat.add_assoc] using e

/-- the row behind a store -/
def rowPut (row : Array Value) (o : Nat) (us : List Value) : Array Value := (row.toList.take o ++ us ++ row.toList.drop (o + us.length)).toArray

theorem rowPut_size {row : Array Value} {o : Nat} {us : List Value} (h : o + us.length ≤ row.size) : (rowPut row o us).size = row.size := by
  simp [rowPut]; omega

theorem run_storeVar {P : Program} (w : World) (t : TypeId) (d : TypeDesc) (B o : Nat) (row : Array Value) (E : TypeId) (fz : Nat × Nat) (v : Value) (hd : P.underlying t = some d)
    (h : w.heap[B]? = some (.cells row E fz)) (hf : Unfrozen row fz) (hn : o + v.cells.size ≤ row.size) (hs : v.cells.size = P.cellsOf t) (h1 : ∀ u ∈ v.cells.toList, u.oneCell' = true) :
    (storeVar t ⟨B, o, none⟩ v).run P w = .ok () (w.setRow B (rowPut row o v.cells.toList)) := by
  obtain ⟨i, hi⟩ := info_of_under hd
  have hs' : P.cellsOf t = i.size := cellsOf_info hi
  have := run_storeCells' P B o E fz v.cells.toList 0 row w h hf (by simpa using hn) h1
  simp only [storeVar, Sem.run_bind, run_sizeOf' w hi, Result.andThen_ok]
  rw [if_neg (by omega), this]
  rfl

end Go.Ab
