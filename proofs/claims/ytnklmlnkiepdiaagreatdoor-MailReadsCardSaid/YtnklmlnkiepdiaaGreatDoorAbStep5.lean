/-
  ONE OPERATION IS RIGHT: new blocks.
-/
import Derived.Test.YtnklmlnkiepdiaaGreatDoorAbStep1
import Derived.Laws.AppendOwn
set_option linter.unusedVariables false
set_option linter.unusedSectionVars false
set_option linter.unusedSimpArgs false
namespace Go.Ab
variable [Tabs]
open Go.RowKit (Below)

/-! ### runs of elements -/
/-- the cells of elements, one behind the other -/
def ERel (w : World) (O : Nat → Prop) (e : Ty) (ys : List e.den) (us : List Value) : Prop :=
  us.length = ys.length * e.size ∧ ∀ i (h : i < ys.length), VRel w O e ys[i] ((us.drop (i * e.size)).take e.size)

theorem ERel.nil (w : World) (O : Nat → Prop) (e : Ty) : ERel w O e [] [] := ⟨by simp, fun i h => absurd h (by simp)⟩

theorem ERel.append {w : World} {O : Nat → Prop} {e : Ty} {xs ys : List e.den} {us ws : List Value} (h : ERel w O e xs us) (h' : ERel w O e ys ws) : ERel w O e (xs ++ ys) (us ++ ws) := by
  refine ⟨by rw [List.length_append, List.length_append, h.1, h'.1, Nat.add_mul], fun i hi => ?_⟩
  by_cases hlt : i < xs.length
  · rw [List.getElem_append_left hlt]
    have h1 := h.2 i hlt
    have : (i + 1) * e.size ≤ xs.length * e.size := Nat.mul_le_mul_right _ (by omega)
    rw [Nat.add_mul] at this
    have hl := h.1
    rw [List.drop_append_of_le_length (by omega), List.take_append_of_le_length (by rw [List.length_drop]; omega)]
    exact h1
  · have hge : xs.length ≤ i := by omega
    rw [List.getElem_append_right hge]
    have h1 := h'.2 (i - xs.length) (by rw [List.length_append] at hi; omega)
    have e1 : (us ++ ws).drop (i * e.size) = ws.drop ((i - xs.length) * e.size) := by
      rw [List.drop_append, h.1, ← Nat.mul_sub_right_distrib]
      rw [List.drop_eq_nil_of_le (by rw [h.1]; exact Nat.mul_le_mul_right _ hge), List.nil_append]
    rw [e1]; exact h1

theorem ERel.mono {w w' : World} {O O' : Nat → Prop} (same : ∀ B, ¬ O B → B < w.heap.size → w'.heap[B]? = w.heap[B]?) (own : ∀ B, O' B → B < w.heap.size → O B) {e : Ty} {ys : List e.den} {us : List Value} (h : ERel w O e ys us) : ERel w' O' e ys us :=
  ⟨h.1, fun i hi => VRel.mono same own _ _ _ (h.2 i hi)⟩

theorem Ext.e {k k' : Kx} (h : Ext k k') {e : Ty} {ys : List e.den} {us : List Value} (hv : ERel k.w k.O e ys us) : ERel k'.w k'.O e ys us := hv.mono h.sameO h.ownO

theorem ERel.one {w : World} {O : Nat → Prop} {e : Ty} {ys : List e.den} {us : List Value} (h : ERel w O e ys us) (hz : 0 < e.size) : ∀ u ∈ us, u.oneCell' = true := by
  intro u hu
  obtain ⟨j, hj, rfl⟩ := List.getElem_of_mem hu
  have hlt : j / e.size < ys.length := by rw [Nat.div_lt_iff_lt_mul hz]; rw [h.1] at hj; exact hj
  refine VRel.one _ _ _ (h.2 _ hlt) us[j] ?_
  have hm := Nat.mod_lt j hz
  have hdm : j / e.size * e.size + j % e.size = j := by rw [Nat.mul_comm]; exact Nat.div_add_mod j e.size
  refine List.mem_iff_getElem?.2 ⟨j % e.size, ?_⟩
  rw [List.getElem?_take, if_pos hm, List.getElem?_drop, hdm, List.getElem?_eq_getElem hj]

/-- The elements of a row from o on. -/
theorem row_elems {w : World} {O : Nat → Prop} {e : Ty} {xs : List e.den} {row : Array Value} {o cap : Nat} (hl : xs.length ≤ cap) (hs : o + cap * e.size ≤ row.size)
    (hv : ∀ i (h : i < xs.length), VRel w O e xs[i] (part_ row (o + i * e.size) e.size)) {lo len : Nat} (hle : lo + len ≤ xs.length) :
    ERel w O e ((xs.drop lo).take len) (part_ row (o + lo * e.size) (len * e.size)) := by
  have hb : (lo + len) * e.size ≤ cap * e.size := Nat.mul_le_mul_right _ (by omega)
  rw [Nat.add_mul] at hb
  have hlen : ((xs.drop lo).take len).length = len := by simp; omega
  refine ⟨by rw [hlen]; exact part_len (by omega), fun i hi => ?_⟩
  rw [hlen] at hi
  have e3 : ((xs.drop lo).take len)[i]'(by rw [hlen]; exact hi) = xs[lo + i]'(by omega) := by simp
  rw [e3]
  have hi' : (i + 1) * e.size ≤ len * e.size := Nat.mul_le_mul_right _ (by omega)
  rw [Nat.add_mul] at hi'
  rw [part_part (by omega)]
  have := hv (lo + i) (by omega)
  rw [Nat.add_mul, ← Nat.add_assoc] at this
  exact this

/-- Back: elements that lie in a row. -/
theorem elems_row {w : World} {O : Nat → Prop} {e : Ty} {ys : List e.den} {us : List Value} {row : Array Value} {o : Nat} (h : ERel w O e ys us) (hr : part_ row o (ys.length * e.size) = us) :
    ∀ i (hi : i < ys.length), VRel w O e ys[i] (part_ row (o + i * e.size) e.size) := by
  intro i hi
  have h1 := h.2 i hi
  have hi' : (i + 1) * e.size ≤ ys.length * e.size := Nat.mul_le_mul_right _ (by omega)
  rw [Nat.add_mul] at hi'
  rw [← hr, part_part (by omega)] at h1
  exact h1

/-- A slice that is read, as a run of elements. -/
theorem slice_elems {w : World} {O : Nat → Prop} {e : Ty} {ys : List e.den} {a : Option Addr} {n c : Nat} (h : VRel w O (.slice e) ys [.slice a n c]) :
    n = ys.length ∧ ∃ us, ERel w O e ys us ∧ ∀ (P : Program) (w' : World), w'.heap = w.heap → ((Builtin.firstCells e.size n (.slice a n c)).run P w' = .ok us.toArray w') := by
  obtain ⟨a', cap, e1, h1, h2, h3⟩ := h
  simp only [List.cons.injEq, Value.slice.injEq, and_true] at e1
  obtain ⟨ea, en, ec⟩ := e1
  subst ea; subst en; subst ec
  refine ⟨rfl, ?_⟩
  by_cases hx : ys = []
  · subst hx
    refine ⟨[], ERel.nil _ _ _, fun P w' _ => ?_⟩
    cases a <;> simp [Builtin.firstCells, loadCells, loadCellsFrom]
  · obtain ⟨B, o, row, T, fz, e2, hO, hrow, hs, hv⟩ := h3 hx
    subst e2
    refine ⟨part_ row o (ys.length * e.size), ?_, fun P w' hw => ?_⟩
    · have := row_elems (cap := ys.length) (Nat.le_refl _) hs hv (lo := 0) (len := ys.length) (by simp)
      simpa using this
    · simp only [Builtin.firstCells]
      exact run_cells_row w' B o _ row T fz (by rw [hw]; exact hrow) hs

/-! ### new blocks -/
/-- the streams are as they were -/
structure Meta (w w' : World) : Prop where
  os : w'.os = w.os
  tape : w'.tape = w.tape
  output : w'.output = w.output

theorem NewName.below {N : Nat} {k : Kx} {w' : World} {rm : Option Nat} {l : Loc} (h : NewName N k w' rm l) (hk : HRel N k) (hm : Meta k.w w') : Below N k.w w' :=
  ⟨hm.os, hm.tape, hm.output, h.size, fun B hB => h.same B (Nat.lt_of_lt_of_le hB h.low) fun n hn he => by
    obtain ⟨b, hb⟩ := h.live n hn
    have := (hk.low B ⟨n, b, hb, he⟩).1
    omega⟩

def rmActs : Option Nat → List HAct
  | none => []
  | some n => [.rem n]

theorem acts_new (hp : Hp) (rm : Option Nat) (n : Nat) (b : Blk) : acts hp (rmActs rm ++ [.put n b]) = hput (without hp rm) n b := by
  cases rm <;> rfl

theorem OK.new {E : Env} {N : Nat} {k : Kx} {fr : Fr} {tmps : Array Value} (hk : HRel N k) (hf : FRel k fr tmps) (fz : List Nat) {t : Bool} {c : Cell} {s : Sem Value} {v : Value} {w' : World} {rm : Option Nat} {l : Loc} {b : Blk}
    (hn : NewName N (frzKs k fz) w' rm l) (hr : s.run E.P k.w = .ok v w') (hb : Ext (frzKs k fz) (newK (frzKs k fz) w' rm l b) → BRel (newK (frzKs k fz) w' rm l b) k.nx b)
    (hv : Ext (frzKs k fz) (newK (frzKs k fz) w' rm l b) → CRel (newK (frzKs k fz) w' rm l b) c v) (hm : Meta k.w w') :
    OK E N k fr tmps { test := t, v := .one c, frz := fz, acts := rmActs rm ++ [.put k.nx b], made := 1 } s := by
  obtain ⟨h1, h2, h3, h4, h5, h6⟩ := frzAll_rel fz k fr tmps hk hf
  have hnx : (frzKs k fz).nx = k.nx := h5
  intro hmade
  have hfresh : ¬ (frzKs k fz).U (frzKs k fz).nx := by rw [frzKs_U, hnx]; exact hmade (by simp)
  have hx := hn.ext h1 hfresh b
  refine ⟨v, newK (frzKs k fz) w' rm l b, hr, ?_, ?_, hn.hrel h1 hfresh b (by rw [hnx]; exact hb hx), hx.f h2, Or.inr (hv hx), ?_, (frzKs_ext fz k).trans hx, fun n hn => ?_⟩
  · simp only [newK, acts_new, hnx, h3]
  · simp only [newK, hnx]
  · have := hn.below h1 (by rw [h4]; exact hm)
    rw [h4] at this
    exact this
  · rcases hn with hn | hn
    · rw [frzKs_U] at hn; exact Or.inl hn
    · rw [hnx] at hn; exact Or.inr (by simp only; omega)

theorem OK.new0 {E : Env} {N : Nat} {k : Kx} {fr : Fr} {tmps : Array Value} (hk : HRel N k) (hf : FRel k fr tmps) {t : Bool} {c : Cell} {s : Sem Value} {v : Value} {w' : World} {rm : Option Nat} {l : Loc} {b : Blk}
    (hn : NewName N k w' rm l) (hr : s.run E.P k.w = .ok v w') (hb : Ext k (newK k w' rm l b) → BRel (newK k w' rm l b) k.nx b)
    (hv : Ext k (newK k w' rm l b) → CRel (newK k w' rm l b) c v) (hm : Meta k.w w') :
    OK E N k fr tmps { test := t, v := .one c, acts := rmActs rm ++ [.put k.nx b], made := 1 } s :=
  OK.new (E := E) hk hf [] hn hr hb hv hm

theorem newName_alloc {N : Nat} {k : Kx} {w' : World} {o : Obj} (hN : N ≤ k.w.heap.size) (hw : w'.heap = k.w.heap.push o) (off cap : Nat) : NewName N k w' none (.at_ k.w.heap.size off cap) where
  low := hN
  size := by rw [hw]; simp
  same := fun B hB _ => by rw [hw, Array.getElem?_push, if_neg (by omega)]
  live := fun n h => by cases h
  place := fun B hB => by
    simp only [Loc.block, Option.some.injEq] at hB
    refine Or.inl ⟨by omega, by rw [hw]; simp; omega⟩

theorem heap_push_new {w w' : World} {o : Obj} (hw : w'.heap = w.heap.push o) : w'.heap[w.heap.size]? = some o := by rw [hw]; simp

theorem unfrozen0 (row : Array Value) : Unfrozen row (0, 0) := fun j _ h => by omega

/-- a variable of the call's own -/
theorem OK.newVar {E : Env} {N : Nat} {k : Kx} {fr : Fr} {tmps : Array Value} (hk : HRel N k) (hf : FRel k fr tmps) (hN : N ≤ k.w.heap.size) {t : Bool} {s : Sem Value} {T : TypeId} {row : Array Value} {cs : List Cell}
    (hr : s.run E.P k.w = .ok (.pointer (some ⟨k.w.heap.size, 0, none⟩)) { k.w with heap := k.w.heap.push (.cells row T) }) (hc : CRels k cs row.toList) (ht : TagOK cs T) :
    OK E N k fr tmps { test := t, v := .one (.ptr k.nx 0), acts := [.put k.nx (.var cs)], made := 1 } s := by
  refine OK.new0 (rm := none) (l := .at_ k.w.heap.size 0 0) hk hf (newName_alloc hN rfl 0 0) hr (fun hx => ?_) (fun hx => ?_) ⟨rfl, rfl, rfl⟩
  · exact ⟨k.w.heap.size, row, T, (0, 0), upd_same _ _ _, heap_push_new rfl, unfrozen0 row, hx.cs hc, ht⟩
  · refine ⟨⟨Or.inr rfl, _, rfl⟩, fun cs' hcs => ⟨k.w.heap.size, upd_same _ _ _, rfl⟩⟩

theorem alloc_sound {E : Env} (hE : EnvOK E) {N : Nat} {k : Kx} {fr : Fr} {tmps : Array Value} (hk : HRel N k) (hf : FRel k fr tmps) (hN : N ≤ k.w.heap.size) {t : TypeId} {ty : Ty} (ht : E.ty t = some ty) :
    OK E N k fr tmps { test := true, v := .one (.ptr k.nx 0), acts := [.put k.nx (.var (zeros ty))], made := 1 } (Instr.alloc t true (.tuple #[])) := by
  obtain ⟨i, z, hi, hz, hzc, _, _⟩ := hE t ty ht
  refine OK.newVar (T := t) (row := z.cells) hk hf hN ?_ (by rw [hzc]; exact zeros_rel k ty) (.of (noSelf_zeros ty))
  simp [Instr.alloc, run_zero k.w hi hz, newVar, newRow]

/-- a struct of a pointer and a slice: both nil -/
theorem alloc_bld_sound {E : Env} {N : Nat} {k : Kx} {fr : Fr} {tmps : Array Value} (hk : HRel N k) (hf : FRel k fr tmps) (hN : N ≤ k.w.heap.size) {t : TypeId} (ht : bldT E.P t = true) :
    OK E N k fr tmps { test := true, v := .one (.ptr k.nx 0), acts := [.put k.nx (.var [.self k.nx t, .nilS])], made := 1 } (Instr.alloc t true (.tuple #[])) := by
  unfold bldT at ht
  split at ht
  · rename_i cs hz
    split at ht
    · rename_i hcs
      obtain ⟨i, hi, hz'⟩ := Option.bind_eq_some_iff.1 hz
      have hce : cs = #[.pointer none, .slice none 0 0] := by
        apply Array.ext'
        rw [hcs]
      subst hce
      refine OK.new0 (v := .pointer (some ⟨k.w.heap.size, 0, none⟩)) (rm := none) (l := .at_ k.w.heap.size 0 0) (w' := { k.w with heap := k.w.heap.push (.cells #[.pointer none, .slice none 0 0] t) }) hk hf (newName_alloc hN rfl 0 0) ?_ (fun hx => ?_) (fun hx => ?_) ⟨rfl, rfl, rfl⟩
      · simp [Instr.alloc, run_zero k.w hi hz', newVar, newRow]
        rfl
      · refine ⟨k.w.heap.size, #[.pointer none, .slice none 0 0], t, (0, 0), upd_same _ _ _, heap_push_new rfl, unfrozen0 _, ?_, fun n t' r e => ?_⟩
        · exact ⟨_, _, rfl, ⟨⟨Or.inr rfl, rfl⟩, fun _ _ => Or.inl rfl⟩, _, _, rfl, rfl, rfl⟩
        · simp only [List.cons.injEq, Cell.self.injEq] at e
          exact e.1.2
      · refine ⟨⟨Or.inr rfl, _, rfl⟩, fun cs' hcs => ⟨k.w.heap.size, upd_same _ _ _, rfl⟩⟩
    · cases ht
  · cases ht

theorem box_sound {E : Env} {N : Nat} {k : Kx} {fr : Fr} {tmps : Array Value} (hk : HRel N k) (hf : FRel k fr tmps) (hN : N ≤ k.w.heap.size) {t : TypeId} {x : AVal} {v : Value} (hx : ARel k x v) (hkn : known x = true) (hns : noSelf (cellsOf x) = true) :
    OK E N k fr tmps { test := true, v := .one (.ptr k.nx 0), acts := [.put k.nx (.var (cellsOf x))], made := 1 } (Instr.box t v) := by
  refine OK.newVar (T := t) (row := v.cells) hk hf hN ?_ (hx.cells hkn) (.of hns)
  simp [Instr.box, newVar, newRow]

/-- A new row with elements at its head. -/
theorem OK.newArr {E : Env} {N : Nat} {k : Kx} {fr : Fr} {tmps : Array Value} (hk : HRel N k) (hf : FRel k fr tmps) (hN : N ≤ k.w.heap.size) {fz : List Nat} {t : Bool} {s : Sem Value} {T : TypeId} {row : Array Value} {fro : Nat × Nat} {e : Ty} {ys : List e.den} {us : List Value} {cap : Nat} {w' : World} {rm : Option Nat}
    (hrm : ∀ n, rm = some n → ∃ b, hget (frzKs k fz).hp n = some b) (hw : w'.heap = k.w.heap.push (.cells row T fro)) (hfro : Unfrozen row fro) (hm : Meta k.w w')
    (hr : s.run E.P k.w = .ok (.slice (some ⟨k.w.heap.size, 0, none⟩) ys.length cap) w') (he : ERel k.w (frzKs k fz).O e ys us) (hus : part_ row 0 (ys.length * e.size) = us) (hc : ys.length ≤ cap) (hc2 : cap ≤ MAXL) (hs : cap * e.size ≤ row.size) (htag : tagOf e T = T) :
    OK E N k fr tmps { test := t, v := .one (.own k.nx e), frz := fz, acts := rmActs rm ++ [.put k.nx (.arr e ys)], made := 1 } s := by
  obtain ⟨h1, h2, h3, h4, h5, h6⟩ := frzAll_rel fz k fr tmps hk hf
  have hnn : NewName N (frzKs k fz) w' rm (.at_ k.w.heap.size 0 cap) := by
    refine ⟨by rw [h4]; exact hN, by rw [h4, hw]; simp, fun B hB _ => by rw [h4] at hB ⊢; rw [hw, Array.getElem?_push, if_neg (by omega)], hrm, fun B hB => ?_⟩
    simp only [Loc.block, Option.some.injEq] at hB
    exact Or.inl ⟨by rw [h4]; omega, by rw [hw]; simp; omega⟩
  have hμ : (newK (frzKs k fz) w' rm (.at_ k.w.heap.size 0 cap) (.arr e ys)).μ k.nx = .at_ k.w.heap.size 0 cap := by
    show upd _ (frzKs k fz).nx _ k.nx = _
    rw [h5]; exact upd_same _ _ _
  refine OK.new hk hf fz hnn hr (fun hx => ?_) (fun hx => ?_) hm
  · unfold BRel
    rw [hμ]
    have he' : ERel k.w (frzKs k fz).O e ys us := he
    rw [← h4] at he'
    have hel := elems_row (hx.e he') hus
    refine ⟨row, T, fro, heap_push_new (by rw [htag]; exact hw), hfro, hc, hc2, by omega, ?_⟩
    simpa using hel
  · refine ⟨⟨Or.inr h5.symm, rfl⟩, fun xs hxs => ?_⟩
    have hxs' : xs = ys := by
      simp only [newK, hget_hput, h5, if_true, Option.some.injEq, Blk.arr.injEq] at hxs
      exact (eq_of_heq hxs.2).symm
    subst hxs'
    rw [hμ]
    exact ⟨_, cap, rfl, hc, by omega, Or.inl (by simp)⟩

end Go.Ab

/-
  ONE OPERATION IS RIGHT: make, literals of slices, stores.
-/
set_option linter.unusedVariables false
set_option linter.unusedSimpArgs false
namespace Go.Ab
variable [Tabs]
open Go.RowKit (Below)

/-! ### make -/
theorem made_part {z : Array Value} {c i : Nat} (hi : i < c) (hz : 0 < z.size) : part_ (madeCells z (c * z.size)) (i * z.size) z.size = z.toList := by
  have hb : (i + 1) * z.size ≤ c * z.size := Nat.mul_le_mul_right _ (by omega)
  rw [Nat.add_mul] at hb
  apply List.ext_getElem?
  intro j
  by_cases hj : j < z.size
  · rw [part_get hj]
    have hlt : i * z.size + j < c * z.size := by omega
    have hmod : (i * z.size + j) % z.size = j := by rw [Nat.mul_comm, Nat.mul_add_mod]; exact Nat.mod_eq_of_lt hj
    simp [madeCells, hlt, hmod, hj]
  · rw [List.getElem?_eq_none (by rw [part_len (by rw [size_madeCells]; omega)]; omega), List.getElem?_eq_none (by simp; omega)]

theorem roomFor_iff {n b : Nat} : roomFor n b = true ↔ n * b ≤ 140737488355328 ∧ n ≤ 140737488355328 := by
  unfold roomFor ROOM
  exact decide_eq_true_iff

theorem make_sound {E : Env} (hE : EnvOK E) {N : Nat} {k : Kx} {fr : Fr} {tmps : Array Value} (hk : HRel N k) (hf : FRel k fr tmps) (hN : N ≤ k.w.heap.size) {t : TypeId} {l c : Int} {q q' : IntKind} {out : Out}
    (h : makeA E k.nx t l c = some out) (ht : out.test = true) : OK E N k fr tmps out (Instr.makeSlice t (.int q l) (.int q' c)) := by
  unfold makeA at h
  cases hse : sliceElem E.P t with
  | none => rw [hse] at h; cases h
  | some el =>
    rw [hse] at h
    simp only at h
    have hu : E.P.underlying t = some (.slice el) := by
      unfold sliceElem at hse
      split at hse
      · simp at hse; subst hse; assumption
      · cases hse
    cases hty : E.ty el with
    | none => rw [hty] at h; cases h
    | some e =>
      rw [hty] at h
      simp only at h
      split at h
      · rename_i hpos
        simp only [Option.some.injEq] at h
        subst h
        simp only [Bool.and_eq_true, decide_eq_true_eq, roomFor_iff] at ht
        obtain ⟨⟨h0, h1⟩, h2, h3⟩ := ht
        obtain ⟨i, z, hi, hz, hzc, hsz, _, htag⟩ := hE el e hty
        have hb := bytesOf_info hi
        have hzs : z.cells.size = e.size := by rw [← Array.length_toList, hzc, ← zeros_len, (zeros_rel k e).len]
        have hbytes : (i.bytes : Int) * c ≤ 281474976710656 := by
          have : (c.toNat : Int) = c := by omega
          rw [← this, Int.mul_comm]
          rw [hb] at h2
          have : ((c.toNat * i.bytes : Nat) : Int) ≤ 140737488355328 := by omega
          rw [Int.natCast_mul] at this
          omega
        have hr := run_make (P := E.P) k.w t el i z hu hi hz q q' l c h0 h1 hbytes (by omega)
        refine OK.newArr (fz := []) (rm := none) (us := part_ (madeCells z.cells (c.toNat * e.size)) 0 (l.toNat * e.size)) (T := el) (row := madeCells z.cells (c.toNat * e.size)) (fro := (0, 0)) (cap := c.toNat) hk hf hN (fun n hn => by cases hn) (w' := k.w.alloc (.cells (madeCells z.cells (c.toNat * e.size)) el)) rfl (unfrozen0 _) ⟨rfl, rfl, rfl⟩ ?_ ?_ ?_ ?_ ?_ ?_ htag
        · rw [hr]
          simp [← hsz]
        · refine ⟨?_, fun j hj => ?_⟩
          · rw [part_len]
            · simp
            · rw [size_madeCells, Nat.zero_add]; exact Nat.mul_le_mul_right _ (by omega)
          · simp only [List.length_replicate] at hj
            have hj' : (j + 1) * e.size ≤ l.toNat * e.size := Nat.mul_le_mul_right _ (by omega)
            rw [Nat.add_mul] at hj'
            rw [part_part (by omega), Nat.zero_add, ← hzs, made_part (by omega) (by omega), hzc]
            simpa using dflt_rel k.w _ e
        · simp
        · simp; omega
        · simp only [MAXL]; omega
        · rw [size_madeCells]; exact Nat.le_refl _
      · cases h

/-! ### literals -/
theorem setAll (off : Nat) : ∀ (vs : List Value) (k : Nat) (cells : Array Value), off + k + vs.length ≤ cells.size →
    ((vs.zipIdx k).foldl (fun cs (p : Value × Nat) => cs.setIfInBounds (off + p.2) p.1) cells).toList = cells.toList.take (off + k) ++ vs ++ cells.toList.drop (off + k + vs.length) := by
  intro vs
  induction vs with
  | nil => intro k cells h; simp
  | cons v r ih =>
    intro k cells h
    simp only [List.length_cons] at h
    simp only [List.zipIdx_cons, List.foldl_cons]
    rw [ih (k + 1) _ (by simp; omega)]
    have e := list_seg_step cells.toList (off + k) v r (by simp; omega)
    simpa [Array.toList_setIfInBounds, Nat.add_assoc] using e

theorem fill_run (size : Nat) : ∀ (vs : List Value) (j : Nat) (cells : Array Value), (∀ v ∈ vs, v.cells.size = size) → (j + vs.length) * size ≤ cells.size →
    ∃ cs, Instr.fill (fun i => some (i * size, size)) cells ((vs.zipIdx j).map fun p => (p.2, p.1)) = some cs ∧ cs.toList = cells.toList.take (j * size) ++ vs.flatMap (fun v => v.cells.toList) ++ cells.toList.drop ((j + vs.length) * size) := by
  intro vs
  induction vs with
  | nil => intro j cells _ h; exact ⟨cells, rfl, by simp⟩
  | cons v r ih =>
    intro j cells hv h
    have h1 := hv v (by simp)
    simp only [List.length_cons] at h
    have h2 : (j + 1 + r.length) * size ≤ cells.size := by rw [show j + 1 + r.length = j + (r.length + 1) by omega]; exact h
    have h3 : j * size + size ≤ cells.size := by
      have : (j + 1) * size ≤ (j + 1 + r.length) * size := Nat.mul_le_mul_right _ (by omega)
      rw [Nat.add_mul j 1] at this
      omega
    have e1 : (v.cells.zipIdx.foldl (fun cs (p : Value × Nat) => cs.setIfInBounds (j * size + p.2) p.1) cells).toList = cells.toList.take (j * size) ++ v.cells.toList ++ cells.toList.drop (j * size + size) := by
      have := setAll (j * size) v.cells.toList 0 cells (by simp; omega)
      simp only [Nat.add_zero, Array.length_toList, h1] at this
      rw [← this]
      rw [← Array.foldl_toList, Array.toList_zipIdx]
    have hsz : (v.cells.zipIdx.foldl (fun cs (p : Value × Nat) => cs.setIfInBounds (j * size + p.2) p.1) cells).size = cells.size := by
      rw [← Array.length_toList, e1]; simp; omega
    obtain ⟨cs, h4, h5⟩ := ih (j + 1) (v.cells.zipIdx.foldl (fun cs (p : Value × Nat) => cs.setIfInBounds (j * size + p.2) p.1) cells) (fun u hu => hv u (by simp [hu])) (by rw [hsz]; exact h2)
    refine ⟨cs, ?_, ?_⟩
    · simp only [List.zipIdx_cons, List.map_cons, Instr.fill, h1]
      rw [if_neg (by simp; omega)]
      exact h4
    · rw [h5, e1]
      have l1 : (cells.toList.take (j * size)).length = j * size := by simp; omega
      have l2 : v.cells.toList.length = size := by simpa using h1
      have t1 : (cells.toList.take (j * size) ++ v.cells.toList ++ cells.toList.drop (j * size + size)).take ((j + 1) * size) = cells.toList.take (j * size) ++ v.cells.toList := by
        rw [Nat.add_mul, Nat.one_mul, List.take_append_of_le_length (by rw [List.length_append, l1, l2]; omega), List.take_of_length_le (by rw [List.length_append, l1, l2]; omega)]
      have t2 : (cells.toList.take (j * size) ++ v.cells.toList ++ cells.toList.drop (j * size + size)).drop ((j + 1 + r.length) * size) = cells.toList.drop ((j + (r.length + 1)) * size) := by
        rw [List.drop_append, List.length_append, l1, l2, List.drop_eq_nil_of_le (by rw [List.length_append, l1, l2, Nat.add_mul, Nat.add_mul]; omega), List.nil_append, List.drop_drop]
        congr 1
        simp only [Nat.add_mul]
        omega
      rw [t1, t2]
      simp [List.append_assoc]

theorem elemsA_sound {E : Env} {N : Nat} {k : Kx} {fr : Fr} {tmps : Array Value} (hk : HRel N k) (hf : FRel k fr tmps) {a : Act} (ha : a.tmps = tmps) {e : Ty} {O2 : Nat → Prop} (hO : ∀ B, O2 B → k.O B) :
    ∀ (ps : List (Nat × Operand)) (j : Nat) (xs : List e.den), elemsA (hget k.hp) fr e j ps = some xs → Clear k O2 (ps.flatMap fun p => cellsOf (rd fr p.2)) →
      (ps.map fun p => (p.1, a.eval p.2)) = ((ps.map fun p => a.eval p.2).zipIdx j).map (fun p => (p.2, p.1)) ∧ xs.length = ps.length ∧ ERel k.w O2 e xs (ps.flatMap fun p => (a.eval p.2).cells.toList) ∧ (∀ p ∈ ps, (a.eval p.2).cells.size = e.size) := by
  intro ps
  induction ps with
  | nil =>
    intro j xs h _
    simp only [elemsA, Option.some.injEq] at h
    subst h
    exact ⟨rfl, rfl, ERel.nil _ _ _, fun p hp => by cases hp⟩
  | cons p r ih =>
    intro j xs h hc
    obtain ⟨i, x⟩ := p
    simp only [elemsA] at h
    split at h
    · rename_i hij
      subst hij
      split at h
      · rename_i y ys hy hys
        simp only [Option.some.injEq] at h
        subst h
        obtain ⟨h1, h2, h3, h4⟩ := ih (i + 1) ys hys (fun c hm => hc c (by simp at hm ⊢; obtain ⟨a, b, h, g⟩ := hm; exact Or.inr ⟨a, b, h, g⟩))
        have hx := rd_rel hf ha x
        have hv : VRel k.w O2 e y (a.eval x).cells.toList := by
          unfold reify at hy
          split at hy
          · rename_i t' z hz
            obtain ⟨he, rfl⟩ := asTy_eq hy
            subst he
            rw [hz] at hx
            obtain ⟨_, vs, e1, hv⟩ := hx
            rw [e1]
            exact VRel.mono (fun _ _ _ => rfl) (fun B h _ => hO B h) _ _ _ hv
          · rename_i hnp
            split at hy
            · rename_i hkn
              exact parseAll_sound hk hO (hx.cells hkn) hy (fun c hm => hc c (by simp [hm]))
            · cases hy
        have hl := VRel.len _ _ _ hv
        refine ⟨by simp [h1], by simp [h2], ?_, ?_⟩
        · have : ERel k.w O2 e [y] (a.eval x).cells.toList := by
            refine ⟨by simp [hl], fun j hj => ?_⟩
            simp only [List.length_singleton] at hj
            obtain rfl : j = 0 := by omega
            simp only [List.getElem_singleton, Nat.zero_mul, List.drop_zero]
            rw [List.take_of_length_le (by omega)]
            exact hv
          exact this.append h3
        · intro p hp
          rcases List.mem_cons.1 hp with rfl | hp
          · simpa using hl
          · exact h4 p hp
      · cases h
    · cases h


theorem owns_mem {cs : List Cell} {c : Cell} {n : Nat} (hc : c ∈ cs) (hn : n ∈ ownOf c) : n ∈ owns cs := by
  unfold owns
  rw [List.mem_eraseDups]
  exact List.mem_flatMap.2 ⟨c, hc, hn⟩

/-- What is frozen is not the call's own any more. -/
theorem clear_frz {N : Nat} {k : Kx} (hk : HRel N k) (cs : List Cell) (fz : List Nat) (h : ∀ c ∈ cs, ∀ n ∈ ownOf c, n ∈ fz) : Clear k (frzKs k fz).O cs := by
  intro c hc n hn hl B hB hO
  obtain ⟨_, h2⟩ := frzKs_O fz k B hk hO
  rcases h2 n (h c hc n hn) with h3 | h3
  · exact h3 hB
  · rcases hl with ⟨e, xs, hl⟩ | ⟨q, v, xs, hl⟩
    · rw [h3] at hl; cases hl
    · rw [h3] at hl; cases hl

theorem buildSlice_sound {E : Env} (hE : EnvOK E) {N : Nat} {k : Kx} {fr : Fr} {tmps : Array Value} (hk : HRel N k) (hf : FRel k fr tmps) (hN : N ≤ k.w.heap.size) {a : Act} (ha : a.tmps = tmps) {t : TypeId} {len : Nat} {parts : Array (Nat × Operand)} {out : Out}
    (h : buildSliceA E (hget k.hp) fr k.nx t len parts.toList = some out) : OK E N k fr tmps out (Instr.buildSlice t len (parts.map fun (i, x) => (i, a.eval x))) := by
  unfold buildSliceA at h
  cases hse : sliceElem E.P t with
  | none => rw [hse] at h; cases h
  | some el =>
    rw [hse] at h
    simp only at h
    have hu : E.P.underlying t = some (.slice el) := by
      unfold sliceElem at hse
      split at hse
      · simp at hse; subst hse; assumption
      · cases hse
    cases hty : E.ty el with
    | none => rw [hty] at h; cases h
    | some e =>
      rw [hty] at h
      simp only at h
      cases hxs : elemsA (hget k.hp) fr e 0 parts.toList with
      | none => rw [hxs] at h; cases h
      | some xs =>
        rw [hxs] at h
        simp only at h
        split at h
        · rename_i hg
          simp only [Option.some.injEq] at h
          subst h
          simp only [Bool.and_eq_true, decide_eq_true_eq, beq_iff_eq] at hg
          obtain ⟨hlen, hsz, hpos, hmax⟩ := hg
          obtain ⟨i, z, hi, hz, hzc, hsize, _, htag⟩ := hE el e hty
          have hcs := cellsOf_info hi
          have hzs : z.cells.size = e.size := by rw [← Array.length_toList, hzc, ← zeros_len, (zeros_rel k e).len]
          obtain ⟨h1, h2, h3, h4⟩ := elemsA_sound (E := E) hk hf ha (O2 := (frzKs k (owns (parts.toList.flatMap fun p => cellsOf (rd fr p.2)))).O) (fun B hB => (frzKs_O _ k B hk hB).1) parts.toList 0 xs hxs (clear_frz hk _ _ (fun c hc n hn => owns_mem hc hn))
          have hlen' : (parts.toList.map fun p => a.eval p.2).length = len := by simpa using hlen
          obtain ⟨cs, h5, h6⟩ := fill_run e.size (parts.toList.map fun p => a.eval p.2) 0 ((Array.range (len * e.size)).map (z.cells[· % z.cells.size]!)) (fun v hv => by
            obtain ⟨p, hp, rfl⟩ := List.mem_map.1 hv
            exact h4 p hp) (by rw [hlen']; simp)
          have hcs2 : cs.toList = parts.toList.flatMap fun p => (a.eval p.2).cells.toList := by
            rw [h6, hlen']
            simp [List.flatMap_map]
          have hxl : xs.length = len := by omega
          have hcsz : cs.size = len * e.size := by
            rw [← Array.length_toList, hcs2, h3.1, hxl]
          refine OK.newArr (fz := owns (parts.toList.flatMap fun p => cellsOf (rd fr p.2))) (rm := none) (us := cs.toList) (T := el) (row := cs) (fro := (0, 0)) (cap := len) (w' := { k.w with heap := k.w.heap.push (.cells cs el) }) hk hf hN (fun n hn => by cases hn) rfl (unfrozen0 _) ⟨rfl, rfl, rfl⟩ ?_ (by rw [hcs2]; exact h3) ?_ (by omega) ?_ (by omega) htag
          · have hnz : ¬ (len * i.size > 2 ^ 24) := by rw [← hcs, ← hsz]; omega
            have hpl : (parts.map fun (q : Nat × Operand) => (q.1, a.eval q.2)).toList = ((parts.toList.map fun p => a.eval p.2).zipIdx 0).map (fun p => (p.2, p.1)) := by rw [Array.toList_map]; exact h1
            have hisz : i.size = e.size := by omega
            simp only [Instr.buildSlice, Sem.run_bind, run_under k.w hu, Result.andThen_ok, run_sizeOf' k.w hi, hnz, if_false, Sem.run_pure]
            rw [hxl]
            by_cases hl0 : len * i.size = 0
            · simp only [hl0, if_true, Sem.run_pure, Result.andThen_ok]
              have hz0 : len = 0 := by
                rcases Nat.mul_eq_zero.1 hl0 with h | h
                · exact h
                · omega
              subst hz0
              have hp0 : parts.toList = [] := List.eq_nil_of_length_eq_zero (by omega)
              have hc0 : cs = #[] := by
                apply Array.eq_empty_of_size_eq_zero
                omega
              have hpm : (parts.map fun (q : Nat × Operand) => (q.1, a.eval q.2)).toList = [] := by rw [hpl, hp0]; rfl
              rw [hpm]
              simp [Instr.fill, newRow, hc0, Array.range_zero']
            · simp only [hl0, if_false, Sem.run_bind, run_zero k.w hi hz, Result.andThen_ok, Sem.run_pure]
              rw [hpl, hisz, h5]
              simp [newRow]
          · rw [hxl, ← hcsz]; exact part_all
          · simp only [MAXL]
            have : len ≤ len * e.size := Nat.le_mul_of_pos_right _ hpos
            omega
        · cases h

end Go.Ab

/-
  ONE OPERATION IS RIGHT: stores and copies.
-/
set_option linter.unusedVariables false
set_option linter.unusedSimpArgs false
namespace Go.Ab
variable [Tabs]
open Go.RowKit (Below)

theorem Write.below {N : Nat} {k : Kx} {w' : World} {n : Nat} {b b' : Blk} (h : Write k w' n b b') (hk : HRel N k) (hm : Meta k.w w') (hN : N ≤ k.w.heap.size) : Below N k.w w' :=
  ⟨hm.os, hm.tape, hm.output, Nat.le_of_eq h.size.symm, fun B hB => h.same B fun he => by
    have := (hk.low B ⟨n, b, h.live, he⟩).1
    omega⟩

/-- A block written; other blocks may be frozen first. -/
theorem OK.write {E : Env} {N : Nat} {k : Kx} {fr : Fr} {tmps : Array Value} (hk : HRel N k) (hf : FRel k fr tmps) (hN : N ≤ k.w.heap.size) (fz : List Nat) {t : Bool} {c : AVal} {s : Sem Value} {v : Value} {w' : World} {n : Nat} {b b' : Blk}
    (hw : Write (frzKs k fz) w' n b b') (hr : s.run E.P k.w = .ok v w') (hb : Ext (frzKs k fz) (putK (frzKs k fz) w' n b') → BRel (putK (frzKs k fz) w' n b') n b')
    (hv : Ext (frzKs k fz) (putK (frzKs k fz) w' n b') → ARel (putK (frzKs k fz) w' n b') c v) (hm : Meta k.w w') :
    OK E N k fr tmps { test := t, v := c, frz := fz, acts := [.put n b'] } s := by
  obtain ⟨h1, h2, h3, h4, h5, h6⟩ := frzAll_rel fz k fr tmps hk hf
  have hx := hw.ext
  refine fun _ => ⟨v, putK (frzKs k fz) w' n b', hr, ?_, ?_, hw.hrel h1 (hb hx), hx.f h2, hv hx, ?_, (frzKs_ext fz k).trans hx, fun n hn => Or.inl (by rw [← frzKs_U fz k]; exact hn)⟩
  · simp only [putK, acts, act, h3]
  · simp only [putK, h5, Nat.add_zero]
  · have := hw.below h1 (by rw [h4]; exact hm) (by rw [h4]; exact hN)
    rw [h4] at this
    exact this

theorem write_row {k : Kx} {n : Nat} {b b' : Blk} {B : Nat} {row row' : Array Value} {T : TypeId} {fz : Nat × Nat} (hl : hget k.hp n = some b) (ha : Alike b b') (hB : (k.μ n).block = some B) (hrow : k.w.heap[B]? = some (.cells row T fz)) :
    Write k (k.w.setRow B row') n b b' where
  live := hl
  alike := ha
  size := by simp
  same := fun B' hB' => setRow_other k.w B B' _ (fun e => hB' (by rw [hB, e]))

theorem setRow_meta (w : World) (B : Nat) (row : Array Value) : Meta w (w.setRow B row) := ⟨rfl, rfl, rfl⟩

theorem rowPut_list (row : Array Value) (o : Nat) (us : List Value) : (rowPut row o us).toList = row.toList.take o ++ us ++ row.toList.drop (o + us.length) := by simp [rowPut]

/-- A part of a row behind a store within another part. -/
theorem rowPut_part {row : Array Value} {o n a : Nat} {us : List Value} (h : a + us.length ≤ n) (hs : o + n ≤ row.size) :
    part_ (rowPut row (o + a) us) o n = (part_ row o n).take a ++ us ++ (part_ row o n).drop (a + us.length) := by
  unfold part_
  rw [rowPut_list]
  apply List.ext_getElem?
  intro j
  simp only [List.getElem?_take, List.getElem?_drop, List.getElem?_append, List.length_append, List.length_take, List.length_drop, Array.length_toList]
  by_cases h1 : j < n
  · by_cases h2 : j < a
    · simp only [h1, if_true]
      repeat rw [if_pos (by omega)]
    · by_cases h3 : j < a + us.length
      · simp only [h1, if_true]
        rw [if_pos (by omega), if_neg (by omega), if_pos (by omega), if_neg (by omega)]
        congr 1
        omega
      · simp only [h1, if_true]
        rw [if_neg (by omega), if_neg (by omega), if_pos (by omega)]
        congr 1
        omega
  · rw [if_neg h1, if_neg (by omega), if_neg (by omega)]

theorem rowPut_part_other {row : Array Value} {o n p : Nat} {us : List Value} (h : p + us.length ≤ o ∨ o + n ≤ p) (hs : p + us.length ≤ row.size) : part_ (rowPut row p us) o n = part_ row o n := by
  unfold part_
  rw [rowPut_list]
  apply List.ext_getElem?
  intro j
  simp only [List.getElem?_take, List.getElem?_drop, List.getElem?_append, List.length_append, List.length_take, Array.length_toList]
  by_cases h1 : j < n
  · simp only [h1, if_true]
    rcases h with h | h
    · rw [if_neg (by omega)]
      congr 1
      omega
    · rw [if_pos (by omega), if_pos (by omega), if_pos (by omega)]
  · rw [if_neg h1, if_neg h1]

theorem store_sound {E : Env} (hE : EnvOK E) {N : Nat} {k : Kx} {fr : Fr} {tmps : Array Value} (hk : HRel N k) (hf : FRel k fr tmps) (hN : N ≤ k.w.heap.size) {t : TypeId} {c : Cell} {v : Value} {x : AVal} {u : Value} {out : Out}
    (hc : c ≠ .undef → CRel k c v) (hx : ARel k x u) (h : storeA E (hget k.hp) t c x = some out) (ht : out.test = true) :
    OK E N k fr tmps out (do Instr.storeAt t v u; pure undef) := by
  unfold storeA at h
  simp only at h
  split at h
  · rename_i hg
    simp only [Bool.and_eq_true, decide_eq_true_eq, beq_iff_eq] at hg
    obtain ⟨⟨⟨hlen, hkn⟩, hd⟩, hnsn⟩ := hg
    obtain ⟨d, hd⟩ := Option.isSome_iff_exists.1 hd
    have hcs := hx.cells hkn
    have hul : u.cells.size = (cellsOf x).length := by rw [hcs.len]; simp
    have h1 := hcs.one
    have run : ∀ (B o : Nat) (row : Array Value) (T : TypeId) (fz : Nat × Nat), v = .pointer (some ⟨B, o, none⟩) → k.w.heap[B]? = some (.cells row T fz) → Unfrozen row fz → o + (cellsOf x).length ≤ row.size →
        (do Instr.storeAt t v u; pure undef : Sem Value).run E.P k.w = .ok undef (k.w.setRow B (rowPut row o u.cells.toList)) := by
      intro B o row T fz hv hrow hfz hs
      subst hv
      have := run_storeVar (P := E.P) k.w t d B o row T fz u hd hrow hfz (by omega) (by omega) h1
      simp only [Sem.run_bind, Instr.storeAt, Instr.sureAddr, Sem.run_pure, Result.andThen_ok, this]
    cases c with
    | ptr n off =>
      have hc := hc (by simp)
      simp only at h
      split at h
      · rename_i cs hcs'
        split at h
        · rename_i hoff
          simp only [Option.some.injEq] at h
          subst h
          obtain ⟨B, hμ, hv⟩ := hc.2 cs hcs'
          obtain ⟨B', row, T, fz, hμ', hrow, hfz, hcr, htag⟩ := hk.blk n _ hcs'
          rw [hμ] at hμ'
          cases hμ'
          have hrl : cs.length = row.size := by rw [hcr.len]; simp
          have hw : Write k (k.w.setRow B (rowPut row off u.cells.toList)) n (.var cs) (.var (splice cs off (cellsOf x))) := write_row hcs' trivial (by rw [hμ]; rfl) hrow
          refine OK.write hk hf hN [] hw (run B off row T fz hv hrow hfz (by omega)) (fun hx' => ?_) (fun _ => Or.inl rfl) (setRow_meta _ _ _)
          refine ⟨B, rowPut row off u.cells.toList, T, fz, hμ, setRow_heap k.w B row _ T _ hrow, ?_, ?_, htag.splice hnsn⟩
          · intro j hj
            rw [rowPut_size (by simp; omega)] at hj
            exact hfz j hj
          · rw [rowPut_list]
            have := (hx'.cs hcr).splice (hx'.cs hcs) off
            simpa using this
        · cases h
      · cases h
    | eptr n e i off =>
      have hc := hc (by simp)
      simp only at h
      cases hxs : arrAs e (hget k.hp n) with
      | none => rw [hxs] at h; cases h
      | some xs =>
        rw [hxs] at h
        simp only at h
        cases hp : parseAll (hget k.hp) e (splice (flat e (getI e.dflt xs i)) off (cellsOf x)) with
        | none => rw [hp] at h; cases h
        | some y =>
          rw [hp] at h
          simp only at h
          split at h
          · rename_i hg
            simp only [Bool.and_eq_true, decide_eq_true_eq, Bool.not_eq_true', List.contains_eq_mem] at hg
            obtain ⟨hoff, hself⟩ := hg
            simp only [Option.some.injEq] at h
            subst h
            have hb := arrAs_eq hxs
            have hi : 0 ≤ i ∧ i < (xs.length : Int) := inR_bnd.1 ht
            have hlt : i.toNat < xs.length := by omega
            obtain ⟨B, o, cap, hμ, hv⟩ := hc.2 xs hb hi
            have hbr := hk.blk n _ hb
            unfold BRel at hbr
            rw [hμ] at hbr
            obtain ⟨row, T, fz, hrow, hfz, hcap, hcapm, hsz, hel⟩ := hbr
            -- what is stored, as data
            have hold := hel _ hlt
            rw [← getI_eq e.dflt xs i hlt] at hold
            have hcells : CRels k (splice (flat e (getI e.dflt xs i)) off (cellsOf x)) ((part_ row (o + i.toNat * e.size) e.size).take off ++ u.cells.toList ++ (part_ row (o + i.toNat * e.size) e.size).drop (off + u.cells.toList.length)) :=
              ((flat_rel e _ _).1 hold).splice hcs off
            have hown : ∀ c ∈ splice (flat e (getI e.dflt xs i)) off (cellsOf x), ∀ m ∈ ownOf c, m ∈ owns (cellsOf x) := by
              intro c hc' m hm
              have flatNo : ∀ c ∈ flat e (getI e.dflt xs i), ownOf c = [] := flat_own e _
              unfold splice at hc'
              rcases List.mem_append.1 hc' with hc' | hc'
              · rcases List.mem_append.1 hc' with hc' | hc'
                · rw [flatNo c (List.mem_of_mem_take hc')] at hm; cases hm
                · exact owns_mem hc' hm
              · rw [flatNo c (List.mem_of_mem_drop hc')] at hm; cases hm
            have hnew : VRel k.w (frzKs k (owns (cellsOf x))).O e y _ := parseAll_sound hk (fun B hB => (frzKs_O _ k B hk hB).1) hcells hp (clear_frz hk _ _ hown)
            obtain ⟨g1, g2, g3, g4, g5, g6⟩ := frzAll_rel (owns (cellsOf x)) k fr tmps hk hf
            have hb' : hget (frzKs k (owns (cellsOf x))).hp n = some (.arr e xs) := frzKs_keep _ k n e xs hb (by simpa using hself)
            have hbound : (i.toNat + 1) * e.size ≤ cap * e.size := Nat.mul_le_mul_right _ (by omega)
            rw [Nat.add_mul] at hbound
            have hul' : u.cells.toList.length = (cellsOf x).length := by simpa using hul
            have hw : Write (frzKs k (owns (cellsOf x))) (k.w.setRow B (rowPut row (o + i.toNat * e.size + off) u.cells.toList)) n (.arr e xs) (.arr e (xs.set i.toNat y)) := by
              have := write_row (k := frzKs k (owns (cellsOf x))) (b' := .arr e (xs.set i.toNat y)) (row' := rowPut row (o + i.toNat * e.size + off) u.cells.toList) (T := tagOf e T) (fz := fz) (row := row) hb' ⟨rfl, by simp⟩ (B := B) (by rw [g6, hμ]; rfl) (by rw [g4]; exact hrow)
              rw [g4] at this
              exact this
            refine OK.write hk hf hN (owns (cellsOf x)) hw (run B _ row _ fz hv hrow hfz (by omega)) (fun hx' => ?_) (fun _ => Or.inl rfl) (setRow_meta _ _ _)
            unfold BRel
            have hμ' : (putK (frzKs k (owns (cellsOf x))) (k.w.setRow B (rowPut row (o + i.toNat * e.size + off) u.cells.toList)) n (.arr e (xs.set i.toNat y))).μ n = .at_ B o cap := by
              show (frzKs k (owns (cellsOf x))).μ n = _
              rw [g6, hμ]
            rw [hμ']
            refine ⟨rowPut row (o + i.toNat * e.size + off) u.cells.toList, T, fz, setRow_heap k.w B row _ _ _ hrow, ?_, by simpa using hcap, hcapm, by rw [rowPut_size (by omega)]; exact hsz, fun j hj => ?_⟩
            · intro j hj
              rw [rowPut_size (by omega)] at hj
              exact hfz j hj
            · simp only [List.length_set] at hj
              have hj' : (j + 1) * e.size ≤ cap * e.size := Nat.mul_le_mul_right _ (by omega)
              rw [Nat.add_mul] at hj'
              by_cases hji : j = i.toNat
              · subst hji
                simp only [List.getElem_set_self]
                rw [rowPut_part (by omega) (by omega)]
                rw [← g4] at hnew
                exact hx'.v hnew
              · rw [List.getElem_set_ne (by omega)]
                have hapart : (o + i.toNat * e.size + off) + u.cells.toList.length ≤ o + j * e.size ∨ o + j * e.size + e.size ≤ o + i.toNat * e.size + off := by
                  rcases Nat.lt_or_gt_of_ne hji with h | h
                  · right
                    have : (j + 1) * e.size ≤ i.toNat * e.size := Nat.mul_le_mul_right _ h
                    rw [Nat.add_mul] at this
                    omega
                  · left
                    have : (i.toNat + 1) * e.size ≤ j * e.size := Nat.mul_le_mul_right _ h
                    rw [Nat.add_mul] at this
                    omega
                rw [rowPut_part_other hapart (by omega)]
                have h2 := (frzKs_ext (owns (cellsOf x)) k).v (hel j hj)
                exact hx'.v h2
          · cases h
    | _ => simp at h
  · cases h

end Go.Ab
