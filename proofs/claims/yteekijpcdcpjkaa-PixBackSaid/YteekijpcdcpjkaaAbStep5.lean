/-
  ONE OPERATION IS RIGHT: new blocks.
-/
import Derived.Test.YteekijpcdcpjkaaAbStep4
import Derived.Laws.AppendOwn
set_option linter.unusedVariables false
set_option linter.unusedSimpArgs false
namespace Go.Ab
open Go.RowKit (Below)

/-! ### runs of elements -/
/-- the cells of elements, one behind the other -/
def ERel (w : World) (O : Nat → Prop) (e : Ty) (ys : List e.den) (us : List Value) : Prop :=
  us.length = ys.length * e.size ∧ ∀ i (h : i < ys.length), VRel w O e ys[i] ((us.drop (i * e.size)).take e.size)

theorem ERel.nil (w : World) (O : Nat → Prop) (e : Ty) : ERel w O e [] [] := ⟨by simp, fun i h => absurd h (by simp)⟩

theorem ERel.append {w : World} {O : Nat → Prop} {e : Ty} {xs ys : List e.den} {us ws : List Value} (h : ERel w O e xs us) (h' : ERel w O e ys ws) : ERel w O e (xs ++ ys) (us ++ ws) := by
  refine ⟨by rw [List.length_append, List.length_append, h.1, h'.1, Nat.add_mul], fun i hi => ?_⟩
  by_cases hlt : i < xs.length
  · rw [List.getElem_append_left hlt]
    have h1 := h.2 i hlt
    have : (i + 1) * e.size ≤ xs.length * e.size := Nat.mul_le_mul_right _ (by omega)
    rw [Nat.add_mul] at this
    have hl := h.1
    rw [List.drop_append_of_le_length (by omega), List.take_append_of_le_length (by rw [List.length_drop]; omega)]
    exact h1
  · have hge : xs.length ≤ i := by omega
    rw [List.getElem_append_right hge]
    have h1 := h'.2 (i - xs.length) (by rw [List.length_append] at hi; omega)
    have e1 : (us ++ ws).drop (i * e.size) = ws.drop ((i - xs.length) * e.size) := by
      rw [List.drop_append, h.1, ← Nat.mul_sub_right_distrib]
      rw [List.drop_eq_nil_of_le (by rw [h.1]; exact Nat.mul_le_mul_right _ hge), List.nil_append]
    rw [e1]; exact h1

theorem ERel.mono {w w' : World} {O O' : Nat → Prop} (same : ∀ B, ¬ O B → B < w.heap.size → w'.heap[B]? = w.heap[B]?) (own : ∀ B, O' B → B < w.heap.size → O B) {e : Ty} {ys : List e.den} {us : List Value} (h : ERel w O e ys us) : ERel w' O' e ys us :=
  ⟨h.1, fun i hi => VRel.mono same own _ _ _ (h.2 i hi)⟩

theorem Ext.e {k k' : Kx} (h : Ext k k') {e : Ty} {ys : List e.den} {us : List Value} (hv : ERel k.w k.O e ys us) : ERel k'.w k'.O e ys us := hv.mono h.sameO h.ownO

theorem ERel.one {w : World} {O : Nat → Prop} {e : Ty} {ys : List e.den} {us : List Value} (h : ERel w O e ys us) (hz : 0 < e.size) : ∀ u ∈ us, u.oneCell' = true := by
  intro u hu
  obtain ⟨j, hj, rfl⟩ := List.getElem_of_mem hu
  have hlt : j / e.size < ys.length := by rw [Nat.div_lt_iff_lt_mul hz]; rw [h.1] at hj; exact hj
  refine VRel.one _ _ _ (h.2 _ hlt) us[j] ?_
  have hm := Nat.mod_lt j hz
  have hdm : j / e.size * e.size + j % e.size = j := by rw [Nat.mul_comm]; exact Nat.div_add_mod j e.size
  refine List.mem_iff_getElem?.2 ⟨j % e.size, ?_⟩
  rw [List.getElem?_take, if_pos hm, List.getElem?_drop, hdm, List.getElem?_eq_getElem hj]

/-- The elements of a row from o on. -/
theorem row_elems {w : World} {O : Nat → Prop} {e : Ty} {xs : List e.den} {row : Array Value} {o cap : Nat} (hl : xs.length ≤ cap) (hs : o + cap * e.size ≤ row.size)
    (hv : ∀ i (h : i < xs.length), VRel w O e xs[i] (part_ row (o + i * e.size) e.size)) {lo len : Nat} (hle : lo + len ≤ xs.length) :
    ERel w O e ((xs.drop lo).take len) (part_ row (o + lo * e.size) (len * e.size)) := by
  have hb : (lo + len) * e.size ≤ cap * e.size := Nat.mul_le_mul_right _ (by omega)
  rw [Nat.add_mul] at hb
  have hlen : ((xs.drop lo).take len).length = len := by simp; omega
  refine ⟨by rw [hlen]; exact part_len (by omega), fun i hi => ?_⟩
  rw [hlen] at hi
  have e3 : ((xs.drop lo).take len)[i]'(by rw [hlen]; exact hi) = xs[lo + i]'(by omega) := by simp
  rw [e3]
  have hi' : (i + 1) * e.size ≤ len * e.size := Nat.mul_le_mul_right _ (by omega)
  rw [Nat.add_mul] at hi'
  rw [part_part (by omega)]
  have := hv (lo + i) (by omega)
  rw [Nat.add_mul, ← Nat.add_assoc] at this
  exact this

/-- Back: elements that lie in a row. -/
theorem elems_row {w : World} {O : Nat → Prop} {e : Ty} {ys : List e.den} {us : List Value} {row : Array Value} {o : Nat} (h : ERel w O e ys us) (hr : part_ row o (ys.length * e.size) = us) :
    ∀ i (hi : i < ys.length), VRel w O e ys[i] (part_ row (o + i * e.size) e.size) := by
  intro i hi
  have h1 := h.2 i hi
  have hi' : (i + 1) * e.size ≤ ys.length * e.size := Nat.mul_le_mul_right _ (by omega)
  rw [Nat.add_mul] at hi'
  rw [← hr, part_part (by omega)] at h1
  exact h1

/-- A slice that is read, as a run of elements. -/
theorem slice_elems {w : World} {O : Nat → Prop} {e : Ty} {ys : List e.den} {a : Option Addr} {n c : Nat} (h : VRel w O (.slice e) ys [.slice a n c]) :
    n = ys.length ∧ ∃ us, ERel w O e ys us ∧ ∀ (P : Program) (w' : World), w'.heap = w.heap → ((Builtin.firstCells e.size n (.slice a n c)).run P w' = .ok us.toArray w') := by
  obtain ⟨a', cap, e1, h1, h2, h3⟩ := h
  simp only [List.cons.injEq, Value.slice.injEq, and_true] at e1
  obtain ⟨ea, en, ec⟩ := e1
  subst ea; subst en; subst ec
  refine ⟨rfl, ?_⟩
  by_cases hx : ys = []
  · subst hx
    refine ⟨[], ERel.nil _ _ _, fun P w' _ => ?_⟩
    cases a <;> simp [Builtin.firstCells, loadCells, loadCellsFrom]
  · obtain ⟨B, o, row, T, fz, e2, hO, hrow, hs, hv⟩ := h3 hx
    subst e2
    refine ⟨part_ row o (ys.length * e.size), ?_, fun P w' hw => ?_⟩
    · have := row_elems (cap := ys.length) (Nat.le_refl _) hs hv (lo := 0) (len := ys.length) (by simp)
      simpa using this
    · simp only [Builtin.firstCells]
      exact run_cells_row w' B o _ row T fz (by rw [hw]; exact hrow) hs

/-! ### new blocks -/
/-- the streams are as they were -/
structure Meta (w w' : World) : Prop where
  os : w'.os = w.os
  tape : w'.tape = w.tape
  output : w'.output = w.output

theorem NewName.below {N : Nat} {k : Kx} {w' : World} {rm : Option Nat} {l : Loc} (h : NewName N k w' rm l) (hk : HRel N k) (hm : Meta k.w w') : Below N k.w w' :=
  ⟨hm.os, hm.tape, hm.output, h.size, fun B hB => h.same B (Nat.lt_of_lt_of_le hB h.low) fun n hn he => by
    obtain ⟨b, hb⟩ := h.live n hn
    have := (hk.low B ⟨n, b, hb, he⟩).1
    omega⟩

def rmActs : Option Nat → List HAct
  | none => []
  | some n => [.rem n]

theorem acts_new (hp : Hp) (rm : Option Nat) (n : Nat) (b : Blk) : acts hp (rmActs rm ++ [.put n b]) = hput (without hp rm) n b := by
  cases rm <;> rfl

theorem OK.new {E : Env} {N : Nat} {k : Kx} {fr : Fr} {tmps : Array Value} (hk : HRel N k) (hf : FRel k fr tmps) (fz : List Nat) {t : Bool} {c : Cell} {s : Sem Value} {v : Value} {w' : World} {rm : Option Nat} {l : Loc} {b : Blk}
    (hn : NewName N (frzKs k fz) w' rm l) (hr : s.run E.P k.w = .ok v w') (hb : Ext (frzKs k fz) (newK (frzKs k fz) w' rm l b) → BRel (newK (frzKs k fz) w' rm l b) k.nx b)
    (hv : Ext (frzKs k fz) (newK (frzKs k fz) w' rm l b) → CRel (newK (frzKs k fz) w' rm l b) c v) (hm : Meta k.w w') :
    OK E N k fr tmps { test := t, v := .one c, frz := fz, acts := rmActs rm ++ [.put k.nx b], made := 1 } s := by
  obtain ⟨h1, h2, h3, h4, h5, h6⟩ := frzAll_rel fz k fr tmps hk hf
  have hnx : (frzKs k fz).nx = k.nx := h5
  intro hmade
  have hfresh : ¬ (frzKs k fz).U (frzKs k fz).nx := by rw [frzKs_U, hnx]; exact hmade (by simp)
  have hx := hn.ext h1 hfresh b
  refine ⟨v, newK (frzKs k fz) w' rm l b, hr, ?_, ?_, hn.hrel h1 hfresh b (by rw [hnx]; exact hb hx), hx.f h2, Or.inr (hv hx), ?_, (frzKs_ext fz k).trans hx, fun n hn => ?_⟩
  · simp only [newK, acts_new, hnx, h3]
  · simp only [newK, hnx]
  · have := hn.below h1 (by rw [h4]; exact hm)
    rw [h4] at this
    exact this
  · rcases hn with hn | hn
    · rw [frzKs_U] at hn; exact Or.inl hn
    · rw [hnx] at hn; exact Or.inr (by simp only; omega)

theorem OK.new0 {E : Env} {N : Nat} {k : Kx} {fr : Fr} {tmps : Array Value} (hk : HRel N k) (hf : FRel k fr tmps) {t : Bool} {c : Cell} {s : Sem Value} {v : Value} {w' : World} {rm : Option Nat} {l : Loc} {b : Blk}
    (hn : NewName N k w' rm l) (hr : s.run E.P k.w = .ok v w') (hb : Ext k (newK k w' rm l b) → BRel (newK k w' rm l b) k.nx b)
    (hv : Ext k (newK k w' rm l b) → CRel (newK k w' rm l b) c v) (hm : Meta k.w w') :
    OK E N k fr tmps { test := t, v := .one c, acts := rmActs rm ++ [.put k.nx b], made := 1 } s :=
  OK.new (E := E) hk hf [] hn hr hb hv hm

theorem newName_alloc {N : Nat} {k : Kx} {w' : World} {o : Obj} (hN : N ≤ k.w.heap.size) (hw : w'.heap = k.w.heap.push o) (off cap : Nat) : NewName N k w' none (.at_ k.w.heap.size off cap) where
  low := hN
  size := by rw [hw]; simp
  same := fun B hB _ => by rw [hw, Array.getElem?_push, if_neg (by omega)]
  live := fun n h => by cases h
  place := fun B hB => by
    simp only [Loc.block, Option.some.injEq] at hB
    refine Or.inl ⟨by omega, by rw [hw]; simp; omega⟩

theorem heap_push_new {w w' : World} {o : Obj} (hw : w'.heap = w.heap.push o) : w'.heap[w.heap.size]? = some o := by rw [hw]; simp

theorem unfrozen0 (row : Array Value) : Unfrozen row (0, 0) := fun j _ h => by omega

/-- a variable of the call's own -/
theorem OK.newVar {E : Env} {N : Nat} {k : Kx} {fr : Fr} {tmps : Array Value} (hk : HRel N k) (hf : FRel k fr tmps) (hN : N ≤ k.w.heap.size) {t : Bool} {s : Sem Value} {T : TypeId} {row : Array Value} {cs : List Cell}
    (hr : s.run E.P k.w = .ok (.pointer (some ⟨k.w.heap.size, 0, none⟩)) { k.w with heap := k.w.heap.push (.cells row T) }) (hc : CRels k cs row.toList) :
    OK E N k fr tmps { test := t, v := .one (.ptr k.nx 0), acts := [.put k.nx (.var cs)], made := 1 } s := by
  refine OK.new0 (rm := none) (l := .at_ k.w.heap.size 0 0) hk hf (newName_alloc hN rfl 0 0) hr (fun hx => ?_) (fun hx => ?_) ⟨rfl, rfl, rfl⟩
  · exact ⟨k.w.heap.size, row, T, (0, 0), upd_same _ _ _, heap_push_new rfl, unfrozen0 row, hx.cs hc⟩
  · refine ⟨⟨Or.inr rfl, _, rfl⟩, fun cs' hcs => ⟨k.w.heap.size, upd_same _ _ _, rfl⟩⟩

theorem alloc_sound {E : Env} (hE : EnvOK E) {N : Nat} {k : Kx} {fr : Fr} {tmps : Array Value} (hk : HRel N k) (hf : FRel k fr tmps) (hN : N ≤ k.w.heap.size) {t : TypeId} {ty : Ty} (ht : E.ty t = some ty) :
    OK E N k fr tmps { test := true, v := .one (.ptr k.nx 0), acts := [.put k.nx (.var (zeros ty))], made := 1 } (Instr.alloc t true (.tuple #[])) := by
  obtain ⟨i, z, hi, hz, hzc, _, _⟩ := hE t ty ht
  refine OK.newVar (T := t) (row := z.cells) hk hf hN ?_ (by rw [hzc]; exact zeros_rel k ty)
  simp [Instr.alloc, run_zero k.w hi hz, newVar, newRow]

theorem box_sound {E : Env} {N : Nat} {k : Kx} {fr : Fr} {tmps : Array Value} (hk : HRel N k) (hf : FRel k fr tmps) (hN : N ≤ k.w.heap.size) {t : TypeId} {x : AVal} {v : Value} (hx : ARel k x v) (hkn : known x = true) :
    OK E N k fr tmps { test := true, v := .one (.ptr k.nx 0), acts := [.put k.nx (.var (cellsOf x))], made := 1 } (Instr.box t v) := by
  refine OK.newVar (T := t) (row := v.cells) hk hf hN ?_ (hx.cells hkn)
  simp [Instr.box, newVar, newRow]

/-- A new row with elements at its head. -/
theorem OK.newArr {E : Env} {N : Nat} {k : Kx} {fr : Fr} {tmps : Array Value} (hk : HRel N k) (hf : FRel k fr tmps) (hN : N ≤ k.w.heap.size) {fz : List Nat} {t : Bool} {s : Sem Value} {T : TypeId} {row : Array Value} {fro : Nat × Nat} {e : Ty} {ys : List e.den} {us : List Value} {cap : Nat} {w' : World} {rm : Option Nat}
    (hrm : ∀ n, rm = some n → ∃ b, hget (frzKs k fz).hp n = some b) (hw : w'.heap = k.w.heap.push (.cells row T fro)) (hfro : Unfrozen row fro) (hm : Meta k.w w')
    (hr : s.run E.P k.w = .ok (.slice (some ⟨k.w.heap.size, 0, none⟩) ys.length cap) w') (he : ERel k.w (frzKs k fz).O e ys us) (hus : part_ row 0 (ys.length * e.size) = us) (hc : ys.length ≤ cap) (hc2 : cap ≤ MAXL) (hs : cap * e.size ≤ row.size) :
    OK E N k fr tmps { test := t, v := .one (.own k.nx e), frz := fz, acts := rmActs rm ++ [.put k.nx (.arr e ys)], made := 1 } s := by
  obtain ⟨h1, h2, h3, h4, h5, h6⟩ := frzAll_rel fz k fr tmps hk hf
  have hnn : NewName N (frzKs k fz) w' rm (.at_ k.w.heap.size 0 cap) := by
    refine ⟨by rw [h4]; exact hN, by rw [h4, hw]; simp, fun B hB _ => by rw [h4] at hB ⊢; rw [hw, Array.getElem?_push, if_neg (by omega)], hrm, fun B hB => ?_⟩
    simp only [Loc.block, Option.some.injEq] at hB
    exact Or.inl ⟨by rw [h4]; omega, by rw [hw]; simp; omega⟩
  have hμ : (newK (frzKs k fz) w' rm (.at_ k.w.heap.size 0 cap) (.arr e ys)).μ k.nx = .at_ k.w.heap.size 0 cap := by
    show upd _ (frzKs k fz).nx _ k.nx = _
    rw [h5]; exact upd_same _ _ _
  refine OK.new hk hf fz hnn hr (fun hx => ?_) (fun hx => ?_) hm
  · unfold BRel
    rw [hμ]
    have he' : ERel k.w (frzKs k fz).O e ys us := he
    rw [← h4] at he'
    have hel := elems_row (hx.e he') hus
    refine ⟨row, T, fro, heap_push_new hw, hfro, hc, hc2, by omega, ?_⟩
    simpa using hel
  · refine ⟨⟨Or.inr h5.symm, rfl⟩, fun xs hxs => ?_⟩
    have hxs' : xs = ys := by
      simp only [newK, hget_hput, h5, if_true, Option.some.injEq, Blk.arr.injEq] at hxs
      exact (eq_of_heq hxs.2).symm
    subst hxs'
    rw [hμ]
    exact ⟨_, cap, rfl, hc, by omega, Or.inl (by simp)⟩

end Go.Ab
