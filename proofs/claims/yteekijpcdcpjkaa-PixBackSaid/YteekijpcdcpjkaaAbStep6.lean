/-
  ONE OPERATION IS RIGHT: make, literals of slices, stores.
-/
import Derived.Test.YteekijpcdcpjkaaAbStep5
set_option linter.unusedVariables false
set_option linter.unusedSimpArgs false
namespace Go.Ab
open Go.RowKit (Below)

/-! ### make -/
theorem made_part {z : Array Value} {c i : Nat} (hi : i < c) (hz : 0 < z.size) : part_ (madeCells z (c * z.size)) (i * z.size) z.size = z.toList := by
  have hb : (i + 1) * z.size ≤ c * z.size := Nat.mul_le_mul_right _ (by omega)
  rw [Nat.add_mul] at hb
  apply List.ext_getElem?
  intro j
  by_cases hj : j < z.size
  · rw [part_get hj]
    have hlt : i * z.size + j < c * z.size := by omega
    have hmod : (i * z.size + j) % z.size = j := by rw [Nat.mul_comm, Nat.mul_add_mod]; exact Nat.mod_eq_of_lt hj
    simp [madeCells, hlt, hmod, hj]
  · rw [List.getElem?_eq_none (by rw [part_len (by rw [size_madeCells]; omega)]; omega), List.getElem?_eq_none (by simp; omega)]

theorem roomFor_iff {n b : Nat} : roomFor n b = true ↔ n * b ≤ 140737488355328 ∧ n ≤ 140737488355328 := by
  unfold roomFor ROOM
  exact decide_eq_true_iff

theorem make_sound {E : Env} (hE : EnvOK E) {N : Nat} {k : Kx} {fr : Fr} {tmps : Array Value} (hk : HRel N k) (hf : FRel k fr tmps) (hN : N ≤ k.w.heap.size) {t : TypeId} {l c : Int} {q q' : IntKind} {out : Out}
    (h : makeA E k.nx t l c = some out) (ht : out.test = true) : OK E N k fr tmps out (Instr.makeSlice t (.int q l) (.int q' c)) := by
  unfold makeA at h
  cases hse : sliceElem E.P t with
  | none => rw [hse] at h; cases h
  | some el =>
    rw [hse] at h
    simp only at h
    have hu : E.P.underlying t = some (.slice el) := by
      unfold sliceElem at hse
      split at hse
      · simp at hse; subst hse; assumption
      · cases hse
    cases hty : E.ty el with
    | none => rw [hty] at h; cases h
    | some e =>
      rw [hty] at h
      simp only at h
      split at h
      · rename_i hpos
        simp only [Option.some.injEq] at h
        subst h
        simp only [Bool.and_eq_true, decide_eq_true_eq, roomFor_iff] at ht
        obtain ⟨⟨h0, h1⟩, h2, h3⟩ := ht
        obtain ⟨i, z, hi, hz, hzc, hsz, _⟩ := hE el e hty
        have hb := bytesOf_info hi
        have hzs : z.cells.size = e.size := by rw [← Array.length_toList, hzc, ← zeros_len, (zeros_rel k e).len]
        have hbytes : (i.bytes : Int) * c ≤ 281474976710656 := by
          have : (c.toNat : Int) = c := by omega
          rw [← this, Int.mul_comm]
          rw [hb] at h2
          have : ((c.toNat * i.bytes : Nat) : Int) ≤ 140737488355328 := by omega
          rw [Int.natCast_mul] at this
          omega
        have hr := run_make (P := E.P) k.w t el i z hu hi hz q q' l c h0 h1 hbytes (by omega)
        refine OK.newArr (fz := []) (rm := none) (us := part_ (madeCells z.cells (c.toNat * e.size)) 0 (l.toNat * e.size)) (T := el) (row := madeCells z.cells (c.toNat * e.size)) (fro := (0, 0)) (cap := c.toNat) hk hf hN (fun n hn => by cases hn) (w' := k.w.alloc (.cells (madeCells z.cells (c.toNat * e.size)) el)) rfl (unfrozen0 _) ⟨rfl, rfl, rfl⟩ ?_ ?_ ?_ ?_ ?_ ?_
        · rw [hr]
          simp [← hsz]
        · refine ⟨?_, fun j hj => ?_⟩
          · rw [part_len]
            · simp
            · rw [size_madeCells, Nat.zero_add]; exact Nat.mul_le_mul_right _ (by omega)
          · simp only [List.length_replicate] at hj
            have hj' : (j + 1) * e.size ≤ l.toNat * e.size := Nat.mul_le_mul_right _ (by omega)
            rw [Nat.add_mul] at hj'
            rw [part_part (by omega), Nat.zero_add, ← hzs, made_part (by omega) (by omega), hzc]
            simpa using dflt_rel k.w _ e
        · simp
        · simp; omega
        · simp only [MAXL]; omega
        · rw [size_madeCells]; exact Nat.le_refl _
      · cases h

/-! ### literals -/
theorem setAll (off : Nat) : ∀ (vs : List Value) (k : Nat) (cells : Array Value), off + k + vs.length ≤ cells.size →
    ((vs.zipIdx k).foldl (fun cs (p : Value × Nat) => cs.setIfInBounds (off + p.2) p.1) cells).toList = cells.toList.take (off + k) ++ vs ++ cells.toList.drop (off + k + vs.length) := by
  intro vs
  induction vs with
  | nil => intro k cells h; simp
  | cons v r ih =>
    intro k cells h
    simp only [List.length_cons] at h
    simp only [List.zipIdx_cons, List.foldl_cons]
    rw [ih (k + 1) _ (by simp; omega)]
    have e := list_seg_step cells.toList (off + k) v r (by simp; omega)
    simpa [Array.toList_setIfInBounds, Nat.add_assoc] using e

theorem fill_run (size : Nat) : ∀ (vs : List Value) (j : Nat) (cells : Array Value), (∀ v ∈ vs, v.cells.size = size) → (j + vs.length) * size ≤ cells.size →
    ∃ cs, Instr.fill (fun i => some (i * size, size)) cells ((vs.zipIdx j).map fun p => (p.2, p.1)) = some cs ∧ cs.toList = cells.toList.take (j * size) ++ vs.flatMap (fun v => v.cells.toList) ++ cells.toList.drop ((j + vs.length) * size) := by
  intro vs
  induction vs with
  | nil => intro j cells _ h; exact ⟨cells, rfl, by simp⟩
  | cons v r ih =>
    intro j cells hv h
    have h1 := hv v (by simp)
    simp only [List.length_cons] at h
    have h2 : (j + 1 + r.length) * size ≤ cells.size := by rw [show j + 1 + r.length = j + (r.length + 1) by omega]; exact h
    have h3 : j * size + size ≤ cells.size := by
      have : (j + 1) * size ≤ (j + 1 + r.length) * size := Nat.mul_le_mul_right _ (by omega)
      rw [Nat.add_mul j 1] at this
      omega
    have e1 : (v.cells.zipIdx.foldl (fun cs (p : Value × Nat) => cs.setIfInBounds (j * size + p.2) p.1) cells).toList = cells.toList.take (j * size) ++ v.cells.toList ++ cells.toList.drop (j * size + size) := by
      have := setAll (j * size) v.cells.toList 0 cells (by simp; omega)
      simp only [Nat.add_zero, Array.length_toList, h1] at this
      rw [← this]
      rw [← Array.foldl_toList, Array.toList_zipIdx]
    have hsz : (v.cells.zipIdx.foldl (fun cs (p : Value × Nat) => cs.setIfInBounds (j * size + p.2) p.1) cells).size = cells.size := by
      rw [← Array.length_toList, e1]; simp; omega
    obtain ⟨cs, h4, h5⟩ := ih (j + 1) (v.cells.zipIdx.foldl (fun cs (p : Value × Nat) => cs.setIfInBounds (j * size + p.2) p.1) cells) (fun u hu => hv u (by simp [hu])) (by rw [hsz]; exact h2)
    refine ⟨cs, ?_, ?_⟩
    · simp only [List.zipIdx_cons, List.map_cons, Instr.fill, h1]
      rw [if_neg (by simp; omega)]
      exact h4
    · rw [h5, e1]
      have l1 : (cells.toList.take (j * size)).length = j * size := by simp; omega
      have l2 : v.cells.toList.length = size := by simpa using h1
      have t1 : (cells.toList.take (j * size) ++ v.cells.toList ++ cells.toList.drop (j * size + size)).take ((j + 1) * size) = cells.toList.take (j * size) ++ v.cells.toList := by
        rw [Nat.add_mul, Nat.one_mul, List.take_append_of_le_length (by rw [List.length_append, l1, l2]; omega), List.take_of_length_le (by rw [List.length_append, l1, l2]; omega)]
      have t2 : (cells.toList.take (j * size) ++ v.cells.toList ++ cells.toList.drop (j * size + size)).drop ((j + 1 + r.length) * size) = cells.toList.drop ((j + (r.length + 1)) * size) := by
        rw [List.drop_append, List.length_append, l1, l2, List.drop_eq_nil_of_le (by rw [List.length_append, l1, l2, Nat.add_mul, Nat.add_mul]; omega), List.nil_append, List.drop_drop]
        congr 1
        simp only [Nat.add_mul]
        omega
      rw [t1, t2]
      simp [List.append_assoc]

theorem elemsA_sound {E : Env} {N : Nat} {k : Kx} {fr : Fr} {tmps : Array Value} (hk : HRel N k) (hf : FRel k fr tmps) {a : Act} (ha : a.tmps = tmps) {e : Ty} {O2 : Nat → Prop} (hO : ∀ B, O2 B → k.O B) :
    ∀ (ps : List (Nat × Operand)) (j : Nat) (xs : List e.den), elemsA (hget k.hp) fr e j ps = some xs → Clear k O2 (ps.flatMap fun p => cellsOf (rd fr p.2)) →
      (ps.map fun p => (p.1, a.eval p.2)) = ((ps.map fun p => a.eval p.2).zipIdx j).map (fun p => (p.2, p.1)) ∧ xs.length = ps.length ∧ ERel k.w O2 e xs (ps.flatMap fun p => (a.eval p.2).cells.toList) ∧ (∀ p ∈ ps, (a.eval p.2).cells.size = e.size) := by
  intro ps
  induction ps with
  | nil =>
    intro j xs h _
    simp only [elemsA, Option.some.injEq] at h
    subst h
    exact ⟨rfl, rfl, ERel.nil _ _ _, fun p hp => by cases hp⟩
  | cons p r ih =>
    intro j xs h hc
    obtain ⟨i, x⟩ := p
    simp only [elemsA] at h
    split at h
    · rename_i hij
      subst hij
      split at h
      · rename_i y ys hy hys
        simp only [Option.some.injEq] at h
        subst h
        obtain ⟨h1, h2, h3, h4⟩ := ih (i + 1) ys hys (fun c hm => hc c (by simp at hm ⊢; obtain ⟨a, b, h, g⟩ := hm; exact Or.inr ⟨a, b, h, g⟩))
        have hx := rd_rel hf ha x
        have hv : VRel k.w O2 e y (a.eval x).cells.toList := by
          unfold reify at hy
          split at hy
          · rename_i t' z hz
            obtain ⟨he, rfl⟩ := asTy_eq hy
            subst he
            rw [hz] at hx
            obtain ⟨_, vs, e1, hv⟩ := hx
            rw [e1]
            exact VRel.mono (fun _ _ _ => rfl) (fun B h _ => hO B h) _ _ _ hv
          · rename_i hnp
            split at hy
            · rename_i hkn
              exact parseAll_sound hk hO (hx.cells hkn) hy (fun c hm => hc c (by simp [hm]))
            · cases hy
        have hl := VRel.len _ _ _ hv
        refine ⟨by simp [h1], by simp [h2], ?_, ?_⟩
        · have : ERel k.w O2 e [y] (a.eval x).cells.toList := by
            refine ⟨by simp [hl], fun j hj => ?_⟩
            simp only [List.length_singleton] at hj
            obtain rfl : j = 0 := by omega
            simp only [List.getElem_singleton, Nat.zero_mul, List.drop_zero]
            rw [List.take_of_length_le (by omega)]
            exact hv
          exact this.append h3
        · intro p hp
          rcases List.mem_cons.1 hp with rfl | hp
          · simpa using hl
          · exact h4 p hp
      · cases h
    · cases h


theorem owns_mem {cs : List Cell} {c : Cell} {n : Nat} (hc : c ∈ cs) (hn : n ∈ ownOf c) : n ∈ owns cs := by
  unfold owns
  rw [List.mem_eraseDups]
  exact List.mem_flatMap.2 ⟨c, hc, hn⟩

/-- What is frozen is not the call's own any more. -/
theorem clear_frz {N : Nat} {k : Kx} (hk : HRel N k) (cs : List Cell) (fz : List Nat) (h : ∀ c ∈ cs, ∀ n ∈ ownOf c, n ∈ fz) : Clear k (frzKs k fz).O cs := by
  intro c hc n hn hl B hB hO
  obtain ⟨_, h2⟩ := frzKs_O fz k B hk hO
  rcases h2 n (h c hc n hn) with h3 | h3
  · exact h3 hB
  · obtain ⟨e, xs, hl⟩ := hl
    rw [h3] at hl
    cases hl

theorem buildSlice_sound {E : Env} (hE : EnvOK E) {N : Nat} {k : Kx} {fr : Fr} {tmps : Array Value} (hk : HRel N k) (hf : FRel k fr tmps) (hN : N ≤ k.w.heap.size) {a : Act} (ha : a.tmps = tmps) {t : TypeId} {len : Nat} {parts : Array (Nat × Operand)} {out : Out}
    (h : buildSliceA E (hget k.hp) fr k.nx t len parts.toList = some out) : OK E N k fr tmps out (Instr.buildSlice t len (parts.map fun (i, x) => (i, a.eval x))) := by
  unfold buildSliceA at h
  cases hse : sliceElem E.P t with
  | none => rw [hse] at h; cases h
  | some el =>
    rw [hse] at h
    simp only at h
    have hu : E.P.underlying t = some (.slice el) := by
      unfold sliceElem at hse
      split at hse
      · simp at hse; subst hse; assumption
      · cases hse
    cases hty : E.ty el with
    | none => rw [hty] at h; cases h
    | some e =>
      rw [hty] at h
      simp only at h
      cases hxs : elemsA (hget k.hp) fr e 0 parts.toList with
      | none => rw [hxs] at h; cases h
      | some xs =>
        rw [hxs] at h
        simp only at h
        split at h
        · rename_i hg
          simp only [Option.some.injEq] at h
          subst h
          simp only [Bool.and_eq_true, decide_eq_true_eq, beq_iff_eq] at hg
          obtain ⟨hlen, hsz, hpos, hmax⟩ := hg
          obtain ⟨i, z, hi, hz, hzc, hsize, _⟩ := hE el e hty
          have hcs := cellsOf_info hi
          have hzs : z.cells.size = e.size := by rw [← Array.length_toList, hzc, ← zeros_len, (zeros_rel k e).len]
          obtain ⟨h1, h2, h3, h4⟩ := elemsA_sound (E := E) hk hf ha (O2 := (frzKs k (owns (parts.toList.flatMap fun p => cellsOf (rd fr p.2)))).O) (fun B hB => (frzKs_O _ k B hk hB).1) parts.toList 0 xs hxs (clear_frz hk _ _ (fun c hc n hn => owns_mem hc hn))
          have hlen' : (parts.toList.map fun p => a.eval p.2).length = len := by simpa using hlen
          obtain ⟨cs, h5, h6⟩ := fill_run e.size (parts.toList.map fun p => a.eval p.2) 0 ((Array.range (len * e.size)).map (z.cells[· % z.cells.size]!)) (fun v hv => by
            obtain ⟨p, hp, rfl⟩ := List.mem_map.1 hv
            exact h4 p hp) (by rw [hlen']; simp)
          have hcs2 : cs.toList = parts.toList.flatMap fun p => (a.eval p.2).cells.toList := by
            rw [h6, hlen']
            simp [List.flatMap_map]
          have hxl : xs.length = len := by omega
          have hcsz : cs.size = len * e.size := by
            rw [← Array.length_toList, hcs2, h3.1, hxl]
          refine OK.newArr (fz := owns (parts.toList.flatMap fun p => cellsOf (rd fr p.2))) (rm := none) (us := cs.toList) (T := el) (row := cs) (fro := (0, 0)) (cap := len) (w' := { k.w with heap := k.w.heap.push (.cells cs el) }) hk hf hN (fun n hn => by cases hn) rfl (unfrozen0 _) ⟨rfl, rfl, rfl⟩ ?_ (by rw [hcs2]; exact h3) ?_ (by omega) ?_ (by omega)
          · have hnz : ¬ (len * i.size > 2 ^ 24) := by rw [← hcs, ← hsz]; omega
            have hpl : (parts.map fun (q : Nat × Operand) => (q.1, a.eval q.2)).toList = ((parts.toList.map fun p => a.eval p.2).zipIdx 0).map (fun p => (p.2, p.1)) := by rw [Array.toList_map]; exact h1
            have hisz : i.size = e.size := by omega
            simp only [Instr.buildSlice, Sem.run_bind, run_under k.w hu, Result.andThen_ok, run_sizeOf' k.w hi, hnz, if_false, Sem.run_pure]
            rw [hxl]
            by_cases hl0 : len * i.size = 0
            · simp only [hl0, if_true, Sem.run_pure, Result.andThen_ok]
              have hz0 : len = 0 := by
                rcases Nat.mul_eq_zero.1 hl0 with h | h
                · exact h
                · omega
              subst hz0
              have hp0 : parts.toList = [] := List.eq_nil_of_length_eq_zero (by omega)
              have hc0 : cs = #[] := by
                apply Array.eq_empty_of_size_eq_zero
                omega
              have hpm : (parts.map fun (q : Nat × Operand) => (q.1, a.eval q.2)).toList = [] := by rw [hpl, hp0]; rfl
              rw [hpm]
              simp [Instr.fill, newRow, hc0, Array.range_zero']
            · simp only [hl0, if_false, Sem.run_bind, run_zero k.w hi hz, Result.andThen_ok, Sem.run_pure]
              rw [hpl, hisz, h5]
              simp [newRow]
          · rw [hxl, ← hcsz]; exact part_all
          · simp only [MAXL]
            have : len ≤ len * e.size := Nat.le_mul_of_pos_right _ hpos
            omega
        · cases h

end Go.Ab
