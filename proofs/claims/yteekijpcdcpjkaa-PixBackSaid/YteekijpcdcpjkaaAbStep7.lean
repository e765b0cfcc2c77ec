/-
  ONE OPERATION IS RIGHT: stores and copies.
-/
import Derived.Test.YteekijpcdcpjkaaAbStep6
set_option linter.unusedVariables false
set_option linter.unusedSimpArgs false
namespace Go.Ab
open Go.RowKit (Below)

theorem Write.below {N : Nat} {k : Kx} {w' : World} {n : Nat} {b b' : Blk} (h : Write k w' n b b') (hk : HRel N k) (hm : Meta k.w w') (hN : N ≤ k.w.heap.size) : Below N k.w w' :=
  ⟨hm.os, hm.tape, hm.output, Nat.le_of_eq h.size.symm, fun B hB => h.same B fun he => by
    have := (hk.low B ⟨n, b, h.live, he⟩).1
    omega⟩

/-- A block written; other blocks may be frozen first. -/
theorem OK.write {E : Env} {N : Nat} {k : Kx} {fr : Fr} {tmps : Array Value} (hk : HRel N k) (hf : FRel k fr tmps) (hN : N ≤ k.w.heap.size) (fz : List Nat) {t : Bool} {c : AVal} {s : Sem Value} {v : Value} {w' : World} {n : Nat} {b b' : Blk}
    (hw : Write (frzKs k fz) w' n b b') (hr : s.run E.P k.w = .ok v w') (hb : Ext (frzKs k fz) (putK (frzKs k fz) w' n b') → BRel (putK (frzKs k fz) w' n b') n b')
    (hv : Ext (frzKs k fz) (putK (frzKs k fz) w' n b') → ARel (putK (frzKs k fz) w' n b') c v) (hm : Meta k.w w') :
    OK E N k fr tmps { test := t, v := c, frz := fz, acts := [.put n b'] } s := by
  obtain ⟨h1, h2, h3, h4, h5, h6⟩ := frzAll_rel fz k fr tmps hk hf
  have hx := hw.ext
  refine fun _ => ⟨v, putK (frzKs k fz) w' n b', hr, ?_, ?_, hw.hrel h1 (hb hx), hx.f h2, hv hx, ?_, (frzKs_ext fz k).trans hx, fun n hn => Or.inl (by rw [← frzKs_U fz k]; exact hn)⟩
  · simp only [putK, acts, act, h3]
  · simp only [putK, h5, Nat.add_zero]
  · have := hw.below h1 (by rw [h4]; exact hm) (by rw [h4]; exact hN)
    rw [h4] at this
    exact this

theorem write_row {k : Kx} {n : Nat} {b b' : Blk} {B : Nat} {row row' : Array Value} {T : TypeId} {fz : Nat × Nat} (hl : hget k.hp n = some b) (ha : Alike b b') (hB : (k.μ n).block = some B) (hrow : k.w.heap[B]? = some (.cells row T fz)) :
    Write k (k.w.setRow B row') n b b' where
  live := hl
  alike := ha
  size := by simp
  same := fun B' hB' => setRow_other k.w B B' _ (fun e => hB' (by rw [hB, e]))

theorem setRow_meta (w : World) (B : Nat) (row : Array Value) : Meta w (w.setRow B row) := ⟨rfl, rfl, rfl⟩

theorem rowPut_list (row : Array Value) (o : Nat) (us : List Value) : (rowPut row o us).toList = row.toList.take o ++ us ++ row.toList.drop (o + us.length) := by simp [rowPut]

/-- A part of a row behind a store within another part. -/
theorem rowPut_part {row : Array Value} {o n a : Nat} {us : List Value} (h : a + us.length ≤ n) (hs : o + n ≤ row.size) :
    part_ (rowPut row (o + a) us) o n = (part_ row o n).take a ++ us ++ (part_ row o n).drop (a + us.length) := by
  unfold part_
  rw [rowPut_list]
  apply List.ext_getElem?
  intro j
  simp only [List.getElem?_take, List.getElem?_drop, List.getElem?_append, List.length_append, List.length_take, List.length_drop, Array.length_toList]
  by_cases h1 : j < n
  · by_cases h2 : j < a
    · simp only [h1, if_true]
      repeat rw [if_pos (by omega)]
    · by_cases h3 : j < a + us.length
      · simp only [h1, if_true]
        rw [if_pos (by omega), if_neg (by omega), if_pos (by omega), if_neg (by omega)]
        congr 1
        omega
      · simp only [h1, if_true]
        rw [if_neg (by omega), if_neg (by omega), if_pos (by omega)]
        congr 1
        omega
  · rw [if_neg h1, if_neg (by omega), if_neg (by omega)]

theorem rowPut_part_other {row : Array Value} {o n p : Nat} {us : List Value} (h : p + us.length ≤ o ∨ o + n ≤ p) (hs : p + us.length ≤ row.size) : part_ (rowPut row p us) o n = part_ row o n := by
  unfold part_
  rw [rowPut_list]
  apply List.ext_getElem?
  intro j
  simp only [List.getElem?_take, List.getElem?_drop, List.getElem?_append, List.length_append, List.length_take, Array.length_toList]
  by_cases h1 : j < n
  · simp only [h1, if_true]
    rcases h with h | h
    · rw [if_neg (by omega)]
      congr 1
      omega
    · rw [if_pos (by omega), if_pos (by omega), if_pos (by omega)]
  · rw [if_neg h1, if_neg h1]

theorem store_sound {E : Env} (hE : EnvOK E) {N : Nat} {k : Kx} {fr : Fr} {tmps : Array Value} (hk : HRel N k) (hf : FRel k fr tmps) (hN : N ≤ k.w.heap.size) {t : TypeId} {c : Cell} {v : Value} {x : AVal} {u : Value} {out : Out}
    (hc : c ≠ .undef → CRel k c v) (hx : ARel k x u) (h : storeA E (hget k.hp) t c x = some out) (ht : out.test = true) :
    OK E N k fr tmps out (do Instr.storeAt t v u; pure undef) := by
  unfold storeA at h
  simp only at h
  split at h
  · rename_i hg
    simp only [Bool.and_eq_true, decide_eq_true_eq, beq_iff_eq] at hg
    obtain ⟨⟨hlen, hkn⟩, hd⟩ := hg
    obtain ⟨d, hd⟩ := Option.isSome_iff_exists.1 hd
    have hcs := hx.cells hkn
    have hul : u.cells.size = (cellsOf x).length := by rw [hcs.len]; simp
    have h1 := hcs.one
    have run : ∀ (B o : Nat) (row : Array Value) (T : TypeId) (fz : Nat × Nat), v = .pointer (some ⟨B, o, none⟩) → k.w.heap[B]? = some (.cells row T fz) → Unfrozen row fz → o + (cellsOf x).length ≤ row.size →
        (do Instr.storeAt t v u; pure undef : Sem Value).run E.P k.w = .ok undef (k.w.setRow B (rowPut row o u.cells.toList)) := by
      intro B o row T fz hv hrow hfz hs
      subst hv
      have := run_storeVar (P := E.P) k.w t d B o row T fz u hd hrow hfz (by omega) (by omega) h1
      simp only [Sem.run_bind, Instr.storeAt, Instr.sureAddr, Sem.run_pure, Result.andThen_ok, this]
    cases c with
    | ptr n off =>
      have hc := hc (by simp)
      simp only at h
      split at h
      · rename_i cs hcs'
        split at h
        · rename_i hoff
          simp only [Option.some.injEq] at h
          subst h
          obtain ⟨B, hμ, hv⟩ := hc.2 cs hcs'
          obtain ⟨B', row, T, fz, hμ', hrow, hfz, hcr⟩ := hk.blk n _ hcs'
          rw [hμ] at hμ'
          cases hμ'
          have hrl : cs.length = row.size := by rw [hcr.len]; simp
          have hw : Write k (k.w.setRow B (rowPut row off u.cells.toList)) n (.var cs) (.var (splice cs off (cellsOf x))) := write_row hcs' trivial (by rw [hμ]; rfl) hrow
          refine OK.write hk hf hN [] hw (run B off row T fz hv hrow hfz (by omega)) (fun hx' => ?_) (fun _ => Or.inl rfl) (setRow_meta _ _ _)
          refine ⟨B, rowPut row off u.cells.toList, T, fz, hμ, setRow_heap k.w B row _ T _ hrow, ?_, ?_⟩
          · intro j hj
            rw [rowPut_size (by simp; omega)] at hj
            exact hfz j hj
          · rw [rowPut_list]
            have := (hx'.cs hcr).splice (hx'.cs hcs) off
            simpa using this
        · cases h
      · cases h
    | eptr n e i off =>
      have hc := hc (by simp)
      simp only at h
      cases hxs : arrAs e (hget k.hp n) with
      | none => rw [hxs] at h; cases h
      | some xs =>
        rw [hxs] at h
        simp only at h
        cases hp : parseAll (hget k.hp) e (splice (flat e (getI e.dflt xs i)) off (cellsOf x)) with
        | none => rw [hp] at h; cases h
        | some y =>
          rw [hp] at h
          simp only at h
          split at h
          · rename_i hg
            simp only [Bool.and_eq_true, decide_eq_true_eq, Bool.not_eq_true', List.contains_eq_mem] at hg
            obtain ⟨hoff, hself⟩ := hg
            simp only [Option.some.injEq] at h
            subst h
            have hb := arrAs_eq hxs
            have hi : 0 ≤ i ∧ i < (xs.length : Int) := inR_iff.1 ht
            have hlt : i.toNat < xs.length := by omega
            obtain ⟨B, o, cap, hμ, hv⟩ := hc.2 xs hb hi
            have hbr := hk.blk n _ hb
            unfold BRel at hbr
            rw [hμ] at hbr
            obtain ⟨row, T, fz, hrow, hfz, hcap, hcapm, hsz, hel⟩ := hbr
            -- what is stored, as data
            have hold := hel _ hlt
            rw [← getI_eq e.dflt xs i hlt] at hold
            have hcells : CRels k (splice (flat e (getI e.dflt xs i)) off (cellsOf x)) ((part_ row (o + i.toNat * e.size) e.size).take off ++ u.cells.toList ++ (part_ row (o + i.toNat * e.size) e.size).drop (off + u.cells.toList.length)) :=
              ((flat_rel e _ _).1 hold).splice hcs off
            have hown : ∀ c ∈ splice (flat e (getI e.dflt xs i)) off (cellsOf x), ∀ m ∈ ownOf c, m ∈ owns (cellsOf x) := by
              intro c hc' m hm
              have flatNo : ∀ c ∈ flat e (getI e.dflt xs i), ownOf c = [] := flat_own e _
              unfold splice at hc'
              rcases List.mem_append.1 hc' with hc' | hc'
              · rcases List.mem_append.1 hc' with hc' | hc'
                · rw [flatNo c (List.mem_of_mem_take hc')] at hm; cases hm
                · exact owns_mem hc' hm
              · rw [flatNo c (List.mem_of_mem_drop hc')] at hm; cases hm
            have hnew : VRel k.w (frzKs k (owns (cellsOf x))).O e y _ := parseAll_sound hk (fun B hB => (frzKs_O _ k B hk hB).1) hcells hp (clear_frz hk _ _ hown)
            obtain ⟨g1, g2, g3, g4, g5, g6⟩ := frzAll_rel (owns (cellsOf x)) k fr tmps hk hf
            have hb' : hget (frzKs k (owns (cellsOf x))).hp n = some (.arr e xs) := frzKs_keep _ k n e xs hb (by simpa using hself)
            have hbound : (i.toNat + 1) * e.size ≤ cap * e.size := Nat.mul_le_mul_right _ (by omega)
            rw [Nat.add_mul] at hbound
            have hul' : u.cells.toList.length = (cellsOf x).length := by simpa using hul
            have hw : Write (frzKs k (owns (cellsOf x))) (k.w.setRow B (rowPut row (o + i.toNat * e.size + off) u.cells.toList)) n (.arr e xs) (.arr e (xs.set i.toNat y)) := by
              have := write_row (k := frzKs k (owns (cellsOf x))) (b' := .arr e (xs.set i.toNat y)) (row' := rowPut row (o + i.toNat * e.size + off) u.cells.toList) (T := T) (fz := fz) (row := row) hb' ⟨rfl, by simp⟩ (B := B) (by rw [g6, hμ]; rfl) (by rw [g4]; exact hrow)
              rw [g4] at this
              exact this
            refine OK.write hk hf hN (owns (cellsOf x)) hw (run B _ row T fz hv hrow hfz (by omega)) (fun hx' => ?_) (fun _ => Or.inl rfl) (setRow_meta _ _ _)
            unfold BRel
            have hμ' : (putK (frzKs k (owns (cellsOf x))) (k.w.setRow B (rowPut row (o + i.toNat * e.size + off) u.cells.toList)) n (.arr e (xs.set i.toNat y))).μ n = .at_ B o cap := by
              show (frzKs k (owns (cellsOf x))).μ n = _
              rw [g6, hμ]
            rw [hμ']
            refine ⟨rowPut row (o + i.toNat * e.size + off) u.cells.toList, T, fz, setRow_heap k.w B row _ T _ hrow, ?_, by simpa using hcap, hcapm, by rw [rowPut_size (by omega)]; exact hsz, fun j hj => ?_⟩
            · intro j hj
              rw [rowPut_size (by omega)] at hj
              exact hfz j hj
            · simp only [List.length_set] at hj
              have hj' : (j + 1) * e.size ≤ cap * e.size := Nat.mul_le_mul_right _ (by omega)
              rw [Nat.add_mul] at hj'
              by_cases hji : j = i.toNat
              · subst hji
                simp only [List.getElem_set_self]
                rw [rowPut_part (by omega) (by omega)]
                rw [← g4] at hnew
                exact hx'.v hnew
              · rw [List.getElem_set_ne (by omega)]
                have hapart : (o + i.toNat * e.size + off) + u.cells.toList.length ≤ o + j * e.size ∨ o + j * e.size + e.size ≤ o + i.toNat * e.size + off := by
                  rcases Nat.lt_or_gt_of_ne hji with h | h
                  · right
                    have : (j + 1) * e.size ≤ i.toNat * e.size := Nat.mul_le_mul_right _ h
                    rw [Nat.add_mul] at this
                    omega
                  · left
                    have : (i.toNat + 1) * e.size ≤ j * e.size := Nat.mul_le_mul_right _ h
                    rw [Nat.add_mul] at this
                    omega
                rw [rowPut_part_other hapart (by omega)]
                have h2 := (frzKs_ext (owns (cellsOf x)) k).v (hel j hj)
                exact hx'.v h2
          · cases h
    | _ => simp at h
  · cases h

end Go.Ab
