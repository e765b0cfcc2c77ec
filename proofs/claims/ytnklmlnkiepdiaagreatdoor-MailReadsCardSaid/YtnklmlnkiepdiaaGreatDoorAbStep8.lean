/-
  ONE OPERATION IS RIGHT: append and copy.
-/
import Derived.Test.YtnklmlnkiepdiaaGreatDoorAbMaps
import Derived.Laws.Tables
import Derived.Laws.IdiomStrings
import Derived.Laws.BytesArg
import Derived.Laws.StructEq
set_option linter.unusedVariables false
set_option linter.unusedSectionVars false
set_option linter.unusedSimpArgs false
namespace Go.Ab
variable [Tabs]
open Go.RowKit (Below)

theorem ERel.take {w : World} {O : Nat → Prop} {e : Ty} {ys : List e.den} {us : List Value} (h : ERel w O e ys us) (m : Nat) (hm : m ≤ ys.length) : ERel w O e (ys.take m) (us.take (m * e.size)) := by
  have hb : m * e.size ≤ ys.length * e.size := Nat.mul_le_mul_right _ hm
  refine ⟨by rw [List.length_take, List.length_take, h.1, Nat.min_eq_left hb, Nat.min_eq_left hm], fun i hi => ?_⟩
  have hi' : i < m := by rw [List.length_take] at hi; omega
  have h1 := h.2 i (by omega)
  have hb2 : (i + 1) * e.size ≤ m * e.size := Nat.mul_le_mul_right _ (by omega)
  rw [Nat.add_mul] at hb2
  have e1 : (ys.take m)[i] = ys[i]'(by omega) := by simp
  rw [e1, List.drop_take, List.take_take, Nat.min_eq_left (by omega)]
  exact h1

/-- A slice that is read, as a run of elements, from its head on. -/
theorem slice_first {w : World} {O : Nat → Prop} {e : Ty} {ys : List e.den} {a : Option Addr} {n c : Nat} (h : VRel w O (.slice e) ys [.slice a n c]) :
    n = ys.length ∧ ∀ m, m ≤ n → ∃ us, ERel w O e (ys.take m) us ∧ ∀ (P : Program) (w' : World), w'.heap = w.heap → ((Builtin.firstCells e.size m (.slice a n c)).run P w' = .ok us.toArray w') := by
  obtain ⟨a', cap, e1, h1, h2, h3⟩ := h
  simp only [List.cons.injEq, Value.slice.injEq, and_true] at e1
  obtain ⟨ea, en, ec⟩ := e1
  subst ea; subst en; subst ec
  refine ⟨rfl, fun m hm => ?_⟩
  by_cases hx : ys = []
  · subst hx
    have hm : m = 0 := by simpa using hm
    subst hm
    refine ⟨[], ERel.nil _ _ _, fun P w' _ => ?_⟩
    cases a <;> simp [Builtin.firstCells, loadCells, loadCellsFrom]
  · obtain ⟨B, o, row, T, fz, e2, hO, hrow, hs, hv⟩ := h3 hx
    subst e2
    have hb : m * e.size ≤ ys.length * e.size := Nat.mul_le_mul_right _ hm
    refine ⟨part_ row o (m * e.size), ?_, fun P w' hw => ?_⟩
    · have := row_elems (cap := ys.length) (Nat.le_refl _) hs hv (lo := 0) (len := m) (by omega)
      simpa using this
    · simp only [Builtin.firstCells]
      exact run_cells_row w' B o _ row T fz (by rw [hw]; exact hrow) (by omega)

/-- The same of a block of the call's own. -/
theorem own_first {k : Kx} {n : Nat} {e : Ty} {xs : List e.den} {lo len : Nat} {v : Value} (hb : BRel k n (.arr e xs)) (hv : Hdr (k.μ n) e lo len v) (hle : lo + len ≤ xs.length) :
    ∃ a c, v = .slice a len c ∧ ∀ m, m ≤ len → ∃ us, ERel k.w k.O e (((xs.drop lo).take len).take m) us ∧ ∀ (P : Program) (w' : World), w'.heap = k.w.heap → ((Builtin.firstCells e.size m v).run P w' = .ok us.toArray w') := by
  have zero : ∀ (m : Nat) (a : Option Addr) (len c : Nat), m = 0 → ∃ us, ERel k.w k.O e (((xs.drop lo).take len).take m) us ∧ ∀ (P : Program) (w' : World), w'.heap = k.w.heap → ((Builtin.firstCells e.size m (.slice a len c)).run P w' = .ok us.toArray w') := by
    intro m a len c hm
    subst hm
    refine ⟨[], by simpa using ERel.nil _ _ _, fun P w' _ => ?_⟩
    cases a <;> simp [Builtin.firstCells, loadCells, loadCellsFrom]
  unfold BRel at hb
  cases hm : k.μ n with
  | none =>
    rw [hm] at hv hb
    obtain ⟨a, e1, e2, _⟩ := hv
    subst e2
    refine ⟨a, 0, e1, fun m hm => ?_⟩
    rw [e1]
    exact zero m a 0 0 (by omega)
  | at_ B o cap =>
    rw [hm] at hv hb
    obtain ⟨a, c, e1, h1, h2, h3⟩ := hv
    obtain ⟨row, E, fz, hrow, hfz, h4, h5, h6, h7⟩ := hb
    refine ⟨a, c, e1, fun m hm => ?_⟩
    rw [e1]
    by_cases hm0 : m = 0
    · exact zero m a len c hm0
    · have ha : a = some ⟨B, o + lo * e.size, none⟩ := by
        rcases h3 with h | h
        · exact h
        · omega
      have := (row_elems h4 h6 h7 (lo := lo) (len := len) hle).take m (by simp; omega)
      have hb1 : m * e.size ≤ len * e.size := Nat.mul_le_mul_right _ hm
      have hb2 : (lo + len) * e.size ≤ cap * e.size := Nat.mul_le_mul_right _ (by omega)
      rw [Nat.add_mul] at hb2
      refine ⟨_, this, fun P w' hw => ?_⟩
      have e2 : (part_ row (o + lo * e.size) (len * e.size)).take (m * e.size) = part_ row (o + lo * e.size) (m * e.size) := by
        simp only [part_, List.take_take]
        rw [Nat.min_eq_left hb1]
      rw [e2, ha]
      simp only [Builtin.firstCells]
      exact run_cells_row w' B _ _ row _ fz (by rw [hw]; exact hrow) (by omega)

/-- What can be appended or copied from. -/
structure Src (k : Kx) (e : Ty) (ys : List e.den) (v : Value) : Prop where
  len : ∀ (P : Program) (w : World), (Builtin.lenOf v).run P w = .ok ys.length w
  first : ∀ m, m ≤ ys.length → ∃ us, ERel k.w k.O e (ys.take m) us ∧ ∀ (P : Program) (w' : World), w'.heap = k.w.heap → ((Builtin.firstCells e.size m v).run P w' = .ok us.toArray w')

theorem src_text (k : Kx) (s : ByteArray) : Src k (.int .u8) (bytesOf s) (.string s) := by
  have hlen : (bytesOf s).length = s.size := by simp [bytesOf]
  refine ⟨fun P w => by simp [Builtin.lenOf, hlen], fun m hm => ?_⟩
  refine ⟨((bytesOf s).take m).map (.int .u8 ·), ⟨by simp [Ty.size], fun i hi => ?_⟩, fun P w' _ => ?_⟩
  · have hi2 := hi
    simp only [List.length_take] at hi2
    simp only [Ty.size, Nat.mul_one]
    have hb : (((bytesOf s).take m)[i]'hi : Int) = (s.data.toList[i]'(by rw [hlen] at hi2; simp; omega)).toNat := by simp [bytesOf]
    refine ⟨?_, ?_⟩
    · rw [List.drop_eq_getElem_cons (by simpa using hi)]
      simp
    · rw [hb]; exact wrap_u8 _
  · simp only [Builtin.firstCells, Sem.run_pure]
    congr 1
    apply Array.ext'
    simp [bytesOf, ByteArray.data_extract]
    rfl

theorem val_src {k : Kx} {e : Ty} {ys : List e.den} {v : Value} (h : VRel k.w k.O (.slice e) ys [v]) : Src k e ys v := by
  obtain ⟨a, c, e1, h1, h2, h3⟩ := h
  simp only [List.cons.injEq, and_true] at e1
  subst e1
  have h' : VRel k.w k.O (.slice e) ys [.slice a ys.length c] := ⟨a, c, rfl, h1, h2, h3⟩
  exact ⟨fun P w => rfl, (slice_first h').2⟩

theorem own_src {k : Kx} {n : Nat} {e : Ty} {xs : List e.den} {lo len : Nat} {v : Value} (hb : BRel k n (.arr e xs)) (hv : Hdr (k.μ n) e lo len v) (hle : lo + len ≤ xs.length) : Src k e ((xs.drop lo).take len) v := by
  obtain ⟨a, c, e1, h1⟩ := own_first hb hv hle
  have hl : ((xs.drop lo).take len).length = len := by simp; omega
  refine ⟨fun P w => by rw [e1, hl]; rfl, ?_⟩
  rw [hl]; exact h1

theorem src_sound {N : Nat} {k : Kx} (hk : HRel N k) {e : Ty} {y : Cell} {v : Value} {ys : List e.den} (hc : y ≠ .undef → CRel k y v) (h : srcAs (hget k.hp) e y = some ys) : Src k e ys v := by
  have nil : ∀ v : Value, v = .slice none 0 0 → Src k e [] v := by
    intro v hv
    subst hv
    refine ⟨fun P w => rfl, fun m hm => ?_⟩
    have hm : m = 0 := by simpa using hm
    subst hm
    exact ⟨[], ERel.nil _ _ _, fun P w' _ => by simp [Builtin.firstCells]⟩
  have main : y ≠ .undef → cellAs (hget k.hp) (.slice e) y = some ys → Src k e ys v := by
    intro hne h
    have hc := hc hne
    cases y with
    | val t x =>
      simp only [cellAs] at h
      obtain ⟨e1, rfl⟩ := asTy_eq h
      subst e1
      exact val_src hc
    | nilS =>
      simp only [cellAs, Option.some.injEq] at h
      subst h
      exact nil v hc
    | own n e' =>
      simp only [cellAs] at h
      split at h
      · rename_i he
        subst he
        have hb := arrAs_eq h
        have := own_src (hk.blk n _ hb) (hc.2 ys hb) (by simp)
        simpa using this
      · cases h
    | sub n e' lo hi =>
      simp only [cellAs] at h
      split at h
      · rename_i he
        subst he
        cases hx : arrAs e' (hget k.hp n) with
        | none => rw [hx] at h; cases h
        | some xs =>
          rw [hx] at h
          simp only [Option.map_some, Option.some.injEq] at h
          subst h
          have hb := arrAs_eq hx
          obtain ⟨h0, h1, h2, h3⟩ := hc.2 xs hb
          exact own_src (hk.blk n _ hb) h3 (by omega)
      · cases h
    | clp n e' lo hi =>
      simp only [cellAs] at h
      split at h
      · rename_i he
        subst he
        cases hx : arrAs e' (hget k.hp n) with
        | none => rw [hx] at h; cases h
        | some xs =>
          rw [hx] at h
          simp only [Option.map_some, Option.some.injEq] at h
          subst h
          have hb := arrAs_eq hx
          obtain ⟨h0, h1, h2, _, h3⟩ := hc.2 xs hb
          exact own_src (hk.blk n _ hb) h3 (by omega)
      · cases h
    | clip e' xs =>
      simp only [cellAs] at h
      split at h
      · rename_i he
        subst he
        simp only [Option.some.injEq] at h
        subst h
        obtain ⟨a, _, hv⟩ := hc
        exact val_src hv
      · cases h
    | nq b e' xs =>
      simp only [cellAs] at h
      split at h
      · rename_i he
        subst he
        simp only [Option.some.injEq] at h
        subst h
        exact val_src hc.1
      · cases h
    | _ => simp [cellAs] at h
  cases y with
  | undef => simp [srcAs, cellAs] at h
  | val t x =>
    cases t with
    | str =>
      simp only [srcAs] at h
      obtain ⟨e1, rfl⟩ := asTy_eq h
      simp only [Ty.slice.injEq] at e1
      subst e1
      obtain ⟨ba, e2, e3, _⟩ := hc (by simp)
      simp only [List.cons.injEq, and_true] at e2
      subst e2
      have e3 : x = bytesOf ba := e3
      subst e3
      exact src_text k ba
    | _ => exact main (by simp) h
  | _ => exact main (by simp) h

/-! ### append -/
theorem seqT_spec {P : Program} {u : TypeId} (h : seqT P u = true) : (∃ d, P.underlying u = some (.slice d)) ∨ P.underlying u = some .string := by
  unfold seqT at h
  split at h
  · rename_i x hx; exact Or.inl ⟨_, hx⟩
  · rename_i hx; exact Or.inr hx
  · cases h

/-- With room in the row. -/
theorem run_append_fit {P : Program} {w : World} {t u ty el : TypeId} {i : TypeInfo} (ht : P.underlying t = some (.slice el)) (hu : seqT P u = true) (hi : P.info? el = some i)
    {base : Option Addr} {sLen sCap n : Nat} {y : Value} {news : List Value} (hn : (Builtin.lenOf y).run P w = .ok n w) (hf : (Builtin.firstCells i.size n y).run P w = .ok news.toArray w) (hfit : sLen + n ≤ sCap) {w' : World}
    (hst : (match base with | some a => storeCells (a.add (sLen * i.size)) news | none => pure ()).run P w = .ok () w') {ats : Array TypeId} (h0 : ats[0]? = some t) (h1 : ats[1]? = some u) :
    (Builtin.append_ ats ty #[.slice base sLen sCap, y]).run P w = .ok (.slice base (sLen + n) sCap) w' := by
  cases base with
  | none =>
    simp only [Sem.run_pure, Result.ok.injEq, true_and] at hst
    subst hst
    rcases seqT_spec hu with ⟨d, hd⟩ | hd <;> simp [Builtin.append_, h0, h1, run_underlying ht, run_underlying hd, sizeOf, typeInfo, hi, hn, hfit, hf]
  | some a =>
    simp only at hst
    rcases seqT_spec hu with ⟨d, hd⟩ | hd <;> simp [Builtin.append_, h0, h1, run_underlying ht, run_underlying hd, sizeOf, typeInfo, hi, hn, hfit, hf, hst]

/-- Without. -/
theorem run_append_new {P : Program} {w : World} {t u ty el : TypeId} {i : TypeInfo} {z : Value} (ht : P.underlying t = some (.slice el)) (hu : seqT P u = true) (hi : P.info? el = some i) (hz : i.zero = some z)
    {base : Option Addr} {sLen sCap n : Nat} {y : Value} {olds news : List Value} (hn : (Builtin.lenOf y).run P w = .ok n w) (hf : ∀ w', w'.heap = w.heap → (Builtin.firstCells i.size n y).run P w' = .ok news.toArray w')
    (ho : ∀ w', w'.heap = w.heap → (Builtin.firstCells i.size sLen (.slice base sLen sCap)).run P w' = .ok olds.toArray w') (hg : sCap < sLen + n) (hroom : (sLen + n) * i.bytes ≤ 140737488355328) (hmax : sLen + n ≤ 140737488355328)
    {ats : Array TypeId} (h0 : ats[0]? = some t) (h1 : ats[1]? = some u) :
    (Builtin.append_ ats ty #[.slice base sLen sCap, y]).run P w = .ok (.slice (some ⟨w.heap.size, 0, none⟩) (sLen + n) (grownCap w (sLen + n) sCap el))
      (w.drew.alloc (.cells ((olds ++ news).toArray ++ Builtin.zeroCells z.cells (grownCap w (sLen + n) sCap el - (sLen + n))) el)) := by
  have hn' : ¬ (sLen + n ≤ sCap) := by omega
  have h63' : ¬ (9223372036854775807 < ((sLen : Int) + (n : Int))) := by omega
  have h48 := growslice_fits hg hroom
  have h48' : ¬ (281474976710656 < Builtin.nextslicecap (sLen + n) sCap * i.bytes) := by omega
  rcases seqT_spec hu with ⟨d, hd⟩ | hd <;> simp [Builtin.append_, h0, h1, run_underlying ht, run_underlying hd, sizeOf, typeInfo, zeroValue, hi, hz, hn, hn', h63', h48', Question.forced, hf w.drew rfl, ho w.drew rfl, newRow, grownCap]
  all_goals
    congr 2
    apply Array.ext'
    simp [List.append_assoc]

/-- append(nil, make([]T, n)...): a new row of zeros. -/
theorem run_append_zeros {P : Program} {w : World} {t u ty el : TypeId} {i : TypeInfo} {z : Value} (ht : P.underlying t = some (.slice el)) (hu : P.underlying u = some (.int .i64)) (hi : P.info? el = some i) (hz : i.zero = some z)
    {n : Nat} (hn : 0 < n) (hsz : 0 < i.size) (hroom : n * i.bytes ≤ 140737488355328) (hmax : n ≤ 140737488355328) {ats : Array TypeId} (h0 : ats[0]? = some t) (h1 : ats[1]? = some u) :
    (Builtin.append_ ats ty #[.slice none 0 0, .int .i64 (n : Int)]).run P w = .ok (.slice (some ⟨w.heap.size, 0, none⟩) n (grownCap w n 0 el))
      (w.drew.alloc (.cells (Builtin.zeroCells z.cells n ++ Builtin.zeroCells z.cells (grownCap w n 0 el - n)) el)) := by
  have hw : IntKind.i64.wrap (n : Int) = (n : Int) := by
    simp [IntKind.wrap, IntKind.bits, IntKind.signed]
    omega
  have h63' : ¬ (9223372036854775807 < (n : Int)) := by omega
  have h48 := growslice_fits (old := 0) hn hroom
  have h48' : ¬ (281474976710656 < Builtin.nextslicecap n 0 * i.bytes) := by omega
  have hb : ¬ ((281474976710656 : Int) < (n : Int) * (i.bytes : Int)) := by
    rw [← Int.natCast_mul]
    omega
  have hns : ¬ (n * i.size = 0) := by
    intro e
    rcases Nat.mul_eq_zero.1 e with e | e <;> omega
  have hn0 : ¬ (n = 0) := by omega
  have hs0 : ¬ (i.size = 0) := by omega
  have hneg : ¬ ((n : Int) < 0) := by omega
  simp [Builtin.append_, h0, h1, run_underlying ht, run_underlying hu, sizeOf, typeInfo, zeroValue, hi, hz, asInt, asIntOf, hw, hb, hns, hn0, hs0, hneg, h63', h48', Question.forced, Builtin.firstCells, newRow, grownCap]

theorem grow_sound {E : Env} (hE : EnvOK E) {N : Nat} {k : Kx} {fr : Fr} {tmps : Array Value} (hk : HRel N k) (hf : FRel k fr tmps) (hN : N ≤ k.w.heap.size) {t u ty : TypeId} {x y : Cell} {v v2 : Value} {ats : Array TypeId} {out : Out}
    (h0 : ats[0]? = some t) (h1 : ats[1]? = some u) (hu : i64T E.P u = true) (hx : x ≠ .undef → CRel k x v) (hy : y ≠ .undef → CRel k y v2) (h : growA E k.nx t x y = some out) (ht : out.test = true) :
    OK E N k fr tmps out (Builtin.append_ ats ty #[v, v2]) := by
  unfold growA at h
  cases hse : sliceElem E.P t with
  | none => rw [hse] at h; cases h
  | some el =>
    rw [hse] at h
    simp only at h
    have htu : E.P.underlying t = some (.slice el) := by
      unfold sliceElem at hse
      split at hse
      · simp at hse; subst hse; assumption
      · cases hse
    have huu : E.P.underlying u = some (.int .i64) := by
      unfold i64T at hu
      split at hu
      · assumption
      · cases hu
    split at h
    · rename_i e n hty
      split at h
      · rename_i hpos
        simp only [Option.some.injEq] at h
        subst h
        simp only [Bool.and_eq_true, decide_eq_true_eq, roomFor_iff] at ht
        obtain ⟨hn, h2, h3⟩ := ht
        have hn : (0 : Int) < n := hn
        have hv : v = .slice none 0 0 := hx (by simp)
        have hv2 : VRel k.w k.O (.int .i64) n [v2] := hy (by simp)
        have hv2 : v2 = .int .i64 n := by
          have := hv2.1
          simpa using this
        subst hv; subst hv2
        obtain ⟨i, z, hi, hz, hzc, hsz, _, htag⟩ := hE el e hty
        have hb := bytesOf_info hi
        have hzs : z.cells.size = e.size := by rw [← Array.length_toList, hzc, ← zeros_len, (zeros_rel k e).len]
        obtain ⟨q, hq⟩ := Int.eq_ofNat_of_zero_le (show (0 : Int) ≤ n by omega)
        have hq : n = (q : Int) := hq
        subst hq
        simp only [Int.toNat_natCast] at h2 h3 ⊢
        have hn : (0 : Int) < (q : Int) := hn
        rw [hb] at h2
        have hr := run_append_zeros (w := k.w) (ty := ty) htu huu hi hz (n := q) (by omega) (by rw [← hsz]; exact hpos) h2 h3 h0 h1
        have hge := grownCap_ge k.w q 0 el
        have hle := grownCap_le_maxLen k.w q 0 el (by simp only [maxLen]; omega)
        have hrow : ∀ j, j < q → part_ (Builtin.zeroCells z.cells q ++ Builtin.zeroCells z.cells (grownCap k.w q 0 el - q)) (j * e.size) e.size = z.cells.toList := by
          intro j hj
          have hj' : (j + 1) * e.size ≤ q * e.size := Nat.mul_le_mul_right _ (by omega)
          rw [Nat.add_mul] at hj'
          have e1 := made_part (z := z.cells) (c := q) (i := j) hj (by omega)
          rw [hzs] at e1
          rw [← e1]
          have hsz1 : (Builtin.zeroCells z.cells q).toList.length = q * e.size := by rw [Array.length_toList, size_zeroCells, hzs]
          have e2 : madeCells z.cells (q * e.size) = Builtin.zeroCells z.cells q := by rw [← hzs]; rfl
          rw [e2]
          simp only [part_, Array.toList_append]
          rw [List.drop_append_of_le_length (by omega), List.take_append_of_le_length (by rw [List.length_drop]; omega)]
        refine OK.newArr (fz := []) (rm := none) (us := part_ (Builtin.zeroCells z.cells q ++ Builtin.zeroCells z.cells (grownCap k.w q 0 el - q)) 0 (q * e.size)) (T := el) (row := Builtin.zeroCells z.cells q ++ Builtin.zeroCells z.cells (grownCap k.w q 0 el - q)) (fro := (0, 0)) (cap := grownCap k.w q 0 el) hk hf hN (fun n hn => by cases hn)
          (w' := k.w.drew.alloc (.cells (Builtin.zeroCells z.cells q ++ Builtin.zeroCells z.cells (grownCap k.w q 0 el - q)) el)) rfl (unfrozen0 _) ⟨rfl, rfl, rfl⟩ ?_ ?_ ?_ ?_ ?_ ?_ htag
        · rw [List.length_replicate]; exact hr
        · refine ⟨?_, fun j hj => ?_⟩
          · rw [part_len]
            · simp
            · rw [Array.size_append, size_zeroCells, size_zeroCells, hzs, Nat.zero_add]; omega
          · simp only [List.length_replicate] at hj
            have hj' : (j + 1) * e.size ≤ q * e.size := Nat.mul_le_mul_right _ (by omega)
            rw [Nat.add_mul] at hj'
            rw [part_part (by omega), Nat.zero_add, hrow j hj, hzc]
            simpa using dflt_rel k.w _ e
        · simp
        · rw [List.length_replicate]; exact hge
        · simp only [maxLen] at hle; simp only [MAXL]; omega
        · rw [Array.size_append, size_zeroCells, size_zeroCells, hzs, ← Nat.add_mul]
          exact Nat.mul_le_mul_right _ (by omega)
      · cases h
    · cases h

theorem append_sound {E : Env} (hE : EnvOK E) {N : Nat} {k : Kx} {fr : Fr} {tmps : Array Value} (hk : HRel N k) (hf : FRel k fr tmps) (hN : N ≤ k.w.heap.size) {t u ty : TypeId} {x y : Cell} {v v2 : Value} {ats : Array TypeId} {out : Out}
    (h0 : ats[0]? = some t) (h1 : ats[1]? = some u) (hu : seqT E.P u = true) (hx : x ≠ .undef → CRel k x v) (hy : y ≠ .undef → CRel k y v2) (h : appendA E (hget k.hp) k.nx t x y = some out) (htest : out.test = true) :
    OK E N k fr tmps out (Builtin.append_ ats ty #[v, v2]) := by
  unfold appendA at h
  cases hse : sliceElem E.P t with
  | none => rw [hse] at h; cases h
  | some el =>
    rw [hse] at h
    simp only at h
    have ht : E.P.underlying t = some (.slice el) := by
      unfold sliceElem at hse
      split at hse
      · simp at hse; subst hse; assumption
      · cases hse
    cases hty : E.ty el with
    | none => rw [hty] at h; cases h
    | some e =>
      rw [hty] at h
      simp only at h
      cases hsrc : srcAs (hget k.hp) e y with
      | none => rw [hsrc] at h; cases h
      | some ys =>
        rw [hsrc] at h
        simp only at h
        have hs := src_sound hk hy hsrc
        obtain ⟨i, z, hi, hz, hzc, hsz, _, htag⟩ := hE el e hty
        have hb := bytesOf_info hi
        have hzs : z.cells.size = e.size := by rw [← Array.length_toList, hzc, ← zeros_len, (zeros_rel k e).len]
        obtain ⟨us, hus, hrun⟩ := hs.first ys.length (Nat.le_refl _)
        rw [List.take_length] at hus
        -- a new row
        have grow : ∀ (base : Option Addr) (xs : List e.den) (sCap : Nat) (olds : List Value) (rm : Option Nat), v = .slice base xs.length sCap → ERel k.w k.O e xs olds →
            (∀ w', w'.heap = k.w.heap → (Builtin.firstCells e.size xs.length v).run E.P w' = .ok olds.toArray w') → sCap < xs.length + ys.length → roomFor (xs.length + ys.length) (E.P.bytesOf el) = true →
            (∀ n, rm = some n → ∃ b, hget k.hp n = some b) → ∀ b : Bool,
            OK E N k fr tmps { test := b, v := .one (.own k.nx e), acts := rmActs rm ++ [.put k.nx (.arr e (xs ++ ys))], made := 1 } (Builtin.append_ ats ty #[v, v2]) := by
          intro base xs sCap olds rm hv hxs hold hgt hroom hrm b
          subst hv
          rw [roomFor_iff, hb] at hroom
          rw [hsz] at hold hrun
          have hr := run_append_new (w := k.w) (ty := ty) ht hu hi hz (hs.len E.P k.w) (fun w' hw => hrun E.P w' hw) hold hgt hroom.1 hroom.2 h0 h1
          have hge := grownCap_ge k.w (xs.length + ys.length) sCap el
          have hle := grownCap_le_maxLen k.w (xs.length + ys.length) sCap el (by simp only [maxLen]; omega)
          have hers := hxs.append hus
          have hlen := hers.1
          refine OK.newArr (fz := []) (rm := rm) (us := olds ++ us) (T := el) (row := (olds ++ us).toArray ++ Builtin.zeroCells z.cells (grownCap k.w (xs.length + ys.length) sCap el - (xs.length + ys.length))) (w' := k.w.drew.alloc (.cells ((olds ++ us).toArray ++ Builtin.zeroCells z.cells (grownCap k.w (xs.length + ys.length) sCap el - (xs.length + ys.length))) el)) (fro := (0, 0)) (cap := grownCap k.w (xs.length + ys.length) sCap el) hk hf hN hrm rfl (unfrozen0 _) ⟨rfl, rfl, rfl⟩ (by rw [List.length_append]; exact hr) hers ?_ (by rw [List.length_append]; exact hge) (by simp only [maxLen] at hle; simp only [MAXL]; omega) ?_ htag
          · rw [← hlen]
            simp only [part_, List.drop_zero, Array.toList_append]
            exact List.take_left
          · rw [Array.size_append, size_zeroCells, hzs, List.size_toArray, hlen, ← Nat.add_mul, List.length_append]
            exact Nat.mul_le_mul_right _ (by omega)
        -- nothing to nothing
        have none_ : ∀ (base : Option Addr) (rm : Option Nat), PB .none base → v = .slice base 0 0 → ys = [] → (∀ n, rm = some n → ∃ b, hget k.hp n = some b) → ∀ b : Bool,
            OK E N k fr tmps { test := b, v := .one (.own k.nx e), acts := rmActs rm ++ [.put k.nx (.arr e [])], made := 1 } (Builtin.append_ ats ty #[v, v2]) := by
          intro base rm hpa hv hys hrm b
          subst hv; subst hys
          rw [hsz] at hrun
          have hus0 : us = [] := List.eq_nil_of_length_eq_zero (by simpa using hus.1)
          subst hus0
          have hr := run_append_fit (w := k.w) (ty := ty) (base := base) (sLen := 0) (sCap := 0) ht hu hi (hs.len E.P k.w) (hrun E.P k.w rfl) (by simp) (w' := k.w) (by cases base <;> simp [storeCells]) h0 h1
          refine OK.new0 (rm := rm) (l := .none) (w' := k.w) hk hf ⟨hN, Nat.le_refl _, fun _ _ _ => rfl, hrm, fun B hB => by cases hB⟩ hr (fun _ => ?_) (fun _ => ?_) ⟨rfl, rfl, rfl⟩
          · unfold BRel
            rw [show (newK k k.w rm Loc.none (.arr e [])).μ k.nx = .none from upd_same _ _ _]
          · refine ⟨⟨Or.inr rfl, rfl⟩, fun xs hxs => ?_⟩
            rw [show (newK k k.w rm Loc.none (.arr e [])).μ k.nx = .none from upd_same _ _ _]
            simp only [newK, hget_hput, if_true, Option.some.injEq, Blk.arr.injEq] at hxs
            have := eq_of_heq hxs.2
            subst this
            exact ⟨base, by simp, rfl, hpa⟩
        -- a block of the call's own
        have own : ∀ (n : Nat) (xs : List e.den) (lo len : Nat), hget k.hp n = some (.arr e xs) → Hdr (k.μ n) e lo len v → lo + len ≤ xs.length → roomFor (((xs.drop lo).take len).length + ys.length) (E.P.bytesOf el) = true → ∀ b : Bool,
            OK E N k fr tmps { test := b, v := .one (.own k.nx e), acts := [.rem n, .put k.nx (.arr e ((xs.drop lo).take len ++ ys))], made := 1 } (Builtin.append_ ats ty #[v, v2]) := by
          intro n xs lo len hl hh hle hroom b
          have hbr := hk.blk n _ hl
          have hrm : ∀ m, some n = some m → ∃ b, hget k.hp m = some b := fun m hm => by cases hm; exact ⟨_, hl⟩
          have hlen : ((xs.drop lo).take len).length = len := by simp; omega
          obtain ⟨a, c, hv, hfst⟩ := own_first hbr hh hle
          obtain ⟨olds, hol, hof⟩ := hfst len (Nat.le_refl _)
          rw [List.take_of_length_le (by omega)] at hol
          by_cases hgt : c < len + ys.length
          · exact grow a _ c olds (some n) (by rw [hlen]; exact hv) hol (fun w' hw => by rw [hlen]; exact hof E.P w' hw) (by rw [hlen]; exact hgt) hroom hrm b
          · unfold BRel at hbr
            cases hμ : k.μ n with
            | none =>
              rw [hμ] at hh
              obtain ⟨a', e1, e2, e3⟩ := hh
              rw [hv] at e1
              simp only [Value.slice.injEq] at e1
              have hys : ys = [] := List.eq_nil_of_length_eq_zero (by omega)
              have hxs : (xs.drop lo).take len = [] := by rw [e2]; simp
              subst hys
              rw [hxs]
              exact none_ a (some n) (by rw [e1.1]; exact e3) (by rw [hv, e2, e1.2.2]) rfl hrm b
            | at_ B o cap =>
              rw [hμ] at hh hbr
              obtain ⟨a', c', e1, g1, g2, g3⟩ := hh
              rw [hv] at e1
              simp only [Value.slice.injEq] at e1
              obtain ⟨e1, _, e2⟩ := e1
              subst e1; subst e2
              rcases g3 with g3 | g3
              · obtain ⟨row, T, fz, hrow, hfz, h4, h5, h6, h7⟩ := hbr
                have hus1 := hus.1
                rw [hsz] at hrun
                have hpos : 0 < e.size ∨ us = [] := by
                  rcases Nat.eq_zero_or_pos e.size with h | h
                  · right; exact List.eq_nil_of_length_eq_zero (by rw [hus1, h]; simp)
                  · exact Or.inl h
                have hb1 : (lo + c) * e.size ≤ cap * e.size := Nat.mul_le_mul_right _ (by omega)
                have hb2 : (len + ys.length) * e.size ≤ c * e.size := Nat.mul_le_mul_right _ (by omega)
                rw [Nat.add_mul] at hb1 hb2
                have hone : ∀ q ∈ us, q.oneCell' = true := by
                  rcases hpos with h | h
                  · exact hus.one h
                  · rw [h]; intro q hq; cases hq
                have hst := run_storeCells' E.P B (o + lo * e.size + len * e.size) _ fz us 0 row k.w hrow hfz (by omega) hone
                simp only [Nat.add_zero] at hst
                have hr := run_append_fit (w := k.w) (ty := ty) (base := a) (sLen := len) (sCap := c) ht hu hi (hs.len E.P k.w) (hrun E.P k.w rfl) (by omega) (w' := k.w.setRow B (rowPut row (o + lo * e.size + len * e.size) us)) (by rw [g3]; simp only [add0]; rw [← hsz]; exact hst) h0 h1
                rw [← hv] at hr
                refine OK.new0 (rm := some n) (l := .at_ B (o + lo * e.size) c) hk hf ⟨hN, by simp, fun B' _ hB' => ?_, hrm, fun B' hB' => ?_⟩ hr (fun hx' => ?_) (fun hx' => ?_) (setRow_meta _ _ _)
                · exact setRow_other k.w B B' _ (fun e' => hB' n rfl (by rw [hμ, e']; rfl))
                · refine Or.inr ⟨n, rfl, ?_⟩
                  rw [hμ]; exact hB'
                · unfold BRel
                  rw [show (newK k (k.w.setRow B (rowPut row (o + lo * e.size + len * e.size) us)) (some n) (Loc.at_ B (o + lo * e.size) c) (.arr e ((xs.drop lo).take len ++ ys))).μ k.nx = .at_ B (o + lo * e.size) c from upd_same _ _ _]
                  have holds := row_elems h4 h6 h7 (lo := lo) (len := len) hle
                  have hall := hx'.e (holds.append hus)
                  refine ⟨rowPut row (o + lo * e.size + len * e.size) us, T, fz, setRow_heap k.w B row _ _ _ hrow, ?_, by rw [List.length_append, hlen]; omega, by omega, by rw [rowPut_size (by omega)]; omega, ?_⟩
                  · intro j hj
                    rw [rowPut_size (by omega)] at hj
                    exact hfz j hj
                  · refine elems_row hall ?_
                    rw [List.length_append, hlen, Nat.add_mul]
                    rw [rowPut_part (by omega) (by omega)]
                    have e3 : (part_ row (o + lo * e.size) (len * e.size + ys.length * e.size)).take (len * e.size) = part_ row (o + lo * e.size) (len * e.size) := by
                      simp only [part_, List.take_take]
                      rw [Nat.min_eq_left (by omega)]
                    have e4 : (part_ row (o + lo * e.size) (len * e.size + ys.length * e.size)).drop (len * e.size + us.length) = [] := by
                      apply List.drop_eq_nil_of_le
                      rw [part_len (by omega)]
                      omega
                    rw [e3, e4, List.append_nil]
                · refine ⟨⟨Or.inr rfl, rfl⟩, fun xs' hxs => ?_⟩
                  rw [show (newK k (k.w.setRow B (rowPut row (o + lo * e.size + len * e.size) us)) (some n) (Loc.at_ B (o + lo * e.size) c) (.arr e ((xs.drop lo).take len ++ ys))).μ k.nx = .at_ B (o + lo * e.size) c from upd_same _ _ _]
                  simp only [newK, hget_hput, if_true, Option.some.injEq, Blk.arr.injEq] at hxs
                  have := eq_of_heq hxs.2
                  subst this
                  refine ⟨a, c, by rw [List.length_append, hlen], by rw [List.length_append, hlen]; omega, by omega, Or.inl ?_⟩
                  rw [g3]
                  simp
              · have hys : ys = [] := List.eq_nil_of_length_eq_zero (by omega)
                have hl0 : len = 0 := by omega
                have hxs : (xs.drop lo).take len = [] := by rw [hl0]; simp
                subst hys
                rw [hxs, List.nil_append]
                rw [hsz] at hrun
                have hus0 : us = [] := List.eq_nil_of_length_eq_zero (by simpa using hus.1)
                subst hus0
                have hv0 : v = .slice a 0 0 := by rw [hv, hl0, g3.1]
                subst hv0
                have hr := run_append_fit (w := k.w) (ty := ty) (base := a) (sLen := 0) (sCap := 0) ht hu hi (hs.len E.P k.w) (hrun E.P k.w rfl) (by simp) (w' := k.w) (by cases a <;> simp [storeCells]) h0 h1
                obtain ⟨row, T, fz, hrow, hfz, h4, h5, h6, h7⟩ := hbr
                refine OK.new0 (rm := some n) (l := .at_ B o 0) (w' := k.w) hk hf ⟨hN, Nat.le_refl _, fun _ _ _ => rfl, hrm, fun B' hB' => Or.inr ⟨n, rfl, by rw [hμ]; exact hB'⟩⟩ hr (fun _ => ?_) (fun _ => ?_) ⟨rfl, rfl, rfl⟩
                · unfold BRel
                  rw [show (newK k k.w (some n) (Loc.at_ B o 0) (.arr e [])).μ k.nx = .at_ B o 0 from upd_same _ _ _]
                  exact ⟨row, T, fz, hrow, hfz, by simp, by simp [MAXL], by rw [Nat.zero_mul]; omega, fun i hi => by simp at hi⟩
                · refine ⟨⟨Or.inr rfl, rfl⟩, fun xs hxs => ?_⟩
                  rw [show (newK k k.w (some n) (Loc.at_ B o 0) (.arr e [])).μ k.nx = .at_ B o 0 from upd_same _ _ _]
                  simp only [newK, hget_hput, if_true, Option.some.injEq, Blk.arr.injEq] at hxs
                  have := eq_of_heq hxs.2
                  subst this
                  exact ⟨a, 0, by simp, by simp, by omega, Or.inr ⟨rfl, g3.2⟩⟩
        cases x with
        | nilS =>
          simp only [Option.some.injEq] at h
          subst h
          have hv : v = .slice none 0 0 := hx (by simp)
          by_cases hys : ys = []
          · subst hys
            exact none_ none none rfl hv rfl (fun n hn => by cases hn) _
          · have hp : 0 < ys.length := List.length_pos_iff.2 hys
            have := grow none [] 0 [] none hv (ERel.nil _ _ _) (fun w' _ => by rw [hv]; simp [Builtin.firstCells]) (by simpa using hp) (by simpa using htest) (fun n hn => by cases hn) (roomFor ys.length (E.P.bytesOf el))
            exact this
        | own n e' =>
          simp only at h
          split at h
          · rename_i he
            subst he
            cases hxs : arrAs e' (hget k.hp n) with
            | none => rw [hxs] at h; cases h
            | some xs =>
              rw [hxs] at h
              simp only [Option.map_some, Option.some.injEq] at h
              subst h
              have hbl := arrAs_eq hxs
              have := own n xs 0 xs.length hbl ((hx (by simp)).2 xs hbl) (by simp) (by simpa using htest) (roomFor (xs.length + ys.length) (E.P.bytesOf el))
              simpa using this
          · cases h
        | sub n e' lo hi =>
          simp only at h
          split at h
          · rename_i he
            subst he
            cases hxs : arrAs e' (hget k.hp n) with
            | none => rw [hxs] at h; cases h
            | some xs =>
              rw [hxs] at h
              simp only [Option.map_some, Option.some.injEq] at h
              subst h
              have hbl := arrAs_eq hxs
              obtain ⟨q0, q1, q2, q3⟩ := (hx (by simp)).2 xs hbl
              exact own n xs lo.toNat (hi - lo).toNat hbl q3 (by omega) htest _
          · cases h
        | clp n e' lo hi =>
          simp only at h
          split at h
          · rename_i he
            subst he
            cases hxs : arrAs e' (hget k.hp n) with
            | none => rw [hxs] at h; cases h
            | some xs =>
              rw [hxs] at h
              simp only [Option.map_some, Option.some.injEq] at h
              subst h
              have hbl := arrAs_eq hxs
              obtain ⟨q0, q1, q2, ⟨a0, hv⟩, q3⟩ := (hx (by simp)).2 xs hbl
              simp only [Bool.and_eq_true, Bool.or_eq_true, decide_eq_true_eq] at htest
              have hlen : (cut xs lo hi).length = (hi - lo).toNat := by simp [cut]; omega
              by_cases hys : ys = []
              · subst hys
                exact absurd htest.2 (by simp)
              · have hp : 0 < ys.length := List.length_pos_iff.2 hys
                obtain ⟨a1, c1, hv1, hfst⟩ := own_first (hk.blk n _ hbl) q3 (by omega)
                obtain ⟨olds, hol, hof⟩ := hfst (hi - lo).toNat (Nat.le_refl _)
                have hct : ((xs.drop lo.toNat).take (hi - lo).toNat).take (hi - lo).toNat = cut xs lo hi := by
                  rw [List.take_take, Nat.min_self]; rfl
                rw [hct] at hol
                exact grow a0 (cut xs lo hi) (hi - lo).toNat olds none (by rw [hlen]; exact hv) hol (fun w' hw => by rw [hlen]; exact hof E.P w' hw) (by rw [hlen]; omega) htest.1 (fun n hn => by cases hn) _
          · cases h
        | clip e' xs =>
          simp only at h
          cases hxs : asTy (.slice e) (.slice e') xs with
          | none => rw [hxs] at h; cases h
          | some xs' =>
            rw [hxs] at h
            simp only [Option.map_some, Option.some.injEq] at h
            obtain ⟨he, hxe⟩ := asTy_eq hxs
            simp only [Ty.slice.injEq] at he
            subst he
            have hxe : xs' = xs := hxe
            subst hxe
            subst h
            obtain ⟨a, hv, hvr⟩ := hx (by simp)
            simp only [Bool.and_eq_true, Bool.or_eq_true, decide_eq_true_eq] at htest
            have hp : 0 < ys.length := htest.2
            rw [hv] at hvr
            obtain ⟨_, hfst⟩ := slice_first hvr
            obtain ⟨olds, hol, hof⟩ := hfst xs'.length (Nat.le_refl _)
            rw [List.take_length] at hol
            exact grow a xs' xs'.length olds none hv hol (fun w' hw => by rw [hv]; exact hof E.P w' hw) (by omega) htest.1 (fun n hn => by cases hn) _
        | _ => simp at h

end Go.Ab

/-
  ONE OPERATION IS RIGHT: copy, literals of structs, conversions, the least and the greatest.
-/
set_option linter.unusedVariables false
set_option linter.unusedSimpArgs false
namespace Go.Ab
variable [Tabs]
open Go.RowKit (Below)

/-! ### copy -/
theorem ERel.drop {w : World} {O : Nat → Prop} {e : Ty} {ys : List e.den} {us : List Value} (h : ERel w O e ys us) (m : Nat) : ERel w O e (ys.drop m) (us.drop (m * e.size)) := by
  refine ⟨by rw [List.length_drop, List.length_drop, h.1, Nat.mul_sub_right_distrib], fun i hi => ?_⟩
  have hi' : m + i < ys.length := by rw [List.length_drop] at hi; omega
  have h1 := h.2 (m + i) hi'
  have e1 : (ys.drop m)[i] = ys[m + i] := by simp
  rw [e1, List.drop_drop, ← Nat.add_mul]
  exact h1

theorem over_len {α : Type} {xs ys : List α} {lo k : Nat} (h : lo + k ≤ xs.length) (h2 : k ≤ ys.length) : (over xs ys lo k).length = xs.length := by
  simp [over]; omega

theorem over_zero {α : Type} (xs ys : List α) (lo : Nat) : over xs ys lo 0 = xs := by simp [over]

theorem run_copy {P : Program} {w : World} {t ty el : TypeId} {i : TypeInfo} (ht : P.underlying t = some (.slice el)) (hi : P.info? el = some i)
    {base : Option Addr} {dLen dCap n : Nat} {y : Value} {news : List Value} (hn : (Builtin.lenOf y).run P w = .ok n w) (hf : (Builtin.firstCells i.size (Nat.min n dLen) y).run P w = .ok news.toArray w) {w' : World}
    (hst : (match base with | some a => storeCells a news | none => pure ()).run P w = .ok () w') {ats : Array TypeId} (h0 : ats[0]? = some t) :
    (Builtin.copy_ ats ty #[.slice base dLen dCap, y]).run P w = .ok (goInt (Nat.min n dLen)) w' := by
  cases base with
  | none =>
    simp only [Sem.run_pure, Result.ok.injEq, true_and] at hst
    subst hst
    simp [Builtin.copy_, h0, run_underlying ht, sizeOf, typeInfo, hi, hn, hf]
  | some a =>
    simp only at hst
    simp [Builtin.copy_, h0, run_underlying ht, sizeOf, typeInfo, hi, hn, hf, hst]

theorem copy_own {E : Env} (hE : EnvOK E) {N : Nat} {k : Kx} {fr : Fr} {tmps : Array Value} (hk : HRel N k) (hf : FRel k fr tmps) (hN : N ≤ k.w.heap.size) {t ty el : TypeId} {v v2 : Value} {ats : Array TypeId} {e : Ty} {ys xs : List e.den} {n lo len : Nat}
    (h0 : ats[0]? = some t) (ht : E.P.underlying t = some (.slice el)) (hty : E.ty el = some e) (hs : Src k e ys v2) (hl : hget k.hp n = some (.arr e xs)) (hh : Hdr (k.μ n) e lo len v) (hle : lo + len ≤ xs.length) :
    OK E N k fr tmps { test := true, v := .one (.val (.int .i64) ((min ys.length len : Nat) : Int)), acts := [.put n (.arr e (over xs ys lo (min ys.length len)))] } (Builtin.copy_ ats ty #[v, v2]) := by
  obtain ⟨i, z, hi, hz, hzc, hsz, _, htag⟩ := hE el e hty
  obtain ⟨us, hus, hrun⟩ := hs.first (min ys.length len) (Nat.min_le_left _ _)
  have hbr := hk.blk n _ hl
  obtain ⟨a, c, hv, _⟩ := own_first hbr hh hle
  rw [hsz] at hrun
  have hxm : xs.length ≤ MAXL := by
    unfold BRel at hbr
    cases hμ : k.μ n with
    | none => rw [hμ] at hbr; have hbr : xs = [] := hbr; rw [hbr]; simp [MAXL]
    | at_ B o cap => rw [hμ] at hbr; obtain ⟨row, T, fz, _, _, h4, h5, _⟩ := hbr; omega
  have hval : ∀ k' : Kx, ARel k' (.one (.val (.int .i64) ((min ys.length len : Nat) : Int))) (goInt ((Nat.min ys.length len : Nat) : Int)) := fun k' => Or.inr ⟨rfl, wrap_nat (by omega)⟩
  have hmin : Nat.min ys.length len = min ys.length len := rfl
  by_cases hk0 : min ys.length len = 0
  · rw [hk0] at hus hrun ⊢
    have hus0 : us = [] := List.eq_nil_of_length_eq_zero (by simpa using hus.1)
    subst hus0
    have hr := run_copy (w := k.w) (ty := ty) (base := a) (dLen := len) (dCap := c) ht hi (hs.len E.P k.w) (w' := k.w) (news := []) (by rw [hmin, hk0]; exact hrun E.P k.w rfl) (by cases a <;> simp [storeCells]) h0
    rw [hmin, hk0, ← hv] at hr
    have hw : Write k k.w n (.arr e xs) (.arr e (over xs ys lo 0)) := ⟨hl, ⟨rfl, by rw [over_zero]⟩, rfl, fun _ _ => rfl⟩
    have hval0 := hval
    rw [hmin, hk0] at hval0
    refine OK.write hk hf hN [] hw hr (fun hx => ?_) (fun _ => hval0 _) ⟨rfl, rfl, rfl⟩
    rw [over_zero] at hx ⊢
    exact BRel.move hx rfl (fun _ _ => rfl) hbr
  · unfold BRel at hbr
    cases hμ : k.μ n with
    | none =>
      rw [hμ] at hh
      obtain ⟨a', e1, e2⟩ := hh
      exact absurd (by omega) hk0
    | at_ B o cap =>
      rw [hμ] at hh hbr
      obtain ⟨a', c', e1, g1, g2, g3⟩ := hh
      rw [hv] at e1
      simp only [Value.slice.injEq] at e1
      obtain ⟨e1, _, e2⟩ := e1
      subst e1; subst e2
      have g3 : a = some ⟨B, o + lo * e.size, none⟩ := by
        rcases g3 with h | h
        · exact h
        · omega
      obtain ⟨row, T, fz, hrow, hfz, h4, h5, h6, h7⟩ := hbr
      have hyl : ((ys.take (min ys.length len)) : List e.den).length = min ys.length len := by simp
      have hus1 : us.length = min ys.length len * e.size := by rw [hus.1, hyl]
      generalize hm : min ys.length len = m at *
      have hml : m ≤ len := by omega
      have hmy : m ≤ ys.length := by omega
      have hb0 : cap * e.size ≤ row.size := by omega
      have hb1 : (lo + m) * e.size ≤ xs.length * e.size := Nat.mul_le_mul_right _ (by omega)
      have hb2 : xs.length * e.size ≤ cap * e.size := Nat.mul_le_mul_right _ h4
      rw [Nat.add_mul] at hb1
      have hone : ∀ q ∈ us, q.oneCell' = true := by
        rcases Nat.eq_zero_or_pos e.size with h | h
        · have : us = [] := List.eq_nil_of_length_eq_zero (by rw [hus1, h]; simp)
          rw [this]; intro q hq; cases hq
        · exact hus.one h
      have hst := run_storeCells' E.P B (o + lo * e.size) _ fz us 0 row k.w hrow hfz (by omega) hone
      simp only [Nat.add_zero] at hst
      have hr := run_copy (w := k.w) (ty := ty) (base := a) (dLen := len) (dCap := c) ht hi (hs.len E.P k.w) (news := us) (by rw [hmin]; exact hrun E.P k.w rfl) (w' := k.w.setRow B (rowPut row (o + lo * e.size) us)) (by rw [g3]; exact hst) h0
      rw [hmin, ← hv] at hr
      rw [hmin] at hval
      have hw : Write k (k.w.setRow B (rowPut row (o + lo * e.size) us)) n (.arr e xs) (.arr e (over xs ys lo m)) := write_row hl ⟨rfl, by rw [over_len (by omega) hmy]⟩ (by rw [hμ]; rfl) hrow
      refine OK.write hk hf hN [] hw hr (fun hx => ?_) (fun _ => hval _) (setRow_meta _ _ _)
      unfold BRel
      rw [show (putK (frzKs k []) (k.w.setRow B (rowPut row (o + lo * e.size) us)) n (.arr e (over xs ys lo m))).μ n = .at_ B o cap from hμ]
      have holds := row_elems h4 h6 h7 (lo := 0) (len := xs.length) (by omega)
      simp only [List.drop_zero, List.take_length, Nat.zero_mul, Nat.add_zero] at holds
      have hnew : ERel k.w k.O e (over xs ys lo m) (((part_ row o (xs.length * e.size)).take (lo * e.size) ++ us) ++ (part_ row o (xs.length * e.size)).drop ((lo + m) * e.size)) :=
        ((holds.take lo (by omega)).append hus).append (holds.drop (lo + m))
      have hall := hx.e hnew
      refine ⟨rowPut row (o + lo * e.size) us, T, fz, setRow_heap k.w B row _ _ _ hrow, ?_, by rw [over_len (by omega) hmy]; exact h4, h5, by rw [rowPut_size (by omega)]; exact h6, ?_⟩
      · intro j hj
        rw [rowPut_size (by omega)] at hj
        exact hfz j hj
      · refine elems_row hall ?_
        rw [over_len (by omega) hmy, rowPut_part (by omega) (by omega), hus1, Nat.add_mul]

theorem copy_sound {E : Env} (hE : EnvOK E) {N : Nat} {k : Kx} {fr : Fr} {tmps : Array Value} (hk : HRel N k) (hf : FRel k fr tmps) (hN : N ≤ k.w.heap.size) {t ty : TypeId} {x y : Cell} {v v2 : Value} {ats : Array TypeId} {out : Out}
    (h0 : ats[0]? = some t) (hx : x ≠ .undef → CRel k x v) (hy : y ≠ .undef → CRel k y v2) (h : copyA E (hget k.hp) t x y = some out) :
    OK E N k fr tmps out (Builtin.copy_ ats ty #[v, v2]) := by
  unfold copyA at h
  cases hse : sliceElem E.P t with
  | none => rw [hse] at h; cases h
  | some el =>
    rw [hse] at h
    simp only at h
    have ht : E.P.underlying t = some (.slice el) := by
      unfold sliceElem at hse
      split at hse
      · simp at hse; subst hse; assumption
      · cases hse
    cases hty : E.ty el with
    | none => rw [hty] at h; cases h
    | some e =>
      rw [hty] at h
      simp only at h
      cases hsrc : srcAs (hget k.hp) e y with
      | none => rw [hsrc] at h; cases h
      | some ys =>
        rw [hsrc] at h
        simp only at h
        have hs := src_sound hk hy hsrc
        cases x with
        | own n e' =>
          simp only at h
          split at h
          · rename_i he
            subst he
            cases hxs : arrAs e' (hget k.hp n) with
            | none => rw [hxs] at h; cases h
            | some xs =>
              rw [hxs] at h
              simp only [Option.map_some, Option.some.injEq] at h
              subst h
              have hbl := arrAs_eq hxs
              exact copy_own hE hk hf hN h0 ht hty hs hbl ((hx (by simp)).2 xs hbl) (by simp)
          · cases h
        | sub n e' lo hi =>
          simp only at h
          split at h
          · rename_i he
            subst he
            cases hxs : arrAs e' (hget k.hp n) with
            | none => rw [hxs] at h; cases h
            | some xs =>
              rw [hxs] at h
              simp only [Option.map_some, Option.some.injEq] at h
              subst h
              have hbl := arrAs_eq hxs
              obtain ⟨q0, q1, q2, q3⟩ := (hx (by simp)).2 xs hbl
              exact copy_own hE hk hf hN h0 ht hty hs hbl q3 (by omega)
          · cases h
        | _ => simp at h

/-! ### clear -/
theorem zeros_part {z : Array Value} {n j : Nat} (hz : 0 < z.size) (hj : j < n) : (((Builtin.zeroCells z n).toList.drop (j * z.size)).take z.size) = z.toList := by
  have e1 := made_part (z := z) (c := n) (i := j) hj hz
  have e2 : madeCells z (n * z.size) = Builtin.zeroCells z n := rfl
  rw [e2] at e1
  exact e1

theorem clear_own {E : Env} (hE : EnvOK E) {N : Nat} {k : Kx} {fr : Fr} {tmps : Array Value} (hk : HRel N k) (hf : FRel k fr tmps) (hN : N ≤ k.w.heap.size) {t ty el : TypeId} {v : Value} {ats : Array TypeId} {e : Ty} {xs : List e.den} {n lo len : Nat}
    (h0 : ats[0]? = some t) (ht : E.P.underlying t = some (.slice el)) (hty : E.ty el = some e) (hpos : 0 < e.size) (hl : hget k.hp n = some (.arr e xs)) (hh : Hdr (k.μ n) e lo len v) (hle : lo + len ≤ xs.length) :
    OK E N k fr tmps { test := true, v := .one .undef, acts := [.put n (.arr e (over xs (List.replicate len e.dflt) lo len))] } (Builtin.clear_ ats ty #[v]) := by
  obtain ⟨i, z, hi, hz, hzc, hsz, _, htag⟩ := hE el e hty
  have hzs : z.cells.size = e.size := by rw [← Array.length_toList, hzc, ← zeros_len, (zeros_rel k e).len]
  have hbr := hk.blk n _ hl
  obtain ⟨a, c, hv, _⟩ := own_first hbr hh hle
  by_cases hk0 : len = 0
  · subst hk0
    have hr : (Builtin.clear_ ats ty #[v]).run E.P k.w = .ok (.tuple #[]) k.w := by
      rw [hv]
      cases a <;> simp [Builtin.clear_, h0, run_underlying ht]
    have hw : Write k k.w n (.arr e xs) (.arr e (over xs (List.replicate 0 e.dflt) lo 0)) := ⟨hl, ⟨rfl, by rw [over_zero]⟩, rfl, fun _ _ => rfl⟩
    refine OK.write hk hf hN [] hw hr (fun hx => ?_) (fun _ => Or.inl rfl) ⟨rfl, rfl, rfl⟩
    rw [over_zero] at hx ⊢
    exact BRel.move hx rfl (fun _ _ => rfl) hbr
  · unfold BRel at hbr
    cases hμ : k.μ n with
    | none =>
      rw [hμ] at hh hbr
      have hbr : xs = [] := hbr
      rw [hbr] at hle
      simp at hle
      omega
    | at_ B o cap =>
      rw [hμ] at hh hbr
      obtain ⟨a', c', e1, g1, g2, g3⟩ := hh
      rw [hv] at e1
      simp only [Value.slice.injEq] at e1
      obtain ⟨e1, _, e2⟩ := e1
      subst e1; subst e2
      have g3 : a = some ⟨B, o + lo * e.size, none⟩ := by
        rcases g3 with h | h
        · exact h
        · omega
      obtain ⟨row, T, fz, hrow, hfz, h4, h5, h6, h7⟩ := hbr
      have hus : ERel k.w k.O e (List.replicate len e.dflt) (Builtin.zeroCells z.cells len).toList := by
        refine ⟨by simp [size_zeroCells, hzs], fun j hj => ?_⟩
        simp only [List.length_replicate] at hj
        have e1 := zeros_part (z := z.cells) (n := len) (j := j) (by omega) hj
        rw [hzs] at e1
        rw [e1, hzc]
        simpa using dflt_rel k.w _ e
      generalize hu : (Builtin.zeroCells z.cells len).toList = us at hus
      have hus1 : us.length = len * e.size := by rw [hus.1, List.length_replicate]
      have hb1 : (lo + len) * e.size ≤ xs.length * e.size := Nat.mul_le_mul_right _ (by omega)
      have hb2 : xs.length * e.size ≤ cap * e.size := Nat.mul_le_mul_right _ h4
      rw [Nat.add_mul] at hb1
      have hone : ∀ q ∈ us, q.oneCell' = true := hus.one hpos
      have hst := run_storeCells' E.P B (o + lo * e.size) _ fz us 0 row k.w hrow hfz (by omega) hone
      simp only [Nat.add_zero] at hst
      have hr : (Builtin.clear_ ats ty #[v]).run E.P k.w = .ok (.tuple #[]) (k.w.setRow B (rowPut row (o + lo * e.size) us)) := by
        rw [hv, g3]
        have hne : len ≠ 0 := hk0
        obtain ⟨m, rfl⟩ := Nat.exists_eq_succ_of_ne_zero hne
        simp only [Builtin.clear_, h0, List.getElem?_toArray, List.getElem?_cons_zero, Sem.run_bind, run_underlying ht, Result.andThen_ok, run_zero k.w hi hz, hu]
        rw [hst]
        rfl
      have hw : Write k (k.w.setRow B (rowPut row (o + lo * e.size) us)) n (.arr e xs) (.arr e (over xs (List.replicate len e.dflt) lo len)) := write_row hl ⟨rfl, by rw [over_len (by omega) (by simp)]⟩ (by rw [hμ]; rfl) hrow
      refine OK.write hk hf hN [] hw hr (fun hx => ?_) (fun _ => Or.inl rfl) (setRow_meta _ _ _)
      unfold BRel
      rw [show (putK (frzKs k []) (k.w.setRow B (rowPut row (o + lo * e.size) us)) n (.arr e (over xs (List.replicate len e.dflt) lo len))).μ n = .at_ B o cap from hμ]
      have holds := row_elems h4 h6 h7 (lo := 0) (len := xs.length) (by omega)
      simp only [List.drop_zero, List.take_length, Nat.zero_mul, Nat.add_zero] at holds
      have hus' : ERel k.w k.O e ((List.replicate len e.dflt).take len) us := by rw [List.take_of_length_le (by simp)]; exact hus
      have hnew : ERel k.w k.O e (over xs (List.replicate len e.dflt) lo len) (((part_ row o (xs.length * e.size)).take (lo * e.size) ++ us) ++ (part_ row o (xs.length * e.size)).drop ((lo + len) * e.size)) :=
        ((holds.take lo (by omega)).append hus').append (holds.drop (lo + len))
      have hall := hx.e hnew
      refine ⟨rowPut row (o + lo * e.size) us, T, fz, setRow_heap k.w B row _ _ _ hrow, ?_, by rw [over_len (by omega) (by simp)]; exact h4, h5, by rw [rowPut_size (by omega)]; exact h6, ?_⟩
      · intro j hj
        rw [rowPut_size (by omega)] at hj
        exact hfz j hj
      · refine elems_row hall ?_
        rw [over_len (by omega) (by simp), rowPut_part (by omega) (by omega), hus1, Nat.add_mul]

theorem clear_sound {E : Env} (hE : EnvOK E) {N : Nat} {k : Kx} {fr : Fr} {tmps : Array Value} (hk : HRel N k) (hf : FRel k fr tmps) (hN : N ≤ k.w.heap.size) {t ty : TypeId} {x : Cell} {v : Value} {ats : Array TypeId} {out : Out}
    (h0 : ats[0]? = some t) (hx : x ≠ .undef → CRel k x v) (h : clearA E (hget k.hp) t x = some out) : OK E N k fr tmps out (Builtin.clear_ ats ty #[v]) := by
  unfold clearA at h
  cases hse : sliceElem E.P t with
  | none => rw [hse] at h; cases h
  | some el =>
    rw [hse] at h
    simp only at h
    have ht : E.P.underlying t = some (.slice el) := by
      unfold sliceElem at hse
      split at hse
      · simp at hse; subst hse; assumption
      · cases hse
    cases hty : E.ty el with
    | none => rw [hty] at h; cases h
    | some e =>
      rw [hty] at h
      simp only at h
      cases x with
      | own n e' =>
        simp only at h
        split at h
        · rename_i he
          obtain ⟨he, hpos⟩ := he
          subst he
          cases hxs : arrAs e' (hget k.hp n) with
          | none => rw [hxs] at h; cases h
          | some xs =>
            rw [hxs] at h
            simp only [Option.map_some, Option.some.injEq] at h
            subst h
            have hbl := arrAs_eq hxs
            exact clear_own hE hk hf hN h0 ht hty hpos hbl ((hx (by simp)).2 xs hbl) (by simp)
        · cases h
      | sub n e' lo hi =>
        simp only at h
        split at h
        · rename_i he
          obtain ⟨he, hpos⟩ := he
          subst he
          cases hxs : arrAs e' (hget k.hp n) with
          | none => rw [hxs] at h; cases h
          | some xs =>
            rw [hxs] at h
            simp only [Option.map_some, Option.some.injEq] at h
            subst h
            have hbl := arrAs_eq hxs
            obtain ⟨q0, q1, q2, q3⟩ := (hx (by simp)).2 xs hbl
            exact clear_own hE hk hf hN h0 ht hty hpos hbl q3 (by omega)
        · cases h
      | nilS =>
        simp only [Option.some.injEq] at h
        subst h
        have hv : v = .slice none 0 0 := hx (by simp)
        refine OK.quiet (v := .tuple #[]) hk hf ?_ (Or.inl rfl)
        rw [hv]
        simp [Builtin.clear_, h0, run_underlying ht]
      | _ => simp at h

/-! ### the length of a map -/
theorem mapLen_sound {E : Env} {N : Nat} {k : Kx} {fr : Fr} {tmps : Array Value} (hk : HRel N k) (hf : FRel k fr tmps) {t ty : TypeId} {x : Cell} {v : Value} {ats : Array TypeId} {out : Out}
    (h0 : ats[0]? = some t) (hx : x ≠ .undef → CRel k x v) (h : mapLenA E (hget k.hp) t x = some out) (ht : out.test = true) : OK E N k fr tmps out (Builtin.len_ ats ty #[v]) := by
  unfold mapLenA at h
  split at h
  · rename_i kt vt kk vv hu hty
    cases hes : mapOfA (hget k.hp) kk vv x with
    | none => rw [hes] at h; cases h
    | some es =>
      rw [hes] at h
      simp only [Option.map_some, Option.some.injEq] at h
      subst h
      simp only [decide_eq_true_eq] at ht
      have real : ∀ (B : Nat) (ents : Array MapEntry) (clk : Nat), v = .map (some B) → k.w.heap[B]? = some (.map ents clk) → ents.size = es.length → (Builtin.len_ ats ty #[v]).run E.P k.w = .ok (.int .i64 (es.length : Int)) k.w := by
        intro B ents clk hv hB hs
        subst hv
        simp only [Builtin.len_, h0, List.getElem?_toArray, List.getElem?_cons_zero, Sem.run_bind, run_under k.w hu, Result.andThen_ok, Go.MapKept.run_getObj_map hB, Sem.run_pure, hs, goInt]
      have pure_ : VRel k.w k.O (.map kk vv) es [v] → (Builtin.len_ ats ty #[v]).run E.P k.w = .ok (.int .i64 (es.length : Int)) k.w := by
        intro hv
        rcases hv with ⟨h1, h2⟩ | ⟨B, ents, clk, h1, _, h2, h3⟩
        · simp only [List.cons.injEq, and_true] at h1
          subst h1; subst h2
          simp only [Builtin.len_, h0, List.getElem?_toArray, List.getElem?_cons_zero, Sem.run_bind, run_under k.w hu, Result.andThen_ok, Sem.run_pure, goInt]
          rfl
        · simp only [List.cons.injEq, and_true] at h1
          exact real B ents clk h1 h2 h3.1
      refine OK.quiet (v := .int .i64 (es.length : Int)) hk hf ?_ (Or.inr ⟨rfl, wrap_nat ht⟩)
      cases x with
      | mp n k' v' =>
        simp only [mapOfA] at hes
        split at hes
        · rename_i he
          obtain ⟨e1, e2⟩ := he
          subst e1; subst e2
          have hbl := mapAs_eq hes
          obtain ⟨B, ents, clk, q1, q2, q3⟩ := hk.blk n _ hbl
          obtain ⟨B', q4, q5⟩ := (hx (by simp)).2 _ hbl
          rw [q1] at q4
          simp only [Loc.at_.injEq] at q4
          obtain ⟨q4, _⟩ := q4
          subst q4
          exact real B ents clk q5 q2 q3.1
        · cases hes
      | val t' y =>
        simp only [mapOfA] at hes
        obtain ⟨e, rfl⟩ := asTy_eq hes
        subst e
        exact pure_ (hx (by simp))
      | _ => simp [mapOfA] at hes
  · cases h

/-! ### literals of structs -/
theorem buildParts_sound {k : Kx} {fr : Fr} {tmps : Array Value} (hf : FRel k fr tmps) {a : Act} (ha : a.tmps = tmps) (place : Nat → Option (Nat × Nat)) : ∀ (ps : List (Nat × Operand)) (cs out : List Cell) (cells : Array Value),
    CRels k cs cells.toList → buildParts place fr cs ps = some out → ∃ res, Instr.fill place cells (ps.map fun p => (p.1, a.eval p.2)) = some res ∧ CRels k out res.toList := by
  intro ps
  induction ps with
  | nil =>
    intro cs out cells hc h
    simp only [buildParts, Option.some.injEq] at h
    subst h
    exact ⟨cells, rfl, hc⟩
  | cons p r ih =>
    obtain ⟨i, x⟩ := p
    intro cs out cells hc h
    simp only [buildParts] at h
    cases hp : place i with
    | none => rw [hp] at h; cases h
    | some q =>
      obtain ⟨off, size⟩ := q
      rw [hp] at h
      simp only at h
      split at h
      · rename_i hg
        simp only [Bool.and_eq_true, decide_eq_true_eq] at hg
        obtain ⟨hkn, hlen, hfit⟩ := hg
        have hx := (rd_rel hf ha x).cells hkn
        have hl1 := hx.len
        have hl2 := hc.len
        simp only [Array.length_toList] at hl1 hl2
        have e1 : ((a.eval x).cells.zipIdx.foldl (fun cs (p : Value × Nat) => cs.setIfInBounds (off + p.2) p.1) cells).toList = cells.toList.take off ++ (a.eval x).cells.toList ++ cells.toList.drop (off + (a.eval x).cells.toList.length) := by
          have := setAll off (a.eval x).cells.toList 0 cells (by simp; omega)
          simp only [Nat.add_zero] at this
          rw [← this]
          rw [← Array.foldl_toList, Array.toList_zipIdx]
        have hs := hc.splice hx off
        rw [← e1] at hs
        obtain ⟨res, h1, h2⟩ := ih _ out _ hs h
        refine ⟨res, ?_, h2⟩
        simp only [List.map_cons, Instr.fill, hp]
        rw [if_neg (by simp; omega)]
        exact h1
      · cases h

theorem build_sound {E : Env} (hE : EnvOK E) {N : Nat} {k : Kx} {fr : Fr} {tmps : Array Value} (hk : HRel N k) (hf : FRel k fr tmps) {a : Act} (ha : a.tmps = tmps) {t : TypeId} {parts : Array (Nat × Operand)} {out : Out}
    (h : buildA E fr t parts.toList = some out) : OK E N k fr tmps out (Instr.build t (parts.map fun (i, x) => (i, a.eval x))) := by
  unfold buildA at h
  split at h
  · rename_i fields ty hu hty
    obtain ⟨i, z, hi, hz, hzc, hsz, _⟩ := hE t ty hty
    cases hp : placesOf E.P fields.toList with
    | none => rw [hp] at h; cases h
    | some ps =>
      rw [hp] at h
      simp only at h
      cases hb : buildParts (fun i => ps[i]?) fr (zeros ty) parts.toList with
      | none => rw [hb] at h; cases h
      | some cs =>
        rw [hb] at h
        simp only [Option.map_some, Option.some.injEq] at h
        subst h
        obtain ⟨res, h1, h2⟩ := buildParts_sound hf ha _ parts.toList (zeros ty) cs z.cells (by rw [hzc]; exact zeros_rel k ty) hb
        refine OK.quiet hk hf (v := .agg res) ?_ ⟨res, rfl, h2⟩
        have hpm : (parts.map fun (q : Nat × Operand) => (q.1, a.eval q.2)).toList = parts.toList.map fun p => (p.1, a.eval p.2) := by rw [Array.toList_map]
        refine run_build k.w t _ res ?_
        unfold placesOf at hp
        simp only [Program.built, hi, hu, hz, hp, hpm, List.getElem?_toArray]
        exact h1
  · rename_i len el ty hu hty
    obtain ⟨i, z, hi, hz, hzc, hsz, _⟩ := hE t ty hty
    cases hp : E.P.info? el with
    | none => rw [hp] at h; cases h
    | some j =>
      rw [hp] at h
      simp only at h
      cases hb : buildParts (fun q => some (q * j.size, j.size)) fr (zeros ty) parts.toList with
      | none => rw [hb] at h; cases h
      | some cs =>
        rw [hb] at h
        simp only [Option.map_some, Option.some.injEq] at h
        subst h
        obtain ⟨res, h1, h2⟩ := buildParts_sound hf ha _ parts.toList (zeros ty) cs z.cells (by rw [hzc]; exact zeros_rel k ty) hb
        refine OK.quiet hk hf (v := .agg res) ?_ ⟨res, rfl, h2⟩
        have hpm : (parts.map fun (q : Nat × Operand) => (q.1, a.eval q.2)).toList = parts.toList.map fun p => (p.1, a.eval p.2) := by rw [Array.toList_map]
        simp only [Instr.build, Sem.run_bind, run_zero k.w hi hz, run_under k.w hu, run_sizeOf' k.w hp, Result.andThen_ok, hpm, h1, Sem.run_pure]
  · cases h

/-! ### conversions -/
theorem bytes_run {w : World} {O : Nat → Prop} {ys : List Int} {us : List Value} (h : ERel w O (.int .u8) ys us) : us = ys.map (.int .u8 ·) ∧ ∀ y ∈ ys, IntKind.u8.wrap y = y := by
  obtain ⟨h1, h2⟩ := h
  simp only [Ty.size, Nat.mul_one] at h1 h2
  have key : ∀ i (hi : i < ys.length), us[i]? = some (.int .u8 ys[i]) ∧ IntKind.u8.wrap ys[i] = ys[i] := by
    intro i hi
    obtain ⟨h3, h4⟩ := h2 i hi
    refine ⟨?_, h4⟩
    have : (us.drop i).take 1 = [.int .u8 ys[i]] := h3
    have h5 := congrArg (·[0]?) this
    simpa using h5
  refine ⟨?_, fun y hy => ?_⟩
  · apply List.ext_getElem?
    intro i
    by_cases hi : i < ys.length
    · rw [(key i hi).1]; simp [hi]
    · rw [List.getElem?_eq_none (by omega), List.getElem?_eq_none (by simp; omega)]
  · obtain ⟨i, hi, rfl⟩ := List.getElem_of_mem hy
    exact (key i hi).2

theorem u8_back {y : Int} (h : IntKind.u8.wrap y = y) : ((UInt8.ofNat y.toNat).toNat : Int) = y := by
  have h1 := ok_bounds h
  simp [IntKind.min, IntKind.max, IntKind.signed, IntKind.bits] at h1
  rw [UInt8.toNat_ofNat']
  have : y.toNat % 2 ^ 8 = y.toNat := Nat.mod_eq_of_lt (by omega)
  rw [this]
  omega

theorem strOf_bytes {ys : List Int} (h : ∀ y ∈ ys, IntKind.u8.wrap y = y) : bytesOf (strOfNums ys) = ys := by
  simp only [bytesOf, strOfNums_data, List.map_map]
  conv => rhs; rw [← List.map_id ys]
  refine List.map_congr_left fun y hy => ?_
  exact u8_back (h y hy)

theorem convert_sound {E : Env} (hE : EnvOK E) {N : Nat} {k : Kx} {fr : Fr} {tmps : Array Value} (hk : HRel N k) (hf : FRel k fr tmps) (hN : N ≤ k.w.heap.size) {src dst : TypeId} {x : Cell} {v : Value} {out : Out}
    (hx : x ≠ .undef → CRel k x v) (h : convertA E (hget k.hp) k.nx src dst x = some out) (ht : out.test = true) : OK E N k fr tmps out (convert src dst v) := by
  unfold convertA at h
  split at h
  · rename_i d q q' n hs hd
    simp only [Option.some.injEq] at h
    subst h
    obtain ⟨h1, h2⟩ := hx (by simp)
    simp only [List.cons.injEq, and_true] at h1
    subst h1
    refine OK.quiet hk hf (v := .int q (q.wrap n)) ?_ (Or.inr ⟨rfl, wrap_wrap _ _⟩)
    cases d <;> simp [convert, run_underlying hs, run_underlying hd, Conv.intToInt]
  · rename_i q0 q' n hs hd
    simp only [Option.some.injEq] at h
    subst h
    obtain ⟨h1, h2⟩ := hx (by simp)
    simp only [List.cons.injEq, and_true] at h1
    subst h1
    have ht : (0 : Int) ≤ n ∧ n < 128 := of_decide_eq_true ht
    obtain ⟨m, hm⟩ := Int.eq_ofNat_of_zero_le ht.1
    have hm : n = (m : Int) := hm
    subst hm
    have hm : m < 128 := by
      have : (m : Int) < 128 := ht.2
      omega
    have henc : Utf8.encode (m : Int) = ⟨#[UInt8.ofNat m]⟩ := by
      have hv : Utf8.valid (m : Int) = true := by
        unfold Utf8.valid
        simp
        omega
      unfold Utf8.encode
      simp only [hv, if_true, Int.toNat_natCast]
      rw [if_pos hm]
    refine OK.quiet hk hf (v := .string (Utf8.encode (m : Int))) ?_ (Or.inr ⟨_, rfl, ?_, ?_⟩)
    · simp [convert, run_underlying hs, run_underlying hd, Conv.intToString]
    · rw [henc]
      simp [bytesOf]
      omega
    · rw [henc]
      show 1 ≤ _
      decide
  · rename_i d s hs hd
    simp only [Option.some.injEq] at h
    subst h
    have hc := hx (by simp)
    obtain ⟨ba, e1, e2, e3⟩ := hc
    simp only [List.cons.injEq, and_true] at e1
    subst e1
    refine OK.quiet hk hf (v := .string ba) ?_ (Or.inr ⟨ba, rfl, e2, e3⟩)
    cases d <;> simp [convert, run_underlying hs, run_underlying hd]
  · rename_i x' _ _ _ e hs hd hne
    split at h
    · rename_i he
      cases hc : cellAs (hget k.hp) (.slice (.int .u8)) x' with
      | none => rw [hc] at h; cases h
      | some ys =>
        rw [hc] at h
        simp only [Option.map_some, Option.some.injEq] at h
        subst h
        have hxu : x' ≠ .undef := by rintro rfl; simp [cellAs] at hc
        have hv : VRel k.w (fun _ => False) (.slice (.int .u8)) ys [v] := cellAs_sound hk (hx hxu) hc (fun B hB => hB.elim) (fun _ _ _ _ _ => id)
        obtain ⟨a, c, e1, g1, g2, g3⟩ := hv
        simp only [List.cons.injEq, and_true] at e1
        subst e1
        have hv : VRel k.w (fun _ => False) (.slice (.int .u8)) ys [.slice a ys.length c] := ⟨a, c, rfl, g1, g2, g3⟩
        obtain ⟨us, hus, hrun⟩ := (slice_first hv).2 ys.length (Nat.le_refl _)
        rw [List.take_length] at hus
        obtain ⟨hb1, hb2⟩ := bytes_run hus
        have hr := hrun E.P k.w rfl
        have hm : (strOfNums ys).size ≤ MAXL := by rw [strOfNums_size]; omega
        refine OK.quiet hk hf (v := .string (strOfNums ys)) ?_ (Or.inr ⟨strOfNums ys, rfl, (strOf_bytes hb2).symm, hm⟩)
        rw [run_convert_bytes_string k.w src dst e a _ _ hs he hd]
        cases a with
        | none =>
          simp only [Builtin.firstCells, Sem.run_pure, Result.ok.injEq, and_true] at hr
          have : us = [] := by simpa using congrArg Array.toList hr.symm
          have hy : ys = [] := by rw [this] at hb1; simpa using hb1.symm
          subst hy
          simp [Conv.bytesToString, strOfNums, ByteArray.empty, ByteArray.emptyWithCapacity]
          rfl
        | some a =>
          simp only [Builtin.firstCells, Ty.size, Nat.mul_one] at hr
          rw [hb1] at hr
          rw [run_bytesToString k.w a _ _ ys hr, foldl_push_bytes]
          simp [strOfNums, ByteArray.empty, ByteArray.emptyWithCapacity]
          rfl
    · cases h
  · rename_i e s hs hd
    split at h
    · rename_i he
      split at h
      · rename_i hty
        obtain ⟨_, _, _, _, _, _, _, htag⟩ := hE _ _ hty
        simp only [Option.some.injEq] at h
        subst h
        have hc := hx (by simp)
        obtain ⟨ba, e1, e2, e3⟩ := hc
        simp only [List.cons.injEq, and_true] at e1
        subst e1
        have e2 : s = bytesOf ba := e2
        subst e2
        rw [roomFor_iff, Nat.mul_one, bytesOf_len] at ht
        have hr := run_bytes_of_string (P := E.P) k.w src dst e ba hs hd he
        have hge := grownCap_ge k.w ba.size 0 e
        have hle := grownCap_le_maxLen k.w ba.size 0 e (by simp only [maxLen]; omega)
        obtain ⟨us, hus, hrun⟩ := (src_text k ba).first (bytesOf ba).length (Nat.le_refl _)
        rw [List.take_length] at hus
        obtain ⟨hb1, hb2⟩ := bytes_run hus
        have hcl : (bytesRow ba (grownCap k.w ba.size 0 e)).toList = us ++ List.replicate (grownCap k.w ba.size 0 e - ba.size) (.int .u8 0) := by
          rw [hb1]; simp [bytesRow, bytesOf]
        refine OK.newArr (fz := []) (rm := none) (us := us) (T := e) (row := bytesRow ba (grownCap k.w ba.size 0 e)) (fro := ((bytesRow ba (grownCap k.w ba.size 0 e)).size, (bytesRow ba (grownCap k.w ba.size 0 e)).size + 1)) (cap := grownCap k.w ba.size 0 e) (w' := k.w.drew.alloc (.cells (bytesRow ba (grownCap k.w ba.size 0 e)) e ((bytesRow ba (grownCap k.w ba.size 0 e)).size, (bytesRow ba (grownCap k.w ba.size 0 e)).size + 1))) hk hf hN (fun n hn => by cases hn) rfl ?_ ⟨rfl, rfl, rfl⟩ (by rw [bytesOf_len]; exact hr) hus ?_ (by rw [bytesOf_len]; exact hge) (by simp only [maxLen] at hle; simp only [MAXL]; omega) ?_ htag
        · intro j hj; omega
        · have hl : (bytesOf ba).length * (Ty.int .u8).size = us.length := hus.1.symm
          rw [hl]
          simp only [part_, List.drop_zero, hcl]
          exact List.take_left
        · rw [← Array.length_toList, hcl, List.length_append, List.length_replicate, hus.1, bytesOf_len]
          simp only [Ty.size]
          omega
      · cases h
    · cases h
  · cases h

/-! ### the least and the greatest -/
theorem minI_ok {k : IntKind} {a b : Int} (ha : k.wrap a = a) (hb : k.wrap b = b) : k.wrap (minI a b) = minI a b := by unfold minI; split <;> assumption
theorem maxI_ok {k : IntKind} {a b : Int} (ha : k.wrap a = a) (hb : k.wrap b = b) : k.wrap (maxI a b) = maxI a b := by unfold maxI; split <;> assumption

theorem foldInts_sound {P : Program} {w : World} {f : Int → Int → Int} {g : Value → Value → Sem Value} {q : IntKind} (hg : ∀ a b q', (g (.int q a) (.int q' b)).run P w = .ok (.int q (f a b)) w) (hfo : ∀ a b, q.wrap a = a → q.wrap b = b → q.wrap (f a b) = f a b)
    {k : Kx} : ∀ (cs : List Cell) (vs : List Value) (a r : Int), cs.length = vs.length → (∀ (i : Nat) (c : Cell) (v : Value), cs[i]? = some c → vs[i]? = some v → c ≠ .undef → CRel k c v) → q.wrap a = a → foldInts f q a cs = some r →
      (vs.foldlM g (.int q a)).run P w = .ok (.int q r) w ∧ q.wrap r = r := by
  intro cs
  induction cs with
  | nil =>
    intro vs a r hl hc ha h
    have : vs = [] := List.eq_nil_of_length_eq_zero (by simpa using hl.symm)
    subst this
    simp only [foldInts, Option.some.injEq] at h
    subst h
    exact ⟨by simp, ha⟩
  | cons c cs ih =>
    intro vs a r hl hc ha h
    cases vs with
    | nil => simp at hl
    | cons v vs =>
      cases c with
      | val t x =>
        cases t with
        | int q' =>
          simp only [foldInts] at h
          split at h
          · rename_i he
            subst he
            obtain ⟨h1, h2⟩ := hc 0 _ v rfl rfl (by simp)
            simp only [List.cons.injEq, and_true] at h1
            subst h1
            have := ih vs (f a x) r (by simpa using hl) (fun i c v h1 h2 => hc (i + 1) c v (by simpa using h1) (by simpa using h2)) (hfo _ _ ha h2) h
            simp only [List.foldlM_cons, Sem.run_bind, hg, Result.andThen_ok]
            exact this
          · cases h
        | _ => simp [foldInts] at h
      | _ => simp [foldInts] at h

end Go.Ab

/-
  ONE OPERATION IS RIGHT: all of them.
-/
set_option linter.unusedVariables false
set_option linter.unusedSimpArgs false
namespace Go.Ab
variable [Tabs]
open Go.RowKit (Below)

/-- The operation's run, and what is true behind it. -/
def Done (E : Env) (N : Nat) (k : Kx) (fr : Fr) (tmps : Array Value) (out : Out) (s : Sem Next) : Prop :=
  (out.made ≠ 0 → ¬ k.U k.nx) → ∃ v k', (s.run E.P k.w = .ok (.value v) k'.w ∨ (s.run E.P k.w = .ok .skip k'.w ∧ v = undef)) ∧ k'.hp = acts (frzAll fr k.hp out.frz).2 out.acts ∧ k'.nx = k.nx + out.made ∧ HRel N k' ∧ FRel k' (frzAll fr k.hp out.frz).1 tmps ∧ ARel k' out.v v ∧ Below N k.w k'.w ∧ Ext k k' ∧ ∀ n, k'.U n → k.U n ∨ (k.nx ≤ n ∧ n < k.nx + out.made)

theorem OK.value {E : Env} {N : Nat} {k : Kx} {fr : Fr} {tmps : Array Value} {out : Out} {s : Sem Value} (h : OK E N k fr tmps out s) : Done E N k fr tmps out (do pure (.value (← s))) := by
  intro hm
  obtain ⟨v, k', h1, h2⟩ := h hm
  exact ⟨v, k', Or.inl (by simp only [Sem.run_bind, h1, Result.andThen_ok, Sem.run_pure]), h2⟩

theorem OK.skip {E : Env} {N : Nat} {k : Kx} {fr : Fr} {tmps : Array Value} {out : Out} {s : Sem Unit} (h : OK E N k fr tmps out (do s; pure undef)) : Done E N k fr tmps out (do s; pure .skip) := by
  intro hm
  obtain ⟨v, k', h1, h2⟩ := h hm
  simp only [Sem.run_bind, Sem.run_pure] at h1
  cases hs : s.run E.P k.w with
  | ok u w' =>
    rw [hs] at h1
    simp only [Result.andThen_ok, Result.ok.injEq] at h1
    obtain ⟨hv, hw⟩ := h1
    subst hw
    exact ⟨v, k', Or.inr ⟨by simp only [Sem.run_bind, hs, Result.andThen_ok, Sem.run_pure], hv.symm⟩, h2⟩
  | halt x w' => rw [hs] at h1; simp [Result.andThen] at h1

theorem Done.pure {E : Env} {N : Nat} {k : Kx} {fr : Fr} {tmps : Array Value} (hk : HRel N k) (hf : FRel k fr tmps) {t : Bool} {a : AVal} {v : Value} (ha : ARel k a v) : Done E N k fr tmps { test := t, v := a } (Pure.pure (.value v)) :=
  fun _ => ⟨v, k, Or.inl rfl, rfl, rfl, hk, hf, ha, Below.refl _ _, Ext.refl k, fun _ h => Or.inl h⟩

theorem capsA_rel {k : Kx} {fr : Fr} {tmps : Array Value} (hf : FRel k fr tmps) {a : Act} (ha : a.tmps = tmps) : ∀ (xs : List Operand) (l : List (Nat × Nat)), capsA fr xs = some l →
    l.length = xs.length ∧ ∀ j (h : j < l.length) (h' : j < xs.length), PtrTo k l[j].1 l[j].2 (a.eval xs[j]) := by
  intro xs
  induction xs with
  | nil => intro l h; simp only [capsA, Option.some.injEq] at h; subst h; exact ⟨rfl, fun j h => absurd h (by simp)⟩
  | cons x r ih =>
    intro l h
    simp only [capsA] at h
    split at h
    · rename_i n off l' hx hl
      simp only [Option.some.injEq] at h
      subst h
      obtain ⟨h1, h2⟩ := ih l' hl
      refine ⟨by simp [h1], fun j hj hj' => ?_⟩
      cases j with
      | zero =>
        have := rdC_rel hf ha x (by rw [hx]; simp)
        rw [hx] at this
        exact this
      | succ j => simpa using h2 j (by simpa using hj) (by simpa using hj')
    · cases h

theorem rdC_rel' {k : Kx} {fr : Fr} {tmps : Array Value} (hf : FRel k fr tmps) {a : Act} (ha : a.tmps = tmps) (x : Operand) : rdC fr x ≠ .undef → CRel k (rdC fr x) (a.eval x) := rdC_rel hf ha x

theorem run_equalIn_nilS {P : Program} (w : World) (d : Nat) (t e : TypeId) (a : Option Addr) (n c : Nat) (h : P.underlying t = some (.slice e)) : (Op.equalIn (d + 1) t (.slice a n c) (.slice none 0 0)).run P w = .ok a.isNone w := by
  cases a <;> simp [Op.equalIn, run_under w h]

theorem run_part_one {P : Program} (w : World) {t : TypeId} {cs : Array Value} {off : Nat} {v : Value} {c e : Cell} {b : Bool} (ht : eqC (P.underlying t) c e = some b) (hv : cs[off]? = some v) : (part t cs off).run P w = .ok v w := by
  unfold part
  have : (isAgg t).run P w = .ok false w := by
    unfold eqC at ht
    split at ht
    · rename_i hu; simp only [isAgg, Sem.run_bind, run_under w hu, Result.andThen_ok]; rfl
    · rename_i hu; simp only [isAgg, Sem.run_bind, run_under w hu, Result.andThen_ok]; rfl
    · rename_i hu; simp only [isAgg, Sem.run_bind, run_under w hu, Result.andThen_ok]; rfl
    · cases ht
  simp [Sem.run_bind, this, hv]

theorem eqC_sound {k : Kx} {P : Program} {t : TypeId} (d : Nat) {c e : Cell} {v u : Value} {b : Bool} (hv : CRel k c v) (hu : CRel k e u) (h : eqC (P.underlying t) c e = some b) : (Op.equalIn (d + 1) t v u).run P k.w = .ok b k.w := by
  unfold eqC at h
  split at h
  · rename_i k1 a k2 b' hd
    split at h
    · rename_i hk
      subst hk
      simp only [Option.some.injEq] at h
      subst h
      have h1 : [v] = [.int _ a] := hv.1
      have h2 : [u] = [.int _ b'] := hu.1
      simp only [List.cons.injEq, and_true] at h1 h2
      subst h1; subst h2
      rw [run_equalIn_int k.w d t _ _ a b' hd]
      rfl
    · cases h
  · rename_i a b' hd
    simp only [Option.some.injEq] at h
    subst h
    have h1 : [v] = [.bool a] := hv
    have h2 : [u] = [.bool b'] := hu
    simp only [List.cons.injEq, and_true] at h1 h2
    subst h1; subst h2
    exact run_equalIn_bool' k.w d t a b' hd
  · rename_i a b' hd
    simp only [Option.some.injEq] at h
    subst h
    obtain ⟨ba, h1, h3, _⟩ := hv
    obtain ⟨bb, h2, h4, _⟩ := hu
    simp only [List.cons.injEq, and_true] at h1 h2
    subst h1; subst h2; subst h3; subst h4
    rw [run_equalIn_string k.w d t ba bb hd]
    congr 1
    rw [Bool.eq_iff_iff]
    simp only [beq_iff_eq, decide_eq_true_eq]
    rw [bytesOf_inj, ByteArray.toList_eq, ByteArray.toList_eq]
  · cases h

theorem eqFields_sound {k : Kx} {P : Program} (d : Nat) {xs ys : Array Value} : ∀ (fs : List Field) (i : Nat) (cs es : List Cell) (b : Bool), CRels k cs (xs.toList.drop i) → CRels k es (ys.toList.drop i) → eqFs P i fs cs es = some b →
    (Op.eqFields (d + 1) xs ys fs).run P k.w = .ok b k.w := by
  intro fs
  induction fs with
  | nil =>
    intro i cs es b _ _ h
    cases cs with
    | nil =>
      cases es with
      | nil => simp only [eqFs, Option.some.injEq] at h; subst h; rfl
      | cons _ _ => simp [eqFs] at h
    | cons _ _ => simp [eqFs] at h
  | cons f r ih =>
    intro i cs es b hx hy h
    cases cs with
    | nil => simp [eqFs] at h
    | cons c cs =>
      cases es with
      | nil => simp [eqFs] at h
      | cons e es =>
        obtain ⟨v, vr, ev, hv, hvr⟩ := hx
        obtain ⟨u, ur, eu, hu, hur⟩ := hy
        simp only [eqFs] at h
        split at h
        · rename_i hok
          simp only [Bool.and_eq_true, decide_eq_true_eq] at hok
          obtain ⟨h1, h2⟩ := hok
          split at h
          · rename_i b1 b2 hb1 hb2
            simp only [Option.some.injEq] at h
            subst h
            have gx : xs[i]? = some v := by
              have : (xs.toList.drop i)[0]? = some v := by rw [ev]; rfl
              rw [List.getElem?_drop] at this
              simpa using this
            have gy : ys[i]? = some u := by
              have : (ys.toList.drop i)[0]? = some u := by rw [eu]; rfl
              rw [List.getElem?_drop] at this
              simpa using this
            have dx : xs.toList.drop (i + 1) = vr := by
              have := congrArg List.tail ev
              rw [List.tail_drop] at this
              exact this
            have dy : ys.toList.drop (i + 1) = ur := by
              have := congrArg List.tail eu
              rw [List.tail_drop] at this
              exact this
            simp only [Op.eqFields, if_pos h1, Sem.run_bind, h2, run_part_one k.w hb1 gx, run_part_one k.w hb1 gy, Result.andThen_ok, eqC_sound d hv hu hb1]
            cases b1 with
            | false => rfl
            | true =>
              simp only [Bool.not_true, Bool.false_eq_true, if_false, Bool.true_and]
              exact ih (i + 1) cs es b2 (by rw [dx]; exact hvr) (by rw [dy]; exact hur) hb2
          · cases h
        · cases h

theorem structOp_sound {k : Kx} {P : Program} {t : TypeId} {op : BinOp} {x y : Operand} {cx cy : AVal} {v u : Value} {b : Bool} (hx : ARel k cx v) (hy : ARel k cy u) (h : structOp P t op cx cy = some b) :
    ∃ z, (do eqGuard op t x y v u; binOp op t v u : Sem Value).run P k.w = .ok z k.w ∧ CRel k (.val .bool b) z := by
  unfold structOp at h
  split at h
  · rename_i hst
    simp only [Bool.and_eq_true] at hst
    split at h
    · rename_i fs hu
      split at h
      · rename_i hg
        simp only [Bool.and_eq_true, Bool.not_eq_true', decide_eq_true_eq] at hg
        obtain ⟨hs, he⟩ := hg
        have agg : ∀ (c : AVal) (q : Value), isStruct c = true → ARel k c q → ∃ vs : Array Value, q = .agg vs ∧ CRels k (cellsOf c) vs.toList := by
          intro c q hc hq
          cases c with
          | one c => cases hc
          | tup ps => cases hc
          | pure ty z =>
            obtain ⟨_, vs, e1, e2⟩ := hq
            exact ⟨vs, e1, (flat_rel ty z vs.toList).1 e2⟩
          | agg cs =>
            obtain ⟨vs, e1, e2⟩ := hq
            exact ⟨vs, e1, e2⟩
        obtain ⟨xs, ex, hxs⟩ := agg cx v hst.1 hx
        obtain ⟨ys, ey, hys⟩ := agg cy u hst.2 hy
        subst ex; subst ey
        have hfo : P.fieldsOf t = fs := by simp [Program.fieldsOf, hu]
        have ht : P.underlying t = some (.struct (P.fieldsOf t)) := by rw [hfo]; exact hu
        have key : ∀ b', eqFs P 0 fs.toList (cellsOf cx) (cellsOf cy) = some b' → (Op.equalIn 10000 t (.agg xs) (.agg ys)).run P k.w = .ok b' k.w := by
          intro b' hb
          rw [run_equalIn_struct k.w 9999 t xs ys ht hs, hfo]
          exact eqFields_sound 9998 fs.toList 0 _ _ b' (by simpa using hxs) (by simpa using hys) hb
        split at h
        · rename_i b' hb
          simp only [Option.some.injEq] at h
          subst h
          refine ⟨.bool b', ?_, rfl⟩
          simp only [Sem.run_bind, run_eqGuard_agg k.w _ t x y xs ys he, Result.andThen_ok, run_eql_struct, key b' hb]
        · rename_i b' hb
          simp only [Option.some.injEq] at h
          subst h
          refine ⟨.bool (!b'), ?_, rfl⟩
          simp only [Sem.run_bind, run_eqGuard_agg k.w _ t x y xs ys he, Result.andThen_ok, run_neq_struct, key b' hb]
        · cases h
      · cases h
    · cases h
  · cases h

theorem nilOp_sound {k : Kx} {P : Program} {t : TypeId} {op : BinOp} {x y : Operand} {cx cy : Cell} {v u : Value} {b : Bool} (hx : cx ≠ .undef → CRel k cx v) (hy : cy ≠ .undef → CRel k cy u) (h : nilOp P t op cx cy = some b) :
    ∃ z, (do eqGuard op t x y v u; binOp op t v u : Sem Value).run P k.w = .ok z k.w ∧ CRel k (.val .bool b) z := by
  unfold nilOp at h
  split at h
  · rename_i b' e xs
    obtain ⟨_, a, n, c, e1, e2⟩ := hx (by simp)
    have e3 : u = .slice none 0 0 := hy (by simp)
    subst e1; subst e3
    split at h
    · rename_i el hu
      simp only [Option.some.injEq] at h
      subst h
      refine ⟨.bool a.isNone, ?_, by rw [e2]; rfl⟩
      have hg : (eqGuard .eql t x y (.slice a n c) (.slice none 0 0)).run P k.w = .ok () k.w := rfl
      simp only [Sem.run_bind, hg, Result.andThen_ok, binOp]
      simp [Op.equal, Op.maxDepth, run_equalIn_nilS k.w 9999 t el a n c hu]
    · rename_i el hu
      simp only [Option.some.injEq] at h
      subst h
      refine ⟨.bool (!a.isNone), ?_, by rw [e2]; rfl⟩
      have hg : (eqGuard .neq t x y (.slice a n c) (.slice none 0 0)).run P k.w = .ok () k.w := rfl
      simp only [Sem.run_bind, hg, Result.andThen_ok, binOp]
      simp [Op.equal, Op.maxDepth, run_equalIn_nilS k.w 9999 t el a n c hu]
    · cases h
  · cases h

theorem run_equalIn_ifc {P : Program} (w : World) (d : Nat) (t : TypeId) {ms : Array (String × TypeId)} (v : Value) (b : Bool) (h : P.underlying t = some (.interface ms)) (hv : (b = true ∧ v = .nilIface) ∨ (b = false ∧ ∃ t p, v = .iface t p)) : (Op.equalIn (d + 1) t v .nilIface).run P w = .ok b w := by
  rcases hv with ⟨hb, hv⟩ | ⟨hb, t', p, hv⟩ <;> subst hb <;> subst hv <;> simp [Op.equalIn, run_under w h]

theorem ifcOp_sound {k : Kx} {P : Program} {t : TypeId} {op : BinOp} {x y : Operand} {cx : Cell} {v u : Value} {b : Bool} (hx : cx ≠ .undef → CRel k cx v) (hy : y = .const .nilIface → u = .nilIface) (h : ifcOp P t op cx y = some b) :
    ∃ z, (do eqGuard op t x y v u; binOp op t v u : Sem Value).run P k.w = .ok z k.w ∧ CRel k (.val .bool b) z := by
  unfold ifcOp at h
  split at h
  · rename_i b'
    have e1 := hx (by simp)
    have e3 : u = .nilIface := hy rfl
    subst e3
    have e1 : (b' = true ∧ v = .nilIface) ∨ (b' = false ∧ ∃ t p, v = .iface t p) := e1
    have hg : ∀ op, (eqGuard op t x (.const .nilIface) v .nilIface).run P k.w = .ok () k.w := by
      intro op
      rcases e1 with ⟨_, hv⟩ | ⟨_, t', p, hv⟩ <;> subst hv <;> cases op <;> first | rfl | (cases x <;> rfl) | (cases x <;> simp [eqGuard])
    split at h
    · rename_i ms hu
      simp only [Option.some.injEq] at h
      subst h
      refine ⟨.bool b', ?_, rfl⟩
      simp only [Sem.run_bind, hg, Result.andThen_ok]
      have hq := run_equalIn_ifc k.w 9999 t v b' hu e1
      rcases e1 with ⟨_, hv⟩ | ⟨_, t', p, hv⟩ <;> subst hv <;> simp [binOp, Op.equal, Op.maxDepth, hq]
    · rename_i ms hu
      simp only [Option.some.injEq] at h
      subst h
      refine ⟨.bool (!b'), ?_, rfl⟩
      simp only [Sem.run_bind, hg, Result.andThen_ok]
      have hq := run_equalIn_ifc k.w 9999 t v b' hu e1
      rcases e1 with ⟨_, hv⟩ | ⟨_, t', p, hv⟩ <;> subst hv <;> simp [binOp, Op.equal, Op.maxDepth, hq]
    · cases h
  · cases h

theorem step_sound {E : Env} (hE : EnvOK E) {N : Nat} {k : Kx} {fr : Fr} {a : Act} (hk : HRel N k) (hf : FRel k fr a.tmps) (hN : N ≤ k.w.heap.size) {o : Oper} {out : Out}
    (h : stepA E (hget k.hp) fr k.nx o.op = some out) (ht : out.test = true) : Done E N k fr a.tmps out (execOp a.eval o) := by
  obtain ⟨dst, op, ty, pos, after, guard⟩ := o
  simp only at h
  unfold stepA at h
  have rc := rdC_rel' hf (a := a) rfl
  have rv := rd_rel hf (a := a) rfl
  split at h
  · simp only [Option.some.injEq] at h; subst h; exact Done.pure hk hf (rv _)
  · simp only [Option.some.injEq] at h; subst h; exact Done.pure hk hf (rv _)
  · split at h
    · rename_i hbld
      simp only [Option.some.injEq] at h; subst h
      exact (alloc_bld_sound hk hf hN hbld).value
    split at h
    · rename_i t ty' hty
      split at h
      · simp only [Option.some.injEq] at h; subst h
        exact (alloc_sound hE hk hf hN hty).value
      · cases h
    · cases h
  · split at h
    · rename_i hkn
      simp only [Bool.and_eq_true] at hkn
      simp only [Option.some.injEq] at h; subst h
      exact (box_sound hk hf hN (rv _) hkn.1 hkn.2).value
    · cases h
  · exact (build_sound hE hk hf rfl h).value
  · exact (buildSlice_sound hE hk hf hN rfl h).value
  · exact (load_sound hE hk hf (rc _) h ht).value
  · exact (store_sound hE hk hf hN (rc _) (rv _) h ht).skip
  · rename_i x
    have hc := rc x
    split at h
    · rename_i n off hx
      simp only [cell, Option.some.injEq] at h; subst h
      rw [hx] at hc
      have hc := hc (by simp)
      obtain ⟨ad, hv⟩ := hc.1.2
      have : execOp a.eval ⟨dst, .nilCheck x, ty, pos, after, guard⟩ = Pure.pure (.value (a.eval x)) := by simp only [execOp, hv]
      rw [this]
      exact Done.pure hk hf (Or.inr hc)
    · rename_i t y off hx
      simp only [cell, Option.some.injEq] at h; subst h
      rw [hx] at hc
      have hc := hc (by simp)
      obtain ⟨B, o', row, T, fz, hv, _⟩ := id hc
      have : execOp a.eval ⟨dst, .nilCheck x, ty, pos, after, guard⟩ = Pure.pure (.value (a.eval x)) := by simp only [execOp, hv]
      rw [this]
      exact Done.pure hk hf (Or.inr hc)
    · rename_i n e i off hx
      simp only [cell, Option.some.injEq] at h; subst h
      rw [hx] at hc
      have hc := hc (by simp)
      obtain ⟨ad, hv⟩ := hc.1.2
      have : execOp a.eval ⟨dst, .nilCheck x, ty, pos, after, guard⟩ = Pure.pure (.value (a.eval x)) := by simp only [execOp, hv]
      rw [this]
      exact Done.pure hk hf (Or.inr hc)
    · rename_i f caps hx
      simp only [cell, Option.some.injEq] at h; subst h
      rw [hx] at hc
      have hc := hc (by simp)
      obtain ⟨vs, hv, _⟩ := id hc
      have : execOp a.eval ⟨dst, .nilCheck x, ty, pos, after, guard⟩ = Pure.pure (.value (a.eval x)) := by simp only [execOp, hv]
      rw [this]
      exact Done.pure hk hf (Or.inr hc)
    · cases h
  · rename_i op' t x y yt
    split at h
    · rename_i b hno
      simp only [cell, Option.some.injEq] at h; subst h
      obtain ⟨z, hz, hr⟩ := nilOp_sound (x := x) (y := y) (rc x) (rc y) hno
      exact (OK.quiet (E := E) (a := .one (.val .bool b)) hk hf hz (Or.inr hr)).value
    rename_i hno
    split at h
    · rename_i b hio
      simp only [cell, Option.some.injEq] at h; subst h
      obtain ⟨z, hz, hr⟩ := ifcOp_sound (x := x) (y := y) (u := a.eval y) (rc x) (fun e => by rw [e]; rfl) hio
      exact (OK.quiet (E := E) (a := .one (.val .bool b)) hk hf hz (Or.inr hr)).value
    split at h
    · rename_i b hso
      simp only [cell, Option.some.injEq] at h; subst h
      obtain ⟨z, hz, hr⟩ := structOp_sound (x := x) (y := y) (rv x) (rv y) hso
      exact (OK.quiet (E := E) (a := .one (.val .bool b)) hk hf hz (Or.inr hr)).value
    cases hb : binOpA (boolT E.P t) op' (rdC fr x) (rdC fr y) with
    | none => rw [hb] at h; cases h
    | some r =>
      rw [hb] at h
      simp only [Option.map_some, Option.some.injEq] at h; subst h
      obtain ⟨z, hz, hr⟩ := binOp_sound (x := x) (y := y) (rc x) (rc y) hb ht
      exact (OK.quiet (E := E) (a := .one r.2) hk hf hz (Or.inr hr)).value
  · rename_i op' t x
    cases hb : unOpA op' (rdC fr x) with
    | none => rw [hb] at h; cases h
    | some r =>
      rw [hb] at h
      simp only [Option.map_some, Option.some.injEq] at h; subst h
      obtain ⟨z, hz, hr⟩ := unOp_sound (P := E.P) (rc x) hb
      exact (OK.quiet (E := E) (a := .one r) hk hf hz (Or.inr hr)).value
  · exact (convert_sound hE hk hf hN (rc _) h ht).value
  · rename_i t x
    split at h
    · cases h
    · rename_i d hd hni
      simp only [Option.some.injEq] at h; subst h
      refine (OK.quiet (E := E) (a := .one .undef) (v := .iface t (a.eval x)) hk hf ?_ (Or.inl rfl)).value
      simp only [Instr.makeInterface, Sem.run_bind, run_under k.w hni, Result.andThen_ok]
      cases d <;> first | rfl | (exact absurd rfl (hd _))
    · cases h
  · rename_i f first caps
    split at h
    · rename_i hfs
      cases hcp : capsA fr caps.toList with
      | none => rw [hcp] at h; cases h
      | some l =>
        rw [hcp] at h
        simp only [Option.map_some, Option.some.injEq] at h; subst h
        obtain ⟨h1, h2⟩ := capsA_rel hf (a := a) rfl _ _ hcp
        have hf0 : first = #[] := Array.eq_empty_of_size_eq_zero hfs
        subst hf0
        refine (OK.quiet (E := E) (a := .one (.fn f l)) (v := .func (.func f) #[] (caps.map a.eval)) hk hf ?_ (Or.inr ⟨caps.map a.eval, rfl, by simpa using h1, fun j hj hj' => ?_⟩)).value
        · simp [Instr.makeFunc]
        · have := h2 j hj (by simpa using hj')
          simpa using this
    · cases h
  · rename_i t l c
    split at h
    · rename_i l' c' hl hc
      obtain ⟨q, e1, _⟩ := intAt_rel hf (a := a) rfl hl
      obtain ⟨q', e2, _⟩ := intAt_rel hf (a := a) rfl hc
      have := (make_sound hE hk hf hN (q := q) (q' := q') h ht).value
      rw [← e1, ← e2] at this
      exact this
    · cases h
  · exact (slice_sound hk hf rfl (rc _) h ht).value
  · exact (field_sound hk hf (rc _) h).value
  · exact (fieldV_sound hk hf (rv _) h).value
  · rename_i t x i
    split at h
    · rename_i n hi
      obtain ⟨q, e1, _⟩ := intAt_rel hf (a := a) rfl hi
      have := (indexAddr_sound hk hf (q := q) (rc x) h ht).value
      rw [← e1] at this
      exact this
    · cases h
  · rename_i t x i
    split at h
    · rename_i n hi
      obtain ⟨q, e1, _⟩ := intAt_rel hf (a := a) rfl hi
      have := (index_sound hk hf (q := q) (rv x) h ht).value
      rw [← e1] at this
      exact this
    · cases h
  · rename_i t i
    have hv := rv t
    split at h
    · rename_i ps hps
      rw [hps] at hv
      obtain ⟨vs, e1, hp⟩ := hv
      split at h
      · rename_i agg cs hi
        simp only [Option.some.injEq] at h; subst h
        have key : ∀ (ps : List (Bool × List Cell)) (vs : List Value) (i : Nat), PRels k ps vs → ps[i]? = some (agg, cs) → ∃ v, vs[i]? = some v ∧ PRel k agg cs v := by
          intro ps
          induction ps with
          | nil => intro vs i _ h; simp at h
          | cons p ps ih =>
            intro vs i h h'
            obtain ⟨v, r, e, h1, h2⟩ := h
            subst e
            cases i with
            | zero => simp at h'; subst h'; exact ⟨v, rfl, h1⟩
            | succ i => simp at h'; simpa using ih r i h2 h'
        obtain ⟨v, hvi, hpr⟩ := key ps vs.toList i hp hi
        refine (OK.quiet (E := E) (v := v) hk hf ?_ ?_).value
        · simp only [e1, Instr.extract]
          have : vs[i]? = some v := by simpa using hvi
          rw [this]; rfl
        · unfold PRel at hpr
          unfold mkV
          cases agg with
          | true => exact hpr
          | false =>
            obtain ⟨c, e2, h1⟩ := hpr
            subst e2
            exact h1.imp id And.left
      · cases h
    · cases h
  · exact (makeMap_sound hk hf hN h).value
  · exact (lookup_sound hE hk hf (rc _) (rc _) h).value
  · exact (mapUpdate_sound hk hf hN (rc _) (rc _) (rv _) h).skip
  · exact (mapUpdate_sound hk hf hN (rc _) (rc _) (rv _) h).skip
  · rename_i b args ats
    unfold builtinA at h
    split at h
    · rename_i x t r ea et
      have ha : args = #[x] := by apply Array.ext'; simpa using ea
      have ht0 : ats[0]? = some t := by rw [← Array.getElem?_toList, et]; rfl
      subst ha
      split at h
      · have := (mapLen_sound (ty := ty) hk hf ht0 (rc x) h ht).value
        simpa [execOp, resolve, invoke, builtin] using this
      · cases hl : lenA E (hget k.hp) t (rdC fr x) with
        | none => rw [hl] at h; cases h
        | some n =>
          rw [hl] at h
          simp only [Option.map_some, Option.some.injEq] at h; subst h
          obtain ⟨h1, h2⟩ := len_sound (ty := ty) hk ht0 (rc x) hl
          have := (OK.quiet (E := E) (t := true) (a := .one (.val (.int .i64) n)) hk hf h1 (Or.inr ⟨rfl, h2⟩)).value
          simpa [execOp, resolve, invoke, builtin] using this
    · rename_i x y t u r ea et
      have ha : args = #[x, y] := by apply Array.ext'; simpa using ea
      have ht0 : ats[0]? = some t := by rw [← Array.getElem?_toList, et]; rfl
      have ht1 : ats[1]? = some u := by rw [← Array.getElem?_toList, et]; rfl
      subst ha
      split at h
      · rename_i hu
        have := (append_sound (ty := ty) hE hk hf hN ht0 ht1 hu (rc x) (rc y) h ht).value
        simpa [execOp, resolve, invoke, builtin] using this
      · split at h
        · rename_i hu
          have := (grow_sound (ty := ty) hE hk hf hN ht0 ht1 hu (rc x) (rc y) h ht).value
          simpa [execOp, resolve, invoke, builtin] using this
        · cases h
    · rename_i x t r ea et
      have ha : args = #[x] := by apply Array.ext'; simpa using ea
      have ht0 : ats[0]? = some t := by rw [← Array.getElem?_toList, et]; rfl
      subst ha
      split at h
      · rename_i el hse hx
        simp only [Option.some.injEq] at h; subst h
        have hu : E.P.underlying t = some (.slice el) := by
          unfold sliceElem at hse
          split at hse
          · simp at hse; subst hse; assumption
          · cases hse
        have hv := rc x
        rw [hx] at hv
        have hv := hv (by simp)
        unfold CRel at hv
        have hr : (Builtin.cap_ ats ty #[a.eval x]).run E.P k.w = .ok (.int .i64 0) k.w := by
          rw [hv]
          simp [Builtin.cap_, ht0, run_underlying hu, goInt]
        have := (OK.quiet (E := E) (t := true) (a := .one (.val (.int .i64) 0)) hk hf hr (Or.inr ⟨rfl, by decide⟩)).value
        simpa [execOp, resolve, invoke, builtin] using this
      · cases h
    · rename_i x y t r ea et
      have ha : args = #[x, y] := by apply Array.ext'; simpa using ea
      have ht0 : ats[0]? = some t := by rw [← Array.getElem?_toList, et]; rfl
      subst ha
      have := (copy_sound (ty := ty) hE hk hf hN ht0 (rc x) (rc y) h).value
      simpa [execOp, resolve, invoke, builtin] using this
    · rename_i x t r ea et
      have ha : args = #[x] := by apply Array.ext'; simpa using ea
      have ht0 : ats[0]? = some t := by rw [← Array.getElem?_toList, et]; rfl
      subst ha
      have := (clear_sound (ty := ty) hE hk hf hN ht0 (rc x) h).value
      simpa [execOp, resolve, invoke, builtin] using this
    · rename_i at_ x r ea
      have ha : args = (x :: r).toArray := by apply Array.ext'; simpa using ea
      subst ha
      split at h
      · rename_i q n hx
        cases hfo : foldInts minI q n (r.map (rdC fr)) with
        | none => rw [hfo] at h; cases h
        | some m =>
          rw [hfo] at h
          simp only [Option.map_some, Option.some.injEq] at h; subst h
          have hc := rc x
          rw [hx] at hc
          obtain ⟨e1, e2⟩ := hc (by simp)
          simp only [List.cons.injEq, and_true] at e1
          obtain ⟨h1, h2⟩ := foldInts_sound (P := E.P) (w := k.w) (k := k) (f := minI) (g := Builtin.min2) (q := q) (fun a b q' => by simp [Builtin.min2, minI]) (fun a b => minI_ok) (r.map (rdC fr)) (r.map a.eval) n m (by simp) (fun i c v hc hv hne => by
            simp only [List.getElem?_map, Option.map_eq_some_iff] at hc hv
            obtain ⟨z, hz, rfl⟩ := hc
            obtain ⟨z', hz', rfl⟩ := hv
            rw [hz] at hz'
            cases hz'
            exact rc z hne) e2 hfo
          have := (OK.quiet (E := E) (t := true) (a := .one (.val (.int q) m)) hk hf h1 (Or.inr ⟨rfl, h2⟩)).value
          rw [← e1] at this
          simpa [execOp, resolve, invoke, builtin, Builtin.min_] using this
      · cases h
    · rename_i at_ x r ea
      have ha : args = (x :: r).toArray := by apply Array.ext'; simpa using ea
      subst ha
      split at h
      · rename_i q n hx
        cases hfo : foldInts maxI q n (r.map (rdC fr)) with
        | none => rw [hfo] at h; cases h
        | some m =>
          rw [hfo] at h
          simp only [Option.map_some, Option.some.injEq] at h; subst h
          have hc := rc x
          rw [hx] at hc
          obtain ⟨e1, e2⟩ := hc (by simp)
          simp only [List.cons.injEq, and_true] at e1
          obtain ⟨h1, h2⟩ := foldInts_sound (P := E.P) (w := k.w) (k := k) (f := maxI) (g := Builtin.max2) (q := q) (fun a b q' => by simp [Builtin.max2, maxI]) (fun a b => maxI_ok) (r.map (rdC fr)) (r.map a.eval) n m (by simp) (fun i c v hc hv hne => by
            simp only [List.getElem?_map, Option.map_eq_some_iff] at hc hv
            obtain ⟨z, hz, rfl⟩ := hc
            obtain ⟨z', hz', rfl⟩ := hv
            rw [hz] at hz'
            cases hz'
            exact rc z hne) e2 hfo
          have := (OK.quiet (E := E) (t := true) (a := .one (.val (.int q) m)) hk hf h1 (Or.inr ⟨rfl, h2⟩)).value
          rw [← e1] at this
          simpa [execOp, resolve, invoke, builtin, Builtin.max_] using this
      · cases h
    · cases h
  · cases h

end Go.Ab
