/-
  ONE OPERATION IS RIGHT: append and copy.
-/
import Derived.Test.YteekijpcdcpjkaaAbStep7
set_option linter.unusedVariables false
set_option linter.unusedSimpArgs false
namespace Go.Ab
open Go.RowKit (Below)

theorem ERel.take {w : World} {O : Nat → Prop} {e : Ty} {ys : List e.den} {us : List Value} (h : ERel w O e ys us) (m : Nat) (hm : m ≤ ys.length) : ERel w O e (ys.take m) (us.take (m * e.size)) := by
  have hb : m * e.size ≤ ys.length * e.size := Nat.mul_le_mul_right _ hm
  refine ⟨by rw [List.length_take, List.length_take, h.1, Nat.min_eq_left hb, Nat.min_eq_left hm], fun i hi => ?_⟩
  have hi' : i < m := by rw [List.length_take] at hi; omega
  have h1 := h.2 i (by omega)
  have hb2 : (i + 1) * e.size ≤ m * e.size := Nat.mul_le_mul_right _ (by omega)
  rw [Nat.add_mul] at hb2
  have e1 : (ys.take m)[i] = ys[i]'(by omega) := by simp
  rw [e1, List.drop_take, List.take_take, Nat.min_eq_left (by omega)]
  exact h1

/-- A slice that is read, as a run of elements, from its head on. -/
theorem slice_first {w : World} {O : Nat → Prop} {e : Ty} {ys : List e.den} {a : Option Addr} {n c : Nat} (h : VRel w O (.slice e) ys [.slice a n c]) :
    n = ys.length ∧ ∀ m, m ≤ n → ∃ us, ERel w O e (ys.take m) us ∧ ∀ (P : Program) (w' : World), w'.heap = w.heap → ((Builtin.firstCells e.size m (.slice a n c)).run P w' = .ok us.toArray w') := by
  obtain ⟨a', cap, e1, h1, h2, h3⟩ := h
  simp only [List.cons.injEq, Value.slice.injEq, and_true] at e1
  obtain ⟨ea, en, ec⟩ := e1
  subst ea; subst en; subst ec
  refine ⟨rfl, fun m hm => ?_⟩
  by_cases hx : ys = []
  · subst hx
    have hm : m = 0 := by simpa using hm
    subst hm
    refine ⟨[], ERel.nil _ _ _, fun P w' _ => ?_⟩
    cases a <;> simp [Builtin.firstCells, loadCells, loadCellsFrom]
  · obtain ⟨B, o, row, T, fz, e2, hO, hrow, hs, hv⟩ := h3 hx
    subst e2
    have hb : m * e.size ≤ ys.length * e.size := Nat.mul_le_mul_right _ hm
    refine ⟨part_ row o (m * e.size), ?_, fun P w' hw => ?_⟩
    · have := row_elems (cap := ys.length) (Nat.le_refl _) hs hv (lo := 0) (len := m) (by omega)
      simpa using this
    · simp only [Builtin.firstCells]
      exact run_cells_row w' B o _ row T fz (by rw [hw]; exact hrow) (by omega)

/-- The same of a block of the call's own. -/
theorem own_first {k : Kx} {n : Nat} {e : Ty} {xs : List e.den} {lo len : Nat} {v : Value} (hb : BRel k n (.arr e xs)) (hv : Hdr (k.μ n) e lo len v) (hle : lo + len ≤ xs.length) :
    ∃ a c, v = .slice a len c ∧ ∀ m, m ≤ len → ∃ us, ERel k.w k.O e (((xs.drop lo).take len).take m) us ∧ ∀ (P : Program) (w' : World), w'.heap = k.w.heap → ((Builtin.firstCells e.size m v).run P w' = .ok us.toArray w') := by
  have zero : ∀ (m : Nat) (a : Option Addr) (len c : Nat), m = 0 → ∃ us, ERel k.w k.O e (((xs.drop lo).take len).take m) us ∧ ∀ (P : Program) (w' : World), w'.heap = k.w.heap → ((Builtin.firstCells e.size m (.slice a len c)).run P w' = .ok us.toArray w') := by
    intro m a len c hm
    subst hm
    refine ⟨[], by simpa using ERel.nil _ _ _, fun P w' _ => ?_⟩
    cases a <;> simp [Builtin.firstCells, loadCells, loadCellsFrom]
  unfold BRel at hb
  cases hm : k.μ n with
  | none =>
    rw [hm] at hv hb
    obtain ⟨a, e1, e2⟩ := hv
    subst e2
    refine ⟨a, 0, e1, fun m hm => ?_⟩
    rw [e1]
    exact zero m a 0 0 (by omega)
  | at_ B o cap =>
    rw [hm] at hv hb
    obtain ⟨a, c, e1, h1, h2, h3⟩ := hv
    obtain ⟨row, E, fz, hrow, hfz, h4, h5, h6, h7⟩ := hb
    refine ⟨a, c, e1, fun m hm => ?_⟩
    rw [e1]
    by_cases hm0 : m = 0
    · exact zero m a len c hm0
    · have ha : a = some ⟨B, o + lo * e.size, none⟩ := by
        rcases h3 with h | h
        · exact h
        · omega
      have := (row_elems h4 h6 h7 (lo := lo) (len := len) hle).take m (by simp; omega)
      have hb1 : m * e.size ≤ len * e.size := Nat.mul_le_mul_right _ hm
      have hb2 : (lo + len) * e.size ≤ cap * e.size := Nat.mul_le_mul_right _ (by omega)
      rw [Nat.add_mul] at hb2
      refine ⟨_, this, fun P w' hw => ?_⟩
      have e2 : (part_ row (o + lo * e.size) (len * e.size)).take (m * e.size) = part_ row (o + lo * e.size) (m * e.size) := by
        simp only [part_, List.take_take]
        rw [Nat.min_eq_left hb1]
      rw [e2, ha]
      simp only [Builtin.firstCells]
      exact run_cells_row w' B _ _ row E fz (by rw [hw]; exact hrow) (by omega)

/-- What can be appended or copied from. -/
structure Src (k : Kx) (e : Ty) (ys : List e.den) (v : Value) : Prop where
  len : ∀ (P : Program) (w : World), (Builtin.lenOf v).run P w = .ok ys.length w
  first : ∀ m, m ≤ ys.length → ∃ us, ERel k.w k.O e (ys.take m) us ∧ ∀ (P : Program) (w' : World), w'.heap = k.w.heap → ((Builtin.firstCells e.size m v).run P w' = .ok us.toArray w')

theorem src_text (k : Kx) (s : ByteArray) : Src k (.int .u8) (bytesOf s) (.string s) := by
  have hlen : (bytesOf s).length = s.size := by simp [bytesOf]
  refine ⟨fun P w => by simp [Builtin.lenOf, hlen], fun m hm => ?_⟩
  refine ⟨((bytesOf s).take m).map (.int .u8 ·), ⟨by simp [Ty.size], fun i hi => ?_⟩, fun P w' _ => ?_⟩
  · have hi2 := hi
    simp only [List.length_take] at hi2
    simp only [Ty.size, Nat.mul_one]
    have hb : (((bytesOf s).take m)[i]'hi : Int) = (s.data.toList[i]'(by rw [hlen] at hi2; simp; omega)).toNat := by simp [bytesOf]
    refine ⟨?_, ?_⟩
    · rw [List.drop_eq_getElem_cons (by simpa using hi)]
      simp
    · rw [hb]; exact wrap_u8 _
  · simp only [Builtin.firstCells, Sem.run_pure]
    congr 1
    apply Array.ext'
    simp [bytesOf, ByteArray.data_extract]
    rfl

theorem val_src {k : Kx} {e : Ty} {ys : List e.den} {v : Value} (h : VRel k.w k.O (.slice e) ys [v]) : Src k e ys v := by
  obtain ⟨a, c, e1, h1, h2, h3⟩ := h
  simp only [List.cons.injEq, and_true] at e1
  subst e1
  have h' : VRel k.w k.O (.slice e) ys [.slice a ys.length c] := ⟨a, c, rfl, h1, h2, h3⟩
  exact ⟨fun P w => rfl, (slice_first h').2⟩

theorem own_src {k : Kx} {n : Nat} {e : Ty} {xs : List e.den} {lo len : Nat} {v : Value} (hb : BRel k n (.arr e xs)) (hv : Hdr (k.μ n) e lo len v) (hle : lo + len ≤ xs.length) : Src k e ((xs.drop lo).take len) v := by
  obtain ⟨a, c, e1, h1⟩ := own_first hb hv hle
  have hl : ((xs.drop lo).take len).length = len := by simp; omega
  refine ⟨fun P w => by rw [e1, hl]; rfl, ?_⟩
  rw [hl]; exact h1

theorem src_sound {N : Nat} {k : Kx} (hk : HRel N k) {e : Ty} {y : Cell} {v : Value} {ys : List e.den} (hc : y ≠ .undef → CRel k y v) (h : srcAs (hget k.hp) e y = some ys) : Src k e ys v := by
  have nil : ∀ v : Value, v = .slice none 0 0 → Src k e [] v := by
    intro v hv
    subst hv
    refine ⟨fun P w => rfl, fun m hm => ?_⟩
    have hm : m = 0 := by simpa using hm
    subst hm
    exact ⟨[], ERel.nil _ _ _, fun P w' _ => by simp [Builtin.firstCells]⟩
  have main : y ≠ .undef → cellAs (hget k.hp) (.slice e) y = some ys → Src k e ys v := by
    intro hne h
    have hc := hc hne
    cases y with
    | val t x =>
      simp only [cellAs] at h
      obtain ⟨e1, rfl⟩ := asTy_eq h
      subst e1
      exact val_src hc
    | nilS =>
      simp only [cellAs, Option.some.injEq] at h
      subst h
      exact nil v hc
    | own n e' =>
      simp only [cellAs] at h
      split at h
      · rename_i he
        subst he
        have hb := arrAs_eq h
        have := own_src (hk.blk n _ hb) (hc.2 ys hb) (by simp)
        simpa using this
      · cases h
    | sub n e' lo hi =>
      simp only [cellAs] at h
      split at h
      · rename_i he
        subst he
        cases hx : arrAs e' (hget k.hp n) with
        | none => rw [hx] at h; cases h
        | some xs =>
          rw [hx] at h
          simp only [Option.map_some, Option.some.injEq] at h
          subst h
          have hb := arrAs_eq hx
          obtain ⟨h0, h1, h2, h3⟩ := hc.2 xs hb
          exact own_src (hk.blk n _ hb) h3 (by omega)
      · cases h
    | clip e' xs =>
      simp only [cellAs] at h
      split at h
      · rename_i he
        subst he
        simp only [Option.some.injEq] at h
        subst h
        obtain ⟨a, _, hv⟩ := hc
        exact val_src hv
      · cases h
    | _ => simp [cellAs] at h
  cases y with
  | undef => simp [srcAs, cellAs] at h
  | val t x =>
    cases t with
    | str =>
      simp only [srcAs] at h
      obtain ⟨e1, rfl⟩ := asTy_eq h
      simp only [Ty.slice.injEq] at e1
      subst e1
      obtain ⟨ba, e2, e3, _⟩ := hc (by simp)
      simp only [List.cons.injEq, and_true] at e2
      subst e2
      have e3 : x = bytesOf ba := e3
      subst e3
      exact src_text k ba
    | _ => exact main (by simp) h
  | _ => exact main (by simp) h

/-! ### append -/
theorem seqT_spec {P : Program} {u : TypeId} (h : seqT P u = true) : (∃ d, P.underlying u = some (.slice d)) ∨ P.underlying u = some .string := by
  unfold seqT at h
  split at h
  · rename_i x hx; exact Or.inl ⟨_, hx⟩
  · rename_i hx; exact Or.inr hx
  · cases h

/-- With room in the row. -/
theorem run_append_fit {P : Program} {w : World} {t u ty el : TypeId} {i : TypeInfo} (ht : P.underlying t = some (.slice el)) (hu : seqT P u = true) (hi : P.info? el = some i)
    {base : Option Addr} {sLen sCap n : Nat} {y : Value} {news : List Value} (hn : (Builtin.lenOf y).run P w = .ok n w) (hf : (Builtin.firstCells i.size n y).run P w = .ok news.toArray w) (hfit : sLen + n ≤ sCap) {w' : World}
    (hst : (match base with | some a => storeCells (a.add (sLen * i.size)) news | none => pure ()).run P w = .ok () w') {ats : Array TypeId} (h0 : ats[0]? = some t) (h1 : ats[1]? = some u) :
    (Builtin.append_ ats ty #[.slice base sLen sCap, y]).run P w = .ok (.slice base (sLen + n) sCap) w' := by
  cases base with
  | none =>
    simp only [Sem.run_pure, Result.ok.injEq, true_and] at hst
    subst hst
    rcases seqT_spec hu with ⟨d, hd⟩ | hd <;> simp [Builtin.append_, h0, h1, run_underlying ht, run_underlying hd, sizeOf, typeInfo, hi, hn, hfit, hf]
  | some a =>
    simp only at hst
    rcases seqT_spec hu with ⟨d, hd⟩ | hd <;> simp [Builtin.append_, h0, h1, run_underlying ht, run_underlying hd, sizeOf, typeInfo, hi, hn, hfit, hf, hst]

/-- Without. -/
theorem run_append_new {P : Program} {w : World} {t u ty el : TypeId} {i : TypeInfo} {z : Value} (ht : P.underlying t = some (.slice el)) (hu : seqT P u = true) (hi : P.info? el = some i) (hz : i.zero = some z)
    {base : Option Addr} {sLen sCap n : Nat} {y : Value} {olds news : List Value} (hn : (Builtin.lenOf y).run P w = .ok n w) (hf : ∀ w', w'.heap = w.heap → (Builtin.firstCells i.size n y).run P w' = .ok news.toArray w')
    (ho : ∀ w', w'.heap = w.heap → (Builtin.firstCells i.size sLen (.slice base sLen sCap)).run P w' = .ok olds.toArray w') (hg : sCap < sLen + n) (hroom : (sLen + n) * i.bytes ≤ 140737488355328) (hmax : sLen + n ≤ 140737488355328)
    {ats : Array TypeId} (h0 : ats[0]? = some t) (h1 : ats[1]? = some u) :
    (Builtin.append_ ats ty #[.slice base sLen sCap, y]).run P w = .ok (.slice (some ⟨w.heap.size, 0, none⟩) (sLen + n) (grownCap w (sLen + n) sCap el))
      (w.drew.alloc (.cells ((olds ++ news).toArray ++ Builtin.zeroCells z.cells (grownCap w (sLen + n) sCap el - (sLen + n))) el)) := by
  have hn' : ¬ (sLen + n ≤ sCap) := by omega
  have h63' : ¬ (9223372036854775807 < ((sLen : Int) + (n : Int))) := by omega
  have h48 := growslice_fits hg hroom
  have h48' : ¬ (281474976710656 < Builtin.nextslicecap (sLen + n) sCap * i.bytes) := by omega
  rcases seqT_spec hu with ⟨d, hd⟩ | hd <;> simp [Builtin.append_, h0, h1, run_underlying ht, run_underlying hd, sizeOf, typeInfo, zeroValue, hi, hz, hn, hn', h63', h48', Question.forced, hf w.drew rfl, ho w.drew rfl, newRow, grownCap]
  all_goals
    congr 2
    apply Array.ext'
    simp [List.append_assoc]

theorem append_sound {E : Env} (hE : EnvOK E) {N : Nat} {k : Kx} {fr : Fr} {tmps : Array Value} (hk : HRel N k) (hf : FRel k fr tmps) (hN : N ≤ k.w.heap.size) {t u ty : TypeId} {x y : Cell} {v v2 : Value} {ats : Array TypeId} {out : Out}
    (h0 : ats[0]? = some t) (h1 : ats[1]? = some u) (hu : seqT E.P u = true) (hx : x ≠ .undef → CRel k x v) (hy : y ≠ .undef → CRel k y v2) (h : appendA E (hget k.hp) k.nx t x y = some out) (htest : out.test = true) :
    OK E N k fr tmps out (Builtin.append_ ats ty #[v, v2]) := by
  unfold appendA at h
  cases hse : sliceElem E.P t with
  | none => rw [hse] at h; cases h
  | some el =>
    rw [hse] at h
    simp only at h
    have ht : E.P.underlying t = some (.slice el) := by
      unfold sliceElem at hse
      split at hse
      · simp at hse; subst hse; assumption
      · cases hse
    cases hty : E.ty el with
    | none => rw [hty] at h; cases h
    | some e =>
      rw [hty] at h
      simp only at h
      cases hsrc : srcAs (hget k.hp) e y with
      | none => rw [hsrc] at h; cases h
      | some ys =>
        rw [hsrc] at h
        simp only at h
        have hs := src_sound hk hy hsrc
        obtain ⟨i, z, hi, hz, hzc, hsz, _⟩ := hE el e hty
        have hb := bytesOf_info hi
        have hzs : z.cells.size = e.size := by rw [← Array.length_toList, hzc, ← zeros_len, (zeros_rel k e).len]
        obtain ⟨us, hus, hrun⟩ := hs.first ys.length (Nat.le_refl _)
        rw [List.take_length] at hus
        -- a new row
        have grow : ∀ (base : Option Addr) (xs : List e.den) (sCap : Nat) (olds : List Value) (rm : Option Nat), v = .slice base xs.length sCap → ERel k.w k.O e xs olds →
            (∀ w', w'.heap = k.w.heap → (Builtin.firstCells e.size xs.length v).run E.P w' = .ok olds.toArray w') → sCap < xs.length + ys.length → roomFor (xs.length + ys.length) (E.P.bytesOf el) = true →
            (∀ n, rm = some n → ∃ b, hget k.hp n = some b) → ∀ b : Bool,
            OK E N k fr tmps { test := b, v := .one (.own k.nx e), acts := rmActs rm ++ [.put k.nx (.arr e (xs ++ ys))], made := 1 } (Builtin.append_ ats ty #[v, v2]) := by
          intro base xs sCap olds rm hv hxs hold hgt hroom hrm b
          subst hv
          rw [roomFor_iff, hb] at hroom
          rw [hsz] at hold hrun
          have hr := run_append_new (w := k.w) (ty := ty) ht hu hi hz (hs.len E.P k.w) (fun w' hw => hrun E.P w' hw) hold hgt hroom.1 hroom.2 h0 h1
          have hge := grownCap_ge k.w (xs.length + ys.length) sCap el
          have hle := grownCap_le_maxLen k.w (xs.length + ys.length) sCap el (by simp only [maxLen]; omega)
          have hers := hxs.append hus
          have hlen := hers.1
          refine OK.newArr (fz := []) (rm := rm) (us := olds ++ us) (T := el) (row := (olds ++ us).toArray ++ Builtin.zeroCells z.cells (grownCap k.w (xs.length + ys.length) sCap el - (xs.length + ys.length))) (w' := k.w.drew.alloc (.cells ((olds ++ us).toArray ++ Builtin.zeroCells z.cells (grownCap k.w (xs.length + ys.length) sCap el - (xs.length + ys.length))) el)) (fro := (0, 0)) (cap := grownCap k.w (xs.length + ys.length) sCap el) hk hf hN hrm rfl (unfrozen0 _) ⟨rfl, rfl, rfl⟩ (by rw [List.length_append]; exact hr) hers ?_ (by rw [List.length_append]; exact hge) (by simp only [maxLen] at hle; simp only [MAXL]; omega) ?_
          · rw [← hlen]
            simp only [part_, List.drop_zero, Array.toList_append]
            exact List.take_left
          · rw [Array.size_append, size_zeroCells, hzs, List.size_toArray, hlen, ← Nat.add_mul, List.length_append]
            exact Nat.mul_le_mul_right _ (by omega)
        -- nothing to nothing
        have none_ : ∀ (base : Option Addr) (rm : Option Nat), v = .slice base 0 0 → ys = [] → (∀ n, rm = some n → ∃ b, hget k.hp n = some b) → ∀ b : Bool,
            OK E N k fr tmps { test := b, v := .one (.own k.nx e), acts := rmActs rm ++ [.put k.nx (.arr e [])], made := 1 } (Builtin.append_ ats ty #[v, v2]) := by
          intro base rm hv hys hrm b
          subst hv; subst hys
          rw [hsz] at hrun
          have hus0 : us = [] := List.eq_nil_of_length_eq_zero (by simpa using hus.1)
          subst hus0
          have hr := run_append_fit (w := k.w) (ty := ty) (base := base) (sLen := 0) (sCap := 0) ht hu hi (hs.len E.P k.w) (hrun E.P k.w rfl) (by simp) (w' := k.w) (by cases base <;> simp [storeCells]) h0 h1
          refine OK.new0 (rm := rm) (l := .none) (w' := k.w) hk hf ⟨hN, Nat.le_refl _, fun _ _ _ => rfl, hrm, fun B hB => by cases hB⟩ hr (fun _ => ?_) (fun _ => ?_) ⟨rfl, rfl, rfl⟩
          · unfold BRel
            rw [show (newK k k.w rm Loc.none (.arr e [])).μ k.nx = .none from upd_same _ _ _]
          · refine ⟨⟨Or.inr rfl, rfl⟩, fun xs hxs => ?_⟩
            rw [show (newK k k.w rm Loc.none (.arr e [])).μ k.nx = .none from upd_same _ _ _]
            simp only [newK, hget_hput, if_true, Option.some.injEq, Blk.arr.injEq] at hxs
            have := eq_of_heq hxs.2
            subst this
            exact ⟨base, by simp, rfl⟩
        -- a block of the call's own
        have own : ∀ (n : Nat) (xs : List e.den) (lo len : Nat), hget k.hp n = some (.arr e xs) → Hdr (k.μ n) e lo len v → lo + len ≤ xs.length → roomFor (((xs.drop lo).take len).length + ys.length) (E.P.bytesOf el) = true → ∀ b : Bool,
            OK E N k fr tmps { test := b, v := .one (.own k.nx e), acts := [.rem n, .put k.nx (.arr e ((xs.drop lo).take len ++ ys))], made := 1 } (Builtin.append_ ats ty #[v, v2]) := by
          intro n xs lo len hl hh hle hroom b
          have hbr := hk.blk n _ hl
          have hrm : ∀ m, some n = some m → ∃ b, hget k.hp m = some b := fun m hm => by cases hm; exact ⟨_, hl⟩
          have hlen : ((xs.drop lo).take len).length = len := by simp; omega
          obtain ⟨a, c, hv, hfst⟩ := own_first hbr hh hle
          obtain ⟨olds, hol, hof⟩ := hfst len (Nat.le_refl _)
          rw [List.take_of_length_le (by omega)] at hol
          by_cases hgt : c < len + ys.length
          · exact grow a _ c olds (some n) (by rw [hlen]; exact hv) hol (fun w' hw => by rw [hlen]; exact hof E.P w' hw) (by rw [hlen]; exact hgt) hroom hrm b
          · unfold BRel at hbr
            cases hμ : k.μ n with
            | none =>
              rw [hμ] at hh
              obtain ⟨a', e1, e2⟩ := hh
              rw [hv] at e1
              simp only [Value.slice.injEq] at e1
              have hys : ys = [] := List.eq_nil_of_length_eq_zero (by omega)
              have hxs : (xs.drop lo).take len = [] := by rw [e2]; simp
              subst hys
              rw [hxs]
              exact none_ a (some n) (by rw [hv, e2, e1.2.2]) rfl hrm b
            | at_ B o cap =>
              rw [hμ] at hh hbr
              obtain ⟨a', c', e1, g1, g2, g3⟩ := hh
              rw [hv] at e1
              simp only [Value.slice.injEq] at e1
              obtain ⟨e1, _, e2⟩ := e1
              subst e1; subst e2
              rcases g3 with g3 | g3
              · obtain ⟨row, T, fz, hrow, hfz, h4, h5, h6, h7⟩ := hbr
                have hus1 := hus.1
                rw [hsz] at hrun
                have hpos : 0 < e.size ∨ us = [] := by
                  rcases Nat.eq_zero_or_pos e.size with h | h
                  · right; exact List.eq_nil_of_length_eq_zero (by rw [hus1, h]; simp)
                  · exact Or.inl h
                have hb1 : (lo + c) * e.size ≤ cap * e.size := Nat.mul_le_mul_right _ (by omega)
                have hb2 : (len + ys.length) * e.size ≤ c * e.size := Nat.mul_le_mul_right _ (by omega)
                rw [Nat.add_mul] at hb1 hb2
                have hone : ∀ q ∈ us, q.oneCell' = true := by
                  rcases hpos with h | h
                  · exact hus.one h
                  · rw [h]; intro q hq; cases hq
                have hst := run_storeCells' E.P B (o + lo * e.size + len * e.size) T fz us 0 row k.w hrow hfz (by omega) hone
                simp only [Nat.add_zero] at hst
                have hr := run_append_fit (w := k.w) (ty := ty) (base := a) (sLen := len) (sCap := c) ht hu hi (hs.len E.P k.w) (hrun E.P k.w rfl) (by omega) (w' := k.w.setRow B (rowPut row (o + lo * e.size + len * e.size) us)) (by rw [g3]; simp only [add0]; rw [← hsz]; exact hst) h0 h1
                rw [← hv] at hr
                refine OK.new0 (rm := some n) (l := .at_ B (o + lo * e.size) c) hk hf ⟨hN, by simp, fun B' _ hB' => ?_, hrm, fun B' hB' => ?_⟩ hr (fun hx' => ?_) (fun hx' => ?_) (setRow_meta _ _ _)
                · exact setRow_other k.w B B' _ (fun e' => hB' n rfl (by rw [hμ, e']; rfl))
                · refine Or.inr ⟨n, rfl, ?_⟩
                  rw [hμ]; exact hB'
                · unfold BRel
                  rw [show (newK k (k.w.setRow B (rowPut row (o + lo * e.size + len * e.size) us)) (some n) (Loc.at_ B (o + lo * e.size) c) (.arr e ((xs.drop lo).take len ++ ys))).μ k.nx = .at_ B (o + lo * e.size) c from upd_same _ _ _]
                  have holds := row_elems h4 h6 h7 (lo := lo) (len := len) hle
                  have hall := hx'.e (holds.append hus)
                  refine ⟨rowPut row (o + lo * e.size + len * e.size) us, T, fz, setRow_heap k.w B row _ T _ hrow, ?_, by rw [List.length_append, hlen]; omega, by omega, by rw [rowPut_size (by omega)]; omega, ?_⟩
                  · intro j hj
                    rw [rowPut_size (by omega)] at hj
                    exact hfz j hj
                  · refine elems_row hall ?_
                    rw [List.length_append, hlen, Nat.add_mul]
                    rw [rowPut_part (by omega) (by omega)]
                    have e3 : (part_ row (o + lo * e.size) (len * e.size + ys.length * e.size)).take (len * e.size) = part_ row (o + lo * e.size) (len * e.size) := by
                      simp only [part_, List.take_take]
                      rw [Nat.min_eq_left (by omega)]
                    have e4 : (part_ row (o + lo * e.size) (len * e.size + ys.length * e.size)).drop (len * e.size + us.length) = [] := by
                      apply List.drop_eq_nil_of_le
                      rw [part_len (by omega)]
                      omega
                    rw [e3, e4, List.append_nil]
                · refine ⟨⟨Or.inr rfl, rfl⟩, fun xs' hxs => ?_⟩
                  rw [show (newK k (k.w.setRow B (rowPut row (o + lo * e.size + len * e.size) us)) (some n) (Loc.at_ B (o + lo * e.size) c) (.arr e ((xs.drop lo).take len ++ ys))).μ k.nx = .at_ B (o + lo * e.size) c from upd_same _ _ _]
                  simp only [newK, hget_hput, if_true, Option.some.injEq, Blk.arr.injEq] at hxs
                  have := eq_of_heq hxs.2
                  subst this
                  refine ⟨a, c, by rw [List.length_append, hlen], by rw [List.length_append, hlen]; omega, by omega, Or.inl ?_⟩
                  rw [g3]
                  simp
              · have hys : ys = [] := List.eq_nil_of_length_eq_zero (by omega)
                have hl0 : len = 0 := by omega
                have hxs : (xs.drop lo).take len = [] := by rw [hl0]; simp
                subst hys
                rw [hxs]
                exact none_ a (some n) (by rw [hv, hl0, g3]) rfl hrm b
        cases x with
        | nilS =>
          simp only [Option.some.injEq] at h
          subst h
          have hv : v = .slice none 0 0 := hx (by simp)
          by_cases hys : ys = []
          · subst hys
            exact none_ none none hv rfl (fun n hn => by cases hn) _
          · have hp : 0 < ys.length := List.length_pos_iff.2 hys
            have := grow none [] 0 [] none hv (ERel.nil _ _ _) (fun w' _ => by rw [hv]; simp [Builtin.firstCells]) (by simpa using hp) (by simpa using htest) (fun n hn => by cases hn) (roomFor ys.length (E.P.bytesOf el))
            exact this
        | own n e' =>
          simp only at h
          split at h
          · rename_i he
            subst he
            cases hxs : arrAs e' (hget k.hp n) with
            | none => rw [hxs] at h; cases h
            | some xs =>
              rw [hxs] at h
              simp only [Option.map_some, Option.some.injEq] at h
              subst h
              have hbl := arrAs_eq hxs
              have := own n xs 0 xs.length hbl ((hx (by simp)).2 xs hbl) (by simp) (by simpa using htest) (roomFor (xs.length + ys.length) (E.P.bytesOf el))
              simpa using this
          · cases h
        | sub n e' lo hi =>
          simp only at h
          split at h
          · rename_i he
            subst he
            cases hxs : arrAs e' (hget k.hp n) with
            | none => rw [hxs] at h; cases h
            | some xs =>
              rw [hxs] at h
              simp only [Option.map_some, Option.some.injEq] at h
              subst h
              have hbl := arrAs_eq hxs
              obtain ⟨q0, q1, q2, q3⟩ := (hx (by simp)).2 xs hbl
              exact own n xs lo.toNat (hi - lo).toNat hbl q3 (by omega) htest _
          · cases h
        | clip e' xs =>
          simp only at h
          cases hxs : asTy (.slice e) (.slice e') xs with
          | none => rw [hxs] at h; cases h
          | some xs' =>
            rw [hxs] at h
            simp only [Option.map_some, Option.some.injEq] at h
            obtain ⟨he, hxe⟩ := asTy_eq hxs
            simp only [Ty.slice.injEq] at he
            subst he
            have hxe : xs' = xs := hxe
            subst hxe
            subst h
            obtain ⟨a, hv, hvr⟩ := hx (by simp)
            simp only [Bool.and_eq_true, Bool.or_eq_true, decide_eq_true_eq] at htest
            by_cases hys : ys = []
            · subst hys
              have hx0 : xs' = [] := by
                rcases htest.2 with h | h
                · simp at h
                · exact List.eq_nil_of_length_eq_zero h
              subst hx0
              exact none_ a none hv rfl (fun n hn => by cases hn) _
            · have hp : 0 < ys.length := List.length_pos_iff.2 hys
              rw [hv] at hvr
              obtain ⟨_, hfst⟩ := slice_first hvr
              obtain ⟨olds, hol, hof⟩ := hfst xs'.length (Nat.le_refl _)
              rw [List.take_length] at hol
              exact grow a xs' xs'.length olds none hv hol (fun w' hw => by rw [hv]; exact hof E.P w' hw) (by omega) htest.1 (fun n hn => by cases hn) _
        | _ => simp at h

end Go.Ab
