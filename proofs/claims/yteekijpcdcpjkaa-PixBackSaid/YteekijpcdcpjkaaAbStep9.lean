/-
  ONE OPERATION IS RIGHT: copy, literals of structs, conversions, the least and the greatest.
-/
import Derived.Test.YteekijpcdcpjkaaAbStep8
import Derived.Laws.Tables
import Derived.Laws.IdiomStrings
import Derived.Laws.BytesArg
set_option linter.unusedVariables false
set_option linter.unusedSimpArgs false
namespace Go.Ab
open Go.RowKit (Below)

/-! ### copy -/
theorem ERel.drop {w : World} {O : Nat → Prop} {e : Ty} {ys : List e.den} {us : List Value} (h : ERel w O e ys us) (m : Nat) : ERel w O e (ys.drop m) (us.drop (m * e.size)) := by
  refine ⟨by rw [List.length_drop, List.length_drop, h.1, Nat.mul_sub_right_distrib], fun i hi => ?_⟩
  have hi' : m + i < ys.length := by rw [List.length_drop] at hi; omega
  have h1 := h.2 (m + i) hi'
  have e1 : (ys.drop m)[i] = ys[m + i] := by simp
  rw [e1, List.drop_drop, ← Nat.add_mul]
  exact h1

theorem over_len {α : Type} {xs ys : List α} {lo k : Nat} (h : lo + k ≤ xs.length) (h2 : k ≤ ys.length) : (over xs ys lo k).length = xs.length := by
  simp [over]; omega

theorem over_zero {α : Type} (xs ys : List α) (lo : Nat) : over xs ys lo 0 = xs := by simp [over]

theorem run_copy {P : Program} {w : World} {t ty el : TypeId} {i : TypeInfo} (ht : P.underlying t = some (.slice el)) (hi : P.info? el = some i)
    {base : Option Addr} {dLen dCap n : Nat} {y : Value} {news : List Value} (hn : (Builtin.lenOf y).run P w = .ok n w) (hf : (Builtin.firstCells i.size (Nat.min n dLen) y).run P w = .ok news.toArray w) {w' : World}
    (hst : (match base with | some a => storeCells a news | none => pure ()).run P w = .ok () w') {ats : Array TypeId} (h0 : ats[0]? = some t) :
    (Builtin.copy_ ats ty #[.slice base dLen dCap, y]).run P w = .ok (goInt (Nat.min n dLen)) w' := by
  cases base with
  | none =>
    simp only [Sem.run_pure, Result.ok.injEq, true_and] at hst
    subst hst
    simp [Builtin.copy_, h0, run_underlying ht, sizeOf, typeInfo, hi, hn, hf]
  | some a =>
    simp only at hst
    simp [Builtin.copy_, h0, run_underlying ht, sizeOf, typeInfo, hi, hn, hf, hst]

theorem copy_own {E : Env} (hE : EnvOK E) {N : Nat} {k : Kx} {fr : Fr} {tmps : Array Value} (hk : HRel N k) (hf : FRel k fr tmps) (hN : N ≤ k.w.heap.size) {t ty el : TypeId} {v v2 : Value} {ats : Array TypeId} {e : Ty} {ys xs : List e.den} {n lo len : Nat}
    (h0 : ats[0]? = some t) (ht : E.P.underlying t = some (.slice el)) (hty : E.ty el = some e) (hs : Src k e ys v2) (hl : hget k.hp n = some (.arr e xs)) (hh : Hdr (k.μ n) e lo len v) (hle : lo + len ≤ xs.length) :
    OK E N k fr tmps { test := true, v := .one (.val (.int .i64) ((min ys.length len : Nat) : Int)), acts := [.put n (.arr e (over xs ys lo (min ys.length len)))] } (Builtin.copy_ ats ty #[v, v2]) := by
  obtain ⟨i, z, hi, hz, hzc, hsz, _⟩ := hE el e hty
  obtain ⟨us, hus, hrun⟩ := hs.first (min ys.length len) (Nat.min_le_left _ _)
  have hbr := hk.blk n _ hl
  obtain ⟨a, c, hv, _⟩ := own_first hbr hh hle
  rw [hsz] at hrun
  have hxm : xs.length ≤ MAXL := by
    unfold BRel at hbr
    cases hμ : k.μ n with
    | none => rw [hμ] at hbr; have hbr : xs = [] := hbr; rw [hbr]; simp [MAXL]
    | at_ B o cap => rw [hμ] at hbr; obtain ⟨row, T, fz, _, _, h4, h5, _⟩ := hbr; omega
  have hval : ∀ k' : Kx, ARel k' (.one (.val (.int .i64) ((min ys.length len : Nat) : Int))) (goInt ((Nat.min ys.length len : Nat) : Int)) := fun k' => Or.inr ⟨rfl, wrap_nat (by omega)⟩
  have hmin : Nat.min ys.length len = min ys.length len := rfl
  by_cases hk0 : min ys.length len = 0
  · rw [hk0] at hus hrun ⊢
    have hus0 : us = [] := List.eq_nil_of_length_eq_zero (by simpa using hus.1)
    subst hus0
    have hr := run_copy (w := k.w) (ty := ty) (base := a) (dLen := len) (dCap := c) ht hi (hs.len E.P k.w) (w' := k.w) (news := []) (by rw [hmin, hk0]; exact hrun E.P k.w rfl) (by cases a <;> simp [storeCells]) h0
    rw [hmin, hk0, ← hv] at hr
    have hw : Write k k.w n (.arr e xs) (.arr e (over xs ys lo 0)) := ⟨hl, ⟨rfl, by rw [over_zero]⟩, rfl, fun _ _ => rfl⟩
    have hval0 := hval
    rw [hmin, hk0] at hval0
    refine OK.write hk hf hN [] hw hr (fun hx => ?_) (fun _ => hval0 _) ⟨rfl, rfl, rfl⟩
    rw [over_zero] at hx ⊢
    exact BRel.move hx rfl (fun _ _ => rfl) hbr
  · unfold BRel at hbr
    cases hμ : k.μ n with
    | none =>
      rw [hμ] at hh
      obtain ⟨a', e1, e2⟩ := hh
      exact absurd (by omega) hk0
    | at_ B o cap =>
      rw [hμ] at hh hbr
      obtain ⟨a', c', e1, g1, g2, g3⟩ := hh
      rw [hv] at e1
      simp only [Value.slice.injEq] at e1
      obtain ⟨e1, _, e2⟩ := e1
      subst e1; subst e2
      have g3 : a = some ⟨B, o + lo * e.size, none⟩ := by
        rcases g3 with h | h
        · exact h
        · omega
      obtain ⟨row, T, fz, hrow, hfz, h4, h5, h6, h7⟩ := hbr
      have hyl : ((ys.take (min ys.length len)) : List e.den).length = min ys.length len := by simp
      have hus1 : us.length = min ys.length len * e.size := by rw [hus.1, hyl]
      generalize hm : min ys.length len = m at *
      have hml : m ≤ len := by omega
      have hmy : m ≤ ys.length := by omega
      have hb0 : cap * e.size ≤ row.size := by omega
      have hb1 : (lo + m) * e.size ≤ xs.length * e.size := Nat.mul_le_mul_right _ (by omega)
      have hb2 : xs.length * e.size ≤ cap * e.size := Nat.mul_le_mul_right _ h4
      rw [Nat.add_mul] at hb1
      have hone : ∀ q ∈ us, q.oneCell' = true := by
        rcases Nat.eq_zero_or_pos e.size with h | h
        · have : us = [] := List.eq_nil_of_length_eq_zero (by rw [hus1, h]; simp)
          rw [this]; intro q hq; cases hq
        · exact hus.one h
      have hst := run_storeCells' E.P B (o + lo * e.size) T fz us 0 row k.w hrow hfz (by omega) hone
      simp only [Nat.add_zero] at hst
      have hr := run_copy (w := k.w) (ty := ty) (base := a) (dLen := len) (dCap := c) ht hi (hs.len E.P k.w) (news := us) (by rw [hmin]; exact hrun E.P k.w rfl) (w' := k.w.setRow B (rowPut row (o + lo * e.size) us)) (by rw [g3]; exact hst) h0
      rw [hmin, ← hv] at hr
      rw [hmin] at hval
      have hw : Write k (k.w.setRow B (rowPut row (o + lo * e.size) us)) n (.arr e xs) (.arr e (over xs ys lo m)) := write_row hl ⟨rfl, by rw [over_len (by omega) hmy]⟩ (by rw [hμ]; rfl) hrow
      refine OK.write hk hf hN [] hw hr (fun hx => ?_) (fun _ => hval _) (setRow_meta _ _ _)
      unfold BRel
      rw [show (putK (frzKs k []) (k.w.setRow B (rowPut row (o + lo * e.size) us)) n (.arr e (over xs ys lo m))).μ n = .at_ B o cap from hμ]
      have holds := row_elems h4 h6 h7 (lo := 0) (len := xs.length) (by omega)
      simp only [List.drop_zero, List.take_length, Nat.zero_mul, Nat.add_zero] at holds
      have hnew : ERel k.w k.O e (over xs ys lo m) (((part_ row o (xs.length * e.size)).take (lo * e.size) ++ us) ++ (part_ row o (xs.length * e.size)).drop ((lo + m) * e.size)) :=
        ((holds.take lo (by omega)).append hus).append (holds.drop (lo + m))
      have hall := hx.e hnew
      refine ⟨rowPut row (o + lo * e.size) us, T, fz, setRow_heap k.w B row _ T _ hrow, ?_, by rw [over_len (by omega) hmy]; exact h4, h5, by rw [rowPut_size (by omega)]; exact h6, ?_⟩
      · intro j hj
        rw [rowPut_size (by omega)] at hj
        exact hfz j hj
      · refine elems_row hall ?_
        rw [over_len (by omega) hmy, rowPut_part (by omega) (by omega), hus1, Nat.add_mul]

theorem copy_sound {E : Env} (hE : EnvOK E) {N : Nat} {k : Kx} {fr : Fr} {tmps : Array Value} (hk : HRel N k) (hf : FRel k fr tmps) (hN : N ≤ k.w.heap.size) {t ty : TypeId} {x y : Cell} {v v2 : Value} {ats : Array TypeId} {out : Out}
    (h0 : ats[0]? = some t) (hx : x ≠ .undef → CRel k x v) (hy : y ≠ .undef → CRel k y v2) (h : copyA E (hget k.hp) t x y = some out) :
    OK E N k fr tmps out (Builtin.copy_ ats ty #[v, v2]) := by
  unfold copyA at h
  cases hse : sliceElem E.P t with
  | none => rw [hse] at h; cases h
  | some el =>
    rw [hse] at h
    simp only at h
    have ht : E.P.underlying t = some (.slice el) := by
      unfold sliceElem at hse
      split at hse
      · simp at hse; subst hse; assumption
      · cases hse
    cases hty : E.ty el with
    | none => rw [hty] at h; cases h
    | some e =>
      rw [hty] at h
      simp only at h
      cases hsrc : srcAs (hget k.hp) e y with
      | none => rw [hsrc] at h; cases h
      | some ys =>
        rw [hsrc] at h
        simp only at h
        have hs := src_sound hk hy hsrc
        cases x with
        | own n e' =>
          simp only at h
          split at h
          · rename_i he
            subst he
            cases hxs : arrAs e' (hget k.hp n) with
            | none => rw [hxs] at h; cases h
            | some xs =>
              rw [hxs] at h
              simp only [Option.map_some, Option.some.injEq] at h
              subst h
              have hbl := arrAs_eq hxs
              exact copy_own hE hk hf hN h0 ht hty hs hbl ((hx (by simp)).2 xs hbl) (by simp)
          · cases h
        | sub n e' lo hi =>
          simp only at h
          split at h
          · rename_i he
            subst he
            cases hxs : arrAs e' (hget k.hp n) with
            | none => rw [hxs] at h; cases h
            | some xs =>
              rw [hxs] at h
              simp only [Option.map_some, Option.some.injEq] at h
              subst h
              have hbl := arrAs_eq hxs
              obtain ⟨q0, q1, q2, q3⟩ := (hx (by simp)).2 xs hbl
              exact copy_own hE hk hf hN h0 ht hty hs hbl q3 (by omega)
          · cases h
        | _ => simp at h

/-! ### literals of structs -/
theorem buildParts_sound {k : Kx} {fr : Fr} {tmps : Array Value} (hf : FRel k fr tmps) {a : Act} (ha : a.tmps = tmps) (place : Nat → Option (Nat × Nat)) : ∀ (ps : List (Nat × Operand)) (cs out : List Cell) (cells : Array Value),
    CRels k cs cells.toList → buildParts place fr cs ps = some out → ∃ res, Instr.fill place cells (ps.map fun p => (p.1, a.eval p.2)) = some res ∧ CRels k out res.toList := by
  intro ps
  induction ps with
  | nil =>
    intro cs out cells hc h
    simp only [buildParts, Option.some.injEq] at h
    subst h
    exact ⟨cells, rfl, hc⟩
  | cons p r ih =>
    obtain ⟨i, x⟩ := p
    intro cs out cells hc h
    simp only [buildParts] at h
    cases hp : place i with
    | none => rw [hp] at h; cases h
    | some q =>
      obtain ⟨off, size⟩ := q
      rw [hp] at h
      simp only at h
      split at h
      · rename_i hg
        simp only [Bool.and_eq_true, decide_eq_true_eq] at hg
        obtain ⟨hkn, hlen, hfit⟩ := hg
        have hx := (rd_rel hf ha x).cells hkn
        have hl1 := hx.len
        have hl2 := hc.len
        simp only [Array.length_toList] at hl1 hl2
        have e1 : ((a.eval x).cells.zipIdx.foldl (fun cs (p : Value × Nat) => cs.setIfInBounds (off + p.2) p.1) cells).toList = cells.toList.take off ++ (a.eval x).cells.toList ++ cells.toList.drop (off + (a.eval x).cells.toList.length) := by
          have := setAll off (a.eval x).cells.toList 0 cells (by simp; omega)
          simp only [Nat.add_zero] at this
          rw [← this]
          rw [← Array.foldl_toList, Array.toList_zipIdx]
        have hs := hc.splice hx off
        rw [← e1] at hs
        obtain ⟨res, h1, h2⟩ := ih _ out _ hs h
        refine ⟨res, ?_, h2⟩
        simp only [List.map_cons, Instr.fill, hp]
        rw [if_neg (by simp; omega)]
        exact h1
      · cases h

theorem build_sound {E : Env} (hE : EnvOK E) {N : Nat} {k : Kx} {fr : Fr} {tmps : Array Value} (hk : HRel N k) (hf : FRel k fr tmps) {a : Act} (ha : a.tmps = tmps) {t : TypeId} {parts : Array (Nat × Operand)} {out : Out}
    (h : buildA E fr t parts.toList = some out) : OK E N k fr tmps out (Instr.build t (parts.map fun (i, x) => (i, a.eval x))) := by
  unfold buildA at h
  split at h
  · rename_i fields ty hu hty
    obtain ⟨i, z, hi, hz, hzc, hsz, _⟩ := hE t ty hty
    cases hp : placesOf E.P fields.toList with
    | none => rw [hp] at h; cases h
    | some ps =>
      rw [hp] at h
      simp only at h
      cases hb : buildParts (fun i => ps[i]?) fr (zeros ty) parts.toList with
      | none => rw [hb] at h; cases h
      | some cs =>
        rw [hb] at h
        simp only [Option.map_some, Option.some.injEq] at h
        subst h
        obtain ⟨res, h1, h2⟩ := buildParts_sound hf ha _ parts.toList (zeros ty) cs z.cells (by rw [hzc]; exact zeros_rel k ty) hb
        refine OK.quiet hk hf (v := .agg res) ?_ ⟨res, rfl, h2⟩
        have hpm : (parts.map fun (q : Nat × Operand) => (q.1, a.eval q.2)).toList = parts.toList.map fun p => (p.1, a.eval p.2) := by rw [Array.toList_map]
        refine run_build k.w t _ res ?_
        unfold placesOf at hp
        simp only [Program.built, hi, hu, hz, hp, hpm, List.getElem?_toArray]
        exact h1
  · rename_i len el ty hu hty
    obtain ⟨i, z, hi, hz, hzc, hsz, _⟩ := hE t ty hty
    cases hp : E.P.info? el with
    | none => rw [hp] at h; cases h
    | some j =>
      rw [hp] at h
      simp only at h
      cases hb : buildParts (fun q => some (q * j.size, j.size)) fr (zeros ty) parts.toList with
      | none => rw [hb] at h; cases h
      | some cs =>
        rw [hb] at h
        simp only [Option.map_some, Option.some.injEq] at h
        subst h
        obtain ⟨res, h1, h2⟩ := buildParts_sound hf ha _ parts.toList (zeros ty) cs z.cells (by rw [hzc]; exact zeros_rel k ty) hb
        refine OK.quiet hk hf (v := .agg res) ?_ ⟨res, rfl, h2⟩
        have hpm : (parts.map fun (q : Nat × Operand) => (q.1, a.eval q.2)).toList = parts.toList.map fun p => (p.1, a.eval p.2) := by rw [Array.toList_map]
        simp only [Instr.build, Sem.run_bind, run_zero k.w hi hz, run_under k.w hu, run_sizeOf' k.w hp, Result.andThen_ok, hpm, h1, Sem.run_pure]
  · cases h

/-! ### conversions -/
theorem bytes_run {w : World} {O : Nat → Prop} {ys : List Int} {us : List Value} (h : ERel w O (.int .u8) ys us) : us = ys.map (.int .u8 ·) ∧ ∀ y ∈ ys, IntKind.u8.wrap y = y := by
  obtain ⟨h1, h2⟩ := h
  simp only [Ty.size, Nat.mul_one] at h1 h2
  have key : ∀ i (hi : i < ys.length), us[i]? = some (.int .u8 ys[i]) ∧ IntKind.u8.wrap ys[i] = ys[i] := by
    intro i hi
    obtain ⟨h3, h4⟩ := h2 i hi
    refine ⟨?_, h4⟩
    have : (us.drop i).take 1 = [.int .u8 ys[i]] := h3
    have h5 := congrArg (·[0]?) this
    simpa using h5
  refine ⟨?_, fun y hy => ?_⟩
  · apply List.ext_getElem?
    intro i
    by_cases hi : i < ys.length
    · rw [(key i hi).1]; simp [hi]
    · rw [List.getElem?_eq_none (by omega), List.getElem?_eq_none (by simp; omega)]
  · obtain ⟨i, hi, rfl⟩ := List.getElem_of_mem hy
    exact (key i hi).2

theorem u8_back {y : Int} (h : IntKind.u8.wrap y = y) : ((UInt8.ofNat y.toNat).toNat : Int) = y := by
  have h1 := ok_bounds h
  simp [IntKind.min, IntKind.max, IntKind.signed, IntKind.bits] at h1
  rw [UInt8.toNat_ofNat']
  have : y.toNat % 2 ^ 8 = y.toNat := Nat.mod_eq_of_lt (by omega)
  rw [this]
  omega

theorem strOf_bytes {ys : List Int} (h : ∀ y ∈ ys, IntKind.u8.wrap y = y) : bytesOf (strOfNums ys) = ys := by
  simp only [bytesOf, strOfNums_data, List.map_map]
  conv => rhs; rw [← List.map_id ys]
  refine List.map_congr_left fun y hy => ?_
  exact u8_back (h y hy)

theorem convert_sound {E : Env} (hE : EnvOK E) {N : Nat} {k : Kx} {fr : Fr} {tmps : Array Value} (hk : HRel N k) (hf : FRel k fr tmps) (hN : N ≤ k.w.heap.size) {src dst : TypeId} {x : Cell} {v : Value} {out : Out}
    (hx : x ≠ .undef → CRel k x v) (h : convertA E (hget k.hp) k.nx src dst x = some out) (ht : out.test = true) : OK E N k fr tmps out (convert src dst v) := by
  unfold convertA at h
  split at h
  · rename_i d q q' n hs hd
    simp only [Option.some.injEq] at h
    subst h
    obtain ⟨h1, h2⟩ := hx (by simp)
    simp only [List.cons.injEq, and_true] at h1
    subst h1
    refine OK.quiet hk hf (v := .int q (q.wrap n)) ?_ (Or.inr ⟨rfl, wrap_wrap _ _⟩)
    cases d <;> simp [convert, run_underlying hs, run_underlying hd, Conv.intToInt]
  · rename_i d s hs hd
    simp only [Option.some.injEq] at h
    subst h
    have hc := hx (by simp)
    obtain ⟨ba, e1, e2, e3⟩ := hc
    simp only [List.cons.injEq, and_true] at e1
    subst e1
    refine OK.quiet hk hf (v := .string ba) ?_ (Or.inr ⟨ba, rfl, e2, e3⟩)
    cases d <;> simp [convert, run_underlying hs, run_underlying hd]
  · rename_i x' _ _ _ e hs hd hne
    split at h
    · rename_i he
      cases hc : cellAs (hget k.hp) (.slice (.int .u8)) x' with
      | none => rw [hc] at h; cases h
      | some ys =>
        rw [hc] at h
        simp only [Option.map_some, Option.some.injEq] at h
        subst h
        have hxu : x' ≠ .undef := by rintro rfl; simp [cellAs] at hc
        have hv : VRel k.w (fun _ => False) (.slice (.int .u8)) ys [v] := cellAs_sound hk (hx hxu) hc (fun B hB => hB.elim) (fun _ _ _ _ _ => id)
        obtain ⟨a, c, e1, g1, g2, g3⟩ := hv
        simp only [List.cons.injEq, and_true] at e1
        subst e1
        have hv : VRel k.w (fun _ => False) (.slice (.int .u8)) ys [.slice a ys.length c] := ⟨a, c, rfl, g1, g2, g3⟩
        obtain ⟨us, hus, hrun⟩ := (slice_first hv).2 ys.length (Nat.le_refl _)
        rw [List.take_length] at hus
        obtain ⟨hb1, hb2⟩ := bytes_run hus
        have hr := hrun E.P k.w rfl
        have hm : (strOfNums ys).size ≤ MAXL := by rw [strOfNums_size]; omega
        refine OK.quiet hk hf (v := .string (strOfNums ys)) ?_ (Or.inr ⟨strOfNums ys, rfl, (strOf_bytes hb2).symm, hm⟩)
        rw [run_convert_bytes_string k.w src dst e a _ _ hs he hd]
        cases a with
        | none =>
          simp only [Builtin.firstCells, Sem.run_pure, Result.ok.injEq, and_true] at hr
          have : us = [] := by simpa using congrArg Array.toList hr.symm
          have hy : ys = [] := by rw [this] at hb1; simpa using hb1.symm
          subst hy
          simp [Conv.bytesToString, strOfNums, ByteArray.empty, ByteArray.emptyWithCapacity]
          rfl
        | some a =>
          simp only [Builtin.firstCells, Ty.size, Nat.mul_one] at hr
          rw [hb1] at hr
          rw [run_bytesToString k.w a _ _ ys hr, foldl_push_bytes]
          simp [strOfNums, ByteArray.empty, ByteArray.emptyWithCapacity]
          rfl
    · cases h
  · rename_i e s hs hd
    split at h
    · rename_i he
      split at h
      · rename_i hty
        simp only [Option.some.injEq] at h
        subst h
        have hc := hx (by simp)
        obtain ⟨ba, e1, e2, e3⟩ := hc
        simp only [List.cons.injEq, and_true] at e1
        subst e1
        have e2 : s = bytesOf ba := e2
        subst e2
        rw [roomFor_iff, Nat.mul_one, bytesOf_len] at ht
        have hr := run_bytes_of_string (P := E.P) k.w src dst e ba hs hd he
        have hge := grownCap_ge k.w ba.size 0 e
        have hle := grownCap_le_maxLen k.w ba.size 0 e (by simp only [maxLen]; omega)
        obtain ⟨us, hus, hrun⟩ := (src_text k ba).first (bytesOf ba).length (Nat.le_refl _)
        rw [List.take_length] at hus
        obtain ⟨hb1, hb2⟩ := bytes_run hus
        have hcl : (bytesRow ba (grownCap k.w ba.size 0 e)).toList = us ++ List.replicate (grownCap k.w ba.size 0 e - ba.size) (.int .u8 0) := by
          rw [hb1]; simp [bytesRow, bytesOf]
        refine OK.newArr (fz := []) (rm := none) (us := us) (T := e) (row := bytesRow ba (grownCap k.w ba.size 0 e)) (fro := ((bytesRow ba (grownCap k.w ba.size 0 e)).size, (bytesRow ba (grownCap k.w ba.size 0 e)).size + 1)) (cap := grownCap k.w ba.size 0 e) (w' := k.w.drew.alloc (.cells (bytesRow ba (grownCap k.w ba.size 0 e)) e ((bytesRow ba (grownCap k.w ba.size 0 e)).size, (bytesRow ba (grownCap k.w ba.size 0 e)).size + 1))) hk hf hN (fun n hn => by cases hn) rfl ?_ ⟨rfl, rfl, rfl⟩ (by rw [bytesOf_len]; exact hr) hus ?_ (by rw [bytesOf_len]; exact hge) (by simp only [maxLen] at hle; simp only [MAXL]; omega) ?_
        · intro j hj; omega
        · have hl : (bytesOf ba).length * (Ty.int .u8).size = us.length := hus.1.symm
          rw [hl]
          simp only [part_, List.drop_zero, hcl]
          exact List.take_left
        · rw [← Array.length_toList, hcl, List.length_append, List.length_replicate, hus.1, bytesOf_len]
          simp only [Ty.size]
          omega
      · cases h
    · cases h
  · cases h

/-! ### the least and the greatest -/
theorem minI_ok {k : IntKind} {a b : Int} (ha : k.wrap a = a) (hb : k.wrap b = b) : k.wrap (minI a b) = minI a b := by unfold minI; split <;> assumption
theorem maxI_ok {k : IntKind} {a b : Int} (ha : k.wrap a = a) (hb : k.wrap b = b) : k.wrap (maxI a b) = maxI a b := by unfold maxI; split <;> assumption

theorem foldInts_sound {P : Program} {w : World} {f : Int → Int → Int} {g : Value → Value → Sem Value} {q : IntKind} (hg : ∀ a b q', (g (.int q a) (.int q' b)).run P w = .ok (.int q (f a b)) w) (hfo : ∀ a b, q.wrap a = a → q.wrap b = b → q.wrap (f a b) = f a b)
    {k : Kx} : ∀ (cs : List Cell) (vs : List Value) (a r : Int), cs.length = vs.length → (∀ (i : Nat) (c : Cell) (v : Value), cs[i]? = some c → vs[i]? = some v → c ≠ .undef → CRel k c v) → q.wrap a = a → foldInts f q a cs = some r →
      (vs.foldlM g (.int q a)).run P w = .ok (.int q r) w ∧ q.wrap r = r := by
  intro cs
  induction cs with
  | nil =>
    intro vs a r hl hc ha h
    have : vs = [] := List.eq_nil_of_length_eq_zero (by simpa using hl.symm)
    subst this
    simp only [foldInts, Option.some.injEq] at h
    subst h
    exact ⟨by simp, ha⟩
  | cons c cs ih =>
    intro vs a r hl hc ha h
    cases vs with
    | nil => simp at hl
    | cons v vs =>
      cases c with
      | val t x =>
        cases t with
        | int q' =>
          simp only [foldInts] at h
          split at h
          · rename_i he
            subst he
            obtain ⟨h1, h2⟩ := hc 0 _ v rfl rfl (by simp)
            simp only [List.cons.injEq, and_true] at h1
            subst h1
            have := ih vs (f a x) r (by simpa using hl) (fun i c v h1 h2 => hc (i + 1) c v (by simpa using h1) (by simpa using h2)) (hfo _ _ ha h2) h
            simp only [List.foldlM_cons, Sem.run_bind, hg, Result.andThen_ok]
            exact this
          · cases h
        | _ => simp [foldInts] at h
      | _ => simp [foldInts] at h

end Go.Ab
