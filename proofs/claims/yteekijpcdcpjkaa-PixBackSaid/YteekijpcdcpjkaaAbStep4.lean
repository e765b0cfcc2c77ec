/-
  ONE OPERATION IS RIGHT: cuts of texts and slices.
-/
import Derived.Test.YteekijpcdcpjkaaAbStep3
set_option linter.unusedVariables false
set_option linter.unusedSimpArgs false
namespace Go.Ab
open Go.RowKit (Below)

theorem bounds_iff {n l h : Int} : bounds n l h = true ↔ 0 ≤ l ∧ l ≤ h ∧ h ≤ n := by simp [bounds]

theorem bound_rel {k : Kx} {fr : Fr} {tmps : Array Value} (hf : FRel k fr tmps) {a : Act} (ha : a.tmps = tmps) {x : Option Operand} {d l : Int} (h : bound fr x d = some l) :
    (x = none ∧ l = d) ∨ (∃ o q, x = some o ∧ a.eval o = .int q l) := by
  unfold bound at h
  split at h
  · simp only [Option.some.injEq] at h; exact Or.inl ⟨rfl, h.symm⟩
  · rename_i o
    obtain ⟨q, h1, _⟩ := intAt_rel hf ha h
    exact Or.inr ⟨o, q, rfl, h1⟩

theorem run_sliceBound (P : Program) (w : World) (q : IntKind) (i : Int) (y : Nat) (code : BoundsCode) (h0 : 0 ≤ i) (h1 : i ≤ y) : (Instr.sliceBound (.int q i) y code).run P w = .ok i.toNat w := by
  simp [Instr.sliceBound, asIntOf, h0, h1]

/-- The bounds of x[l:h]. -/
theorem run_bounds2 {k : Kx} {P : Program} {fr : Fr} {tmps : Array Value} (hf : FRel k fr tmps) {a : Act} (ha : a.tmps = tmps) {lo hi : Option Operand} {l h : Int} {len cap : Nat} (b : Bool)
    (hl : bound fr lo 0 = some l) (hh : bound fr hi len = some h) (ht : bounds len l h = true) (hc : len ≤ cap) :
    (Instr.sliceBounds b len cap (lo.map a.eval) (hi.map a.eval) none).run P k.w = .ok (l.toNat, h.toNat, cap) k.w := by
  rw [bounds_iff] at ht
  rcases bound_rel hf ha hl with ⟨rfl, rfl⟩ | ⟨ol, ql, rfl, el⟩ <;> rcases bound_rel hf ha hh with ⟨rfl, rfl⟩ | ⟨oh, qh, rfl, eh⟩
  · simp [Instr.sliceBounds]
  · simp [Instr.sliceBounds, eh, run_sliceBound P k.w qh h cap _ (by omega) (by omega)]
  · simp [Instr.sliceBounds, el, run_sliceBound P k.w ql l len _ (by omega) (by omega)]
  · simp [Instr.sliceBounds, el, eh, run_sliceBound P k.w qh h cap _ (by omega) (by omega), run_sliceBound P k.w ql l h.toNat _ (by omega) (by omega)]

theorem run_bounds3 {k : Kx} {P : Program} {fr : Fr} {tmps : Array Value} (hf : FRel k fr tmps) {a : Act} (ha : a.tmps = tmps) {lo hi : Option Operand} {mx : Operand} {l h m : Int} {len cap : Nat}
    (hl : bound fr lo 0 = some l) (hh : bound fr hi len = some h) (hm : intAt fr mx = some m) (ht : bounds len l h = true) (he : m = h) (hc : len ≤ cap) (hhi : hi ≠ none) :
    (Instr.sliceBounds true len cap (lo.map a.eval) (hi.map a.eval) ((some mx).map a.eval)).run P k.w = .ok (l.toNat, h.toNat, h.toNat) k.w := by
  rw [bounds_iff] at ht
  obtain ⟨qm, em, _⟩ := intAt_rel hf ha hm
  subst he
  rcases bound_rel hf ha hh with ⟨rfl, rfl⟩ | ⟨oh, qh, rfl, eh⟩
  · exact absurd rfl hhi
  · rcases bound_rel hf ha hl with ⟨rfl, rfl⟩ | ⟨ol, ql, rfl, el⟩
    · simp [Instr.sliceBounds, eh, em, run_sliceBound P k.w qm m cap _ (by omega) (by omega), run_sliceBound P k.w qh m m.toNat _ (by omega) (by omega)]
    · simp [Instr.sliceBounds, el, eh, em, run_sliceBound P k.w qm m cap _ (by omega) (by omega), run_sliceBound P k.w qh m m.toNat _ (by omega) (by omega), run_sliceBound P k.w ql l m.toNat _ (by omega) (by omega)]

theorem extract_bytes (s : ByteArray) (l h : Nat) (hh : h ≤ s.size) : bytesOf (s.extract l h) = ((bytesOf s).drop l).take (h - l) := by
  simp only [bytesOf, ByteArray.data_extract, Array.toList_extract, List.extract, List.map_take, List.map_drop]

theorem run_sliceAt_slice {P : Program} {w : World} {t el : TypeId} {i : TypeInfo} (hu : P.underlying t = some (.slice el)) (hi : P.info? el = some i) (a : Option Addr) (len cap : Nat) (lo hi' mx : Option Value) (l h m : Nat)
    (hb : (Instr.sliceBounds true len cap lo hi' mx).run P w = .ok (l, h, m) w) :
    (Instr.sliceAt t (.slice a len cap) lo hi' mx).run P w = .ok (.slice (if m = l then a else a.map (·.add (l * i.size))) (h - l) (m - l)) w := by
  simp only [Instr.sliceAt, Sem.run_bind, run_under w hu, Result.andThen_ok, Instr.slice, hb, run_sizeOf' w hi, Sem.run_pure]

theorem cut_len {α : Type} {xs : List α} {l h : Int} (h0 : 0 ≤ l) (h1 : l ≤ h) (h2 : h ≤ (xs.length : Int)) : (cut xs l h).length = (h - l).toNat := by
  simp [cut]; omega

/-- A part of a slice that is read. -/
theorem cut_rel {w : World} {O : Nat → Prop} {e : Ty} {xs : List e.den} {a : Option Addr} {cap : Nat} (hv : VRel w O (.slice e) xs [.slice a xs.length cap]) {l h : Int} {m : Nat} (h0 : 0 ≤ l) (h1 : l ≤ h) (h2 : h ≤ (xs.length : Int)) (hm : h.toNat ≤ m) (hm2 : m ≤ cap) :
    VRel w O (.slice e) (cut xs l h) [.slice (if m = l.toNat then a else a.map (·.add (l.toNat * e.size))) (h.toNat - l.toNat) (m - l.toNat)] := by
  obtain ⟨a', cap', e1, h3, h4, h5⟩ := hv
  simp only [List.cons.injEq, Value.slice.injEq, and_true] at e1
  obtain ⟨ea, _, ec⟩ := e1
  subst ea; subst ec
  have hcl := cut_len h0 h1 h2
  refine ⟨_, _, by rw [hcl]; congr 2; omega, by rw [hcl]; omega, by omega, fun hx => ?_⟩
  have hpos : 0 < (h - l).toNat := by
    rcases Nat.eq_zero_or_pos (h - l).toNat with hz | hz
    · exact absurd (List.eq_nil_of_length_eq_zero (hcl.trans hz)) hx
    · exact hz
  obtain ⟨B, o, row, T, fz, e2, hO, hrow, hs, hv⟩ := h5 (by intro he; rw [he] at h2; simp at h2; omega)
  subst e2
  refine ⟨B, o + l.toNat * e.size, row, T, fz, ?_, hO, hrow, ?_, fun i hi => ?_⟩
  · rw [if_neg (by omega)]
    simp only [Option.map_some, add0]
  · rw [hcl]
    have : (l.toNat + (h - l).toNat) * e.size ≤ xs.length * e.size := Nat.mul_le_mul_right _ (by omega)
    rw [Nat.add_mul] at this
    omega
  · rw [hcl] at hi
    have hlt : l.toNat + i < xs.length := by omega
    have := hv (l.toNat + i) hlt
    have e3 : (cut xs l h)[i]'(by rw [hcl]; exact hi) = xs[l.toNat + i] := by simp [cut]
    rw [e3]
    have e4 : o + (l.toNat + i) * e.size = o + l.toNat * e.size + i * e.size := by rw [Nat.add_mul]; omega
    rw [e4] at this
    exact this

/-- A part of a block of the call's own. -/
theorem Hdr.cut {L : Loc} {e : Ty} {lo len : Nat} {v : Value} (hh : Hdr L e lo len v) {l h : Nat} (h1 : l ≤ h) (h2 : h ≤ len) :
    ∃ a c, v = .slice a len c ∧ len ≤ c ∧ Hdr L e (lo + l) (h - l) (.slice (if c = l then a else a.map (·.add (l * e.size))) (h - l) (c - l)) := by
  cases L with
  | none =>
    obtain ⟨a, e1, e2⟩ := hh
    subst e2
    obtain rfl : l = 0 := by omega
    obtain rfl : h = 0 := by omega
    exact ⟨a, 0, e1, Nat.le_refl _, a, by simp, rfl⟩
  | at_ B o cap =>
    obtain ⟨a, c, e1, h3, h4, h5⟩ := hh
    refine ⟨a, c, e1, h3, _, _, rfl, by omega, by omega, ?_⟩
    by_cases hc : c = l
    · exact Or.inr (by omega)
    · refine Or.inl ?_
      rw [if_neg hc]
      rcases h5 with h5 | h5
      · subst h5
        simp only [Option.map_some, add0, Nat.add_mul]
        congr 2
        omega
      · omega

theorem slice_sound {E : Env} {N : Nat} {k : Kx} {fr : Fr} {tmps : Array Value} (hk : HRel N k) (hf : FRel k fr tmps) {a : Act} (ha : a.tmps = tmps) {t : TypeId} {c : Cell} {v : Value} {lo hi mx : Option Operand} {out : Out}
    (hc : c ≠ .undef → CRel k c v) (h : sliceA E (hget k.hp) fr t c lo hi mx = some out) (ht : out.test = true) :
    OK E N k fr tmps out (Instr.sliceAt t v (lo.map a.eval) (hi.map a.eval) (mx.map a.eval)) := by
  unfold sliceA at h
  split at h
  · -- a text
    rename_i hu
    split at h
    · rename_i s
      split at h
      · rename_i l r hl hr
        simp only [Option.some.injEq] at h
        subst h
        obtain ⟨ba, e1, hs, hsz⟩ := hc (by simp)
        simp only [List.cons.injEq, and_true] at e1
        subst e1
        have hlen : s.length = ba.size := by rw [hs, bytesOf_len]
        rw [hlen] at hr
        have ht' : bounds (ba.size : Int) l r = true := by rw [← hlen]; exact ht
        have hb := run_bounds2 (P := E.P) hf ha false hl hr ht' (Nat.le_refl _)
        rw [bounds_iff] at ht'
        refine OK.quiet hk hf (v := .string (ba.extract l.toNat r.toNat)) ?_ (Or.inr ⟨ba.extract l.toNat r.toNat, rfl, ?_, ?_⟩)
        · simp [Instr.sliceAt, run_under k.w hu, Instr.slice, hb]
        · rw [extract_bytes ba _ _ (by omega), ← hs]
          unfold cut
          congr 1
          omega
        · simp [ByteArray.size_extract]; omega
      · cases h
    · cases h
  · rename_i el hu
    split at h
    · -- x[l:h]
      cases c with
      | val ty xs =>
        cases ty with
        | slice e =>
          simp only at h
          split at h
          · rename_i hfit
            rw [fits_iff] at hfit
            split at h
            · rename_i l r hl hr
              simp only [Option.some.injEq] at h
              subst h
              have hv := hc (by simp)
              obtain ⟨i, hi'⟩ := info_of_cells (P := E.P) (t := el) (by omega)
              have hsz := cellsOf_info hi'
              have hv' := hv
              obtain ⟨a', cap, e1, h1, h2, _⟩ := hv'
              simp only [List.cons.injEq, and_true] at e1
              subst e1
              have hb := run_bounds2 (P := E.P) (cap := cap) hf ha true hl hr ht h1
              rw [bounds_iff] at ht
              refine OK.quiet hk hf (run_sliceAt_slice hu hi' a' _ cap _ _ _ _ _ _ hb) (Or.inr ?_)
              have := cut_rel hv (m := cap) ht.1 ht.2.1 ht.2.2 (by omega) (Nat.le_refl _)
              rw [show i.size = e.size by omega]
              exact this
            · cases h
          · cases h
        | _ => simp at h
      | own n e =>
        simp only at h
        cases hxs : arrAs e (hget k.hp n) with
        | none => rw [hxs] at h; cases h
        | some xs =>
          rw [hxs] at h
          simp only at h
          split at h
          · rename_i hfit
            rw [fits_iff] at hfit
            split at h
            · rename_i l r hl hr
              simp only [Option.some.injEq] at h
              subst h
              have hv := hc (by simp)
              obtain ⟨i, hi'⟩ := info_of_cells (P := E.P) (t := el) (by omega)
              have hsz := cellsOf_info hi'
              have hh := hv.2 xs (arrAs_eq hxs)
              have ht' := ht
              rw [bounds_iff] at ht'
              obtain ⟨a', cap, e1, h1, h3⟩ := hh.cut (l := l.toNat) (h := r.toNat) (by omega) (by omega)
              subst e1
              have hb := run_bounds2 (P := E.P) (cap := cap) hf ha true hl hr ht h1
              refine OK.quiet hk hf (run_sliceAt_slice hu hi' a' _ cap _ _ _ _ _ _ hb) (Or.inr ⟨⟨hv.1.1, rfl⟩, fun ys hys => ?_⟩)
              have : ys = xs := by
                have := arrAs_eq hxs
                rw [this] at hys
                simpa using hys.symm
              subst this
              refine ⟨ht'.1, ht'.2.1, ht'.2.2, ?_⟩
              rw [show i.size = e.size by omega, show (r - l).toNat = r.toNat - l.toNat by omega]
              simpa using h3
            · cases h
          · cases h
      | sub n e lo' hi' =>
        simp only at h
        cases hxs : arrAs e (hget k.hp n) with
        | none => rw [hxs] at h; cases h
        | some xs =>
          rw [hxs] at h
          simp only at h
          split at h
          · rename_i hfit
            rw [fits_iff] at hfit
            split at h
            · rename_i l r hl hr
              simp only [Option.some.injEq] at h
              subst h
              have hv := hc (by simp)
              obtain ⟨i, hi''⟩ := info_of_cells (P := E.P) (t := el) (by omega)
              have hsz := cellsOf_info hi''
              obtain ⟨g0, g1, g2, hh⟩ := hv.2 xs (arrAs_eq hxs)
              have ht' := ht
              rw [bounds_iff] at ht'
              obtain ⟨a', cap, e1, h1, h3⟩ := hh.cut (l := l.toNat) (h := r.toNat) (by omega) (by omega)
              subst e1
              have hlen : ((hi' - lo').toNat : Int) = hi' - lo' := by omega
              have hb := run_bounds2 (P := E.P) (cap := cap) (len := (hi' - lo').toNat) hf ha true hl (by rw [hlen]; exact hr) (by rw [hlen]; exact ht) h1
              refine OK.quiet hk hf (run_sliceAt_slice hu hi'' a' _ cap _ _ _ _ _ _ hb) (Or.inr ⟨⟨hv.1.1, rfl⟩, fun ys hys => ?_⟩)
              have : ys = xs := by
                have := arrAs_eq hxs
                rw [this] at hys
                simpa using hys.symm
              subst this
              refine ⟨by omega, by omega, by omega, ?_⟩
              rw [show i.size = e.size by omega, show (lo' + r - (lo' + l)).toNat = r.toNat - l.toNat by omega, show (lo' + l).toNat = lo'.toNat + l.toNat by omega]
              exact h3
            · cases h
          · cases h
      | nilS =>
        simp only at h
        split at h
        · rename_i hel
          split at h
          · rename_i l r hl hr
            simp only [Option.some.injEq] at h
            subst h
            have hv : v = _ := hc (by simp)
            subst hv
            obtain ⟨i, hi'⟩ := info_of_cells (P := E.P) (t := el) (by omega)
            have hb := run_bounds2 (P := E.P) (len := 0) (cap := 0) hf ha true hl hr ht (Nat.le_refl _)
            rw [bounds_iff] at ht
            have hl0 : l.toNat = 0 := by omega
            have hr0 : r.toNat = 0 := by omega
            rw [hl0, hr0] at hb
            refine OK.quiet hk hf (run_sliceAt_slice hu hi' none 0 0 _ _ _ _ _ _ hb) (Or.inr ?_)
            rfl
          · cases h
        · cases h
      | _ => simp at h
    · -- x[l:h:h]
      rename_i m0
      split at h
      · cases h
      · rename_i hhi
        have hhi : hi ≠ none := by intro e; rw [e] at hhi; simp at hhi
        cases c with
        | val ty xs =>
          cases ty with
          | slice e =>
            simp only at h
            split at h
            · rename_i hfit
              rw [fits_iff] at hfit
              split at h
              · rename_i l r m hl hr hm
                simp only [Option.some.injEq] at h
                subst h
                simp only [Bool.and_eq_true, decide_eq_true_eq] at ht
                obtain ⟨ht, hmr⟩ := ht
                have hv := hc (by simp)
                obtain ⟨i, hi'⟩ := info_of_cells (P := E.P) (t := el) (by omega)
                have hsz := cellsOf_info hi'
                have hv' := hv
                obtain ⟨a', cap, e1, h1, h2, _⟩ := hv'
                simp only [List.cons.injEq, and_true] at e1
                subst e1
                have hb := run_bounds3 (P := E.P) (cap := cap) hf ha hl hr hm ht hmr h1 hhi
                rw [bounds_iff] at ht
                refine OK.quiet hk hf (run_sliceAt_slice hu hi' a' _ cap _ _ _ _ _ _ hb) (Or.inr ?_)
                have := cut_rel hv (m := r.toNat) ht.1 ht.2.1 ht.2.2 (Nat.le_refl _) (by omega)
                rw [show i.size = e.size by omega]
                refine ⟨if r.toNat = l.toNat then a' else a'.map (·.add (l.toNat * e.size)), ?_, this⟩
                have hcl := cut_len ht.1 ht.2.1 ht.2.2
                rw [show (r - l).toNat = r.toNat - l.toNat by omega] at hcl
                exact congrArg (fun n => Value.slice (if r.toNat = l.toNat then a' else a'.map (·.add (l.toNat * e.size))) n n) hcl.symm
              · cases h
            · cases h
          | _ => simp at h
        | own n e =>
          simp only at h
          cases hxs : arrAs e (hget k.hp n) with
          | none => rw [hxs] at h; cases h
          | some xs =>
            rw [hxs] at h
            simp only at h
            split at h
            · rename_i hfit
              simp only [Bool.and_eq_true] at hfit
              obtain ⟨hfit, _⟩ := hfit
              rw [fits_iff] at hfit
              split at h
              · rename_i l r m hl hr hm
                simp only [Option.some.injEq] at h
                subst h
                simp only [Bool.and_eq_true, decide_eq_true_eq] at ht
                obtain ⟨⟨ht, hmr⟩, hlr⟩ := ht
                have hv := hc (by simp)
                obtain ⟨i, hi'⟩ := info_of_cells (P := E.P) (t := el) (by omega)
                have hsz := cellsOf_info hi'
                have hh := hv.2 xs (arrAs_eq hxs)
                have ht' := ht
                rw [bounds_iff] at ht'
                obtain ⟨a', cap, e1, h1, h3⟩ := hh.cut (l := l.toNat) (h := r.toNat) (by omega) (by omega)
                subst e1
                have hb := run_bounds3 (P := E.P) (cap := cap) hf ha hl hr hm ht hmr h1 hhi
                refine OK.quiet hk hf (run_sliceAt_slice hu hi' a' _ cap _ _ _ _ _ _ hb) (Or.inr ?_)
                subst hlr
                rw [Nat.sub_self]
                exact ⟨_, rfl, _, 0, rfl, Nat.le_refl _, by simp [MAXL], fun hx => absurd rfl hx⟩
              · cases h
            · cases h
        | nilS =>
          simp only at h
          split at h
          · rename_i hel
            split at h
            · rename_i l r m hl hr hm
              simp only [Option.some.injEq] at h
              subst h
              simp only [Bool.and_eq_true, decide_eq_true_eq] at ht
              obtain ⟨ht, hmr⟩ := ht
              have hv : v = _ := hc (by simp)
              subst hv
              obtain ⟨i, hi'⟩ := info_of_cells (P := E.P) (t := el) (by omega)
              have hb := run_bounds3 (P := E.P) (len := 0) (cap := 0) hf ha hl hr hm ht hmr (Nat.le_refl _) hhi
              rw [bounds_iff] at ht
              have hl0 : l.toNat = 0 := by omega
              have hr0 : r.toNat = 0 := by omega
              rw [hl0, hr0] at hb
              refine OK.quiet hk hf (run_sliceAt_slice hu hi' none 0 0 _ _ _ _ _ _ hb) (Or.inr ?_)
              rfl
            · cases h
          · cases h
        | _ => simp at h
  · cases h

end Go.Ab
