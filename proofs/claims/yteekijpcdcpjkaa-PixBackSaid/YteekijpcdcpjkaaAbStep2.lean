/-
  ONE OPERATION IS RIGHT: addresses, indexes, lengths, cuts, arithmetic, conversions that make nothing.
-/
import Derived.Test.YteekijpcdcpjkaaAbStep1
import Derived.Laws.Strings
set_option linter.unusedVariables false
set_option linter.unusedSimpArgs false
namespace Go.Ab
open Go.RowKit (Below)

theorem addr_add (a : Addr) (i j : Nat) (h : a.spot = none) : (a.add i) = ⟨a.block, a.off + i, none⟩ := by
  obtain ⟨b, o, s⟩ := a
  subst h
  exact add0 b o i

/-! ### addresses -/
theorem ptrOff_rel {k : Kx} {c c' : Cell} {v : Value} {j : Nat} (hc : c ≠ .undef → CRel k c v) (h : ptrOff c j = some c') : ∃ a : Addr, v = .pointer (some a) ∧ CRel k c' (.pointer (some (a.add j))) := by
  cases c with
  | ptr n off =>
    have hc := hc (by simp)
    simp only [ptrOff, Option.some.injEq] at h
    subst h
    obtain ⟨a, ha⟩ := hc.1.2
    refine ⟨a, ha, ⟨hc.1.1, _, rfl⟩, fun cs hcs => ?_⟩
    obtain ⟨B, h1, h2⟩ := hc.2 cs hcs
    rw [ha] at h2
    injection h2 with h2
    injection h2 with h2
    exact ⟨B, h1, by rw [h2, add0]⟩
  | pptr t x off =>
    have hc := hc (by simp)
    simp only [ptrOff, Option.some.injEq] at h
    subst h
    obtain ⟨B, o, row, E, fz, e, h1⟩ := hc
    exact ⟨_, e, B, o, row, E, fz, by rw [add0, Nat.add_assoc], h1⟩
  | eptr n e i off =>
    have hc := hc (by simp)
    simp only [ptrOff, Option.some.injEq] at h
    subst h
    obtain ⟨a, ha⟩ := hc.1.2
    refine ⟨a, ha, ⟨hc.1.1, _, rfl⟩, fun xs hxs hi => ?_⟩
    obtain ⟨B, o, cap, h1, h2⟩ := hc.2 xs hxs hi
    rw [ha] at h2
    injection h2 with h2
    injection h2 with h2
    exact ⟨B, o, cap, h1, by rw [h2, add0, Nat.add_assoc]⟩
  | _ => simp [ptrOff] at h

theorem field_sound {E : Env} {N : Nat} {k : Kx} {fr : Fr} {tmps : Array Value} (hk : HRel N k) (hf : FRel k fr tmps) {s : TypeId} {c : Cell} {v : Value} {f : Nat} {out : Out} (hc : c ≠ .undef → CRel k c v)
    (h : fieldA E s c f = some out) : OK E N k fr tmps out (Instr.fieldAt s v f) := by
  unfold fieldA at h
  split at h
  · rename_i fields hu
    split at h
    · rename_i fd hfd
      split at h
      · cases h
      · rename_i hz
        cases hp : ptrOff c fd.offset with
        | none => rw [hp] at h; cases h
        | some c' =>
          rw [hp] at h
          simp only [Option.map_some, Option.some.injEq] at h
          subst h
          obtain ⟨a, ha, hr⟩ := ptrOff_rel hc hp
          obtain ⟨i, hi⟩ := info_of_cells hz
          have hs := cellsOf_info hi
          subst ha
          refine OK.quiet hk hf (v := .pointer (some (a.add fd.offset))) ?_ (Or.inr hr)
          simp only [Instr.fieldAt, Sem.run_bind, run_under k.w hu, Result.andThen_ok, hfd, Instr.sureAddr, Sem.run_pure, fieldPlace, run_sizeOf' k.w hi, ← hs]
          rw [if_neg hz]
          rfl
    · cases h
  · cases h

theorem fieldV_sound {E : Env} {N : Nat} {k : Kx} {fr : Fr} {tmps : Array Value} (hk : HRel N k) (hf : FRel k fr tmps) {s : TypeId} {x : AVal} {v : Value} {f : Nat} {out : Out} (hx : ARel k x v)
    (h : fieldV E s x f = some out) : OK E N k fr tmps out (Instr.field s v f) := by
  unfold fieldV at h
  split at h
  · rename_i fields hu
    split at h
    · rename_i fd hfd
      by_cases hg : (isStruct x && wf1 E.P fd.type) = true
      · simp only [hg, if_true] at h
        cases hs : span (cellsOf x) fd.offset (E.P.cellsOf fd.type) with
        | none => rw [hs] at h; cases h
        | some d =>
          rw [hs] at h
          simp only [Option.map_some, Option.some.injEq] at h
          subst h
          have hagg : ∃ vs : Array Value, v = .agg vs ∧ CRels k (cellsOf x) vs.toList := by
            cases x with
            | one c => simp [isStruct] at hg
            | tup ps => simp [isStruct] at hg
            | pure t y => obtain ⟨_, vs, e, hv⟩ := hx; exact ⟨vs, e, (flat_rel t y _).1 hv⟩
            | agg cs => exact hx
          obtain ⟨vs, e, hv⟩ := hagg
          subst e
          obtain ⟨h1, h2, h3⟩ := hv.span hs
          simp only [Bool.and_eq_true] at hg
          have hw := hg.2
          have hw' := hw
          simp only [wf1, Bool.and_eq_true, Bool.or_eq_true, decide_eq_true_eq] at hw'
          obtain ⟨dd, hd⟩ := Option.isSome_iff_exists.1 hw'.2
          obtain ⟨i, hi⟩ := info_of_under hd
          have hsz := cellsOf_info hi
          refine OK.quiet hk hf (v := if aggT E.P fd.type then .agg ((vs.toList.drop fd.offset).take (E.P.cellsOf fd.type)).toArray else ((vs.toList.drop fd.offset).take (E.P.cellsOf fd.type)).getD 0 undef) ?_ (loaded_rel h1 hw h2)
          simp only [Instr.field, Sem.run_bind, run_under k.w hu, Result.andThen_ok, hfd, asAgg, Sem.run_pure, part, run_isAgg k.w hd]
          cases ha : aggT E.P fd.type with
          | true =>
            simp only [if_true, Sem.run_bind, run_sizeOf' k.w hi, Result.andThen_ok, Sem.run_pure, ← hsz]
            congr 2
            apply Array.ext'
            rw [Array.toList_extract]
            simp [List.extract, Nat.add_sub_cancel_left]
          | false =>
            have h1' : E.P.cellsOf fd.type = 1 := by rcases hw'.1 with h | h <;> simp_all
            have hlt : fd.offset < vs.size := by simp at h3; omega
            simp only [Bool.false_eq_true, if_false, Array.getElem?_eq_getElem hlt, Sem.run_pure]
            congr 1
            simp [List.getD_eq_getElem?_getD, List.getElem?_take, h1', hlt]
      · rw [if_neg hg] at h; cases h
    · cases h
  · cases h


/-! ### indexes -/
theorem fits_iff {P : Program} {e : Ty} {el : TypeId} : fits P e el = true ↔ e.size = P.cellsOf el ∧ 0 < e.size := by simp [fits]

/-- A header with elements leads to the block. -/
theorem Hdr.at {l : Loc} {e : Ty} {lo len : Nat} {v : Value} (h : Hdr l e lo len v) (hp : 0 < len) : ∃ B o cap c, l = .at_ B o cap ∧ v = .slice (some ⟨B, o + lo * e.size, none⟩) len c ∧ len ≤ c ∧ lo + c ≤ cap := by
  cases l with
  | none => obtain ⟨a, _, e2⟩ := h; omega
  | at_ B o cap =>
    obtain ⟨a, c, e1, h1, h2, h3⟩ := h
    rcases h3 with h3 | h3
    · subst h3; exact ⟨B, o, cap, c, rfl, e1, h1, h2⟩
    · omega

theorem indexAddr_sound {E : Env} {N : Nat} {k : Kx} {fr : Fr} {tmps : Array Value} (hk : HRel N k) (hf : FRel k fr tmps) {t : TypeId} {c : Cell} {v : Value} {q : IntKind} {n : Int} {out : Out}
    (hc : c ≠ .undef → CRel k c v) (h : indexAddrA E (hget k.hp) t c n = some out) (ht : out.test = true) : OK E N k fr tmps out (Instr.indexAt t v (.int q n)) := by
  unfold indexAddrA at h
  split at h
  · rename_i el hu
    have run : ∀ (a : Addr) (len cap : Nat) (w : Nat) , v = .slice (some a) len cap → w = E.P.cellsOf el → 0 < w → 0 ≤ n → n < (len : Int) →
        (Instr.indexAt t v (.int q n)).run E.P k.w = .ok (.pointer (some (a.add (n.toNat * w)))) k.w := by
      intro a len cap w hv hw hz h0 h1
      obtain ⟨i, hi⟩ := info_of_cells (P := E.P) (t := el) (by omega)
      have hsz := cellsOf_info hi
      subst hv
      have : i.size = w := by omega
      simp [Instr.indexAt, asIntOf, run_under k.w hu, h0, h1, run_sizeOf' k.w hi, this]
    have ref : ∀ (m : Nat) (e : Ty) (xs : List e.den) (lo len : Int), arrAs e (hget k.hp m) = some xs → k.U m → 0 ≤ lo → 0 ≤ len → lo + len ≤ (xs.length : Int) → Hdr (k.μ m) e lo.toNat len.toNat v → fits E.P e el = true → 0 ≤ n → n < len →
        OK E N k fr tmps { test := out.test, v := .one (.eptr m e (lo + n) 0) } (Instr.indexAt t v (.int q n)) := by
      intro m e xs lo len hxs hm hlo hlen hle hh hfit h0 h1
      rw [fits_iff] at hfit
      obtain ⟨B, o, cap, c', hl, hv, h2, h3⟩ := hh.at (by omega)
      refine OK.quiet hk hf (run _ _ _ e.size hv hfit.1 hfit.2 h0 (by omega)) (Or.inr ⟨⟨hm, _, rfl⟩, fun ys hys hi => ⟨B, o, cap, hl, ?_⟩⟩)
      rw [add0]
      have : (lo + n).toNat = lo.toNat + n.toNat := by omega
      rw [this, Nat.add_mul]
      congr 3
      omega
    cases c with
    | val ty xs =>
      cases ty with
      | slice e =>
        have hc := hc (by simp)
        simp only at h
        split at h
        · rename_i hsz
          rw [fits_iff] at hsz
          simp only [Option.some.injEq] at h
          subst h
          rw [inR_iff] at ht
          obtain ⟨a, cap, e1, h1, h2, h3⟩ := hc
          simp only [List.cons.injEq, and_true] at e1
          have hlt : n.toNat < xs.length := by omega
          obtain ⟨B, o, row, T, fz, e2, hO, hrow, hs, hv⟩ := h3 (by intro he; rw [he] at hlt; simp at hlt)
          subst e2
          refine OK.quiet hk hf (run _ _ _ e.size e1 hsz.1 hsz.2 ht.1 ht.2) (Or.inr ⟨B, o + n.toNat * e.size, row, T, fz, by rw [add0]; rfl, hO, hrow, ?_, ?_⟩)
          · have : (n.toNat + 1) * e.size ≤ xs.length * e.size := Nat.mul_le_mul_right _ (by omega)
            rw [Nat.add_mul] at this
            omega
          · rw [getI_eq _ _ _ hlt]; exact hv _ hlt
        · cases h
      | _ => simp at h
    | own m e =>
      have hc := hc (by simp)
      simp only at h
      cases hxs : arrAs e (hget k.hp m) with
      | none => rw [hxs] at h; cases h
      | some xs =>
        rw [hxs] at h
        simp only at h
        split at h
        · rename_i hfit
          simp only [Option.some.injEq] at h
          subst h
          rw [inR_iff] at ht
          have := ref m e xs 0 xs.length hxs hc.1.1 (by omega) (by omega) (by omega) (by simpa using hc.2 xs (arrAs_eq hxs)) hfit ht.1 ht.2
          simpa using this
        · cases h
    | sub m e lo hi =>
      have hc := hc (by simp)
      simp only at h
      cases hxs : arrAs e (hget k.hp m) with
      | none => rw [hxs] at h; cases h
      | some xs =>
        rw [hxs] at h
        simp only at h
        split at h
        · rename_i hfit
          simp only [Option.some.injEq] at h
          subst h
          rw [inR_iff] at ht
          obtain ⟨h0, h1, h2, h3⟩ := hc.2 xs (arrAs_eq hxs)
          exact ref m e xs lo (hi - lo) hxs hc.1.1 h0 (by omega) (by omega) h3 hfit ht.1 ht.2
        · cases h
    | _ => simp at h
  · rename_i len el hu
    split at h
    · rename_i hl
      cases hp : ptrOff c (n.toNat * E.P.cellsOf el) with
      | none => rw [hp] at h; cases h
      | some c' =>
        rw [hp] at h
        simp only [Option.map_some, Option.some.injEq] at h
        subst h
        rw [inR_iff] at ht
        obtain ⟨a, ha, hr⟩ := ptrOff_rel hc hp
        obtain ⟨i, hi⟩ := info_of_cells (P := E.P) (t := el) (by omega)
        have hsz := cellsOf_info hi
        subst ha
        refine OK.quiet hk hf (v := .pointer (some (a.add (n.toNat * E.P.cellsOf el)))) ?_ (Or.inr hr)
        simp [Instr.indexAt, asIntOf, run_under k.w hu, ht.1, ht.2, Instr.sureAddr, run_sizeOf' k.w hi, ← hsz]
    · cases h
  · cases h

/-- an element of a text -/
theorem bytesOf_get (s : ByteArray) (i : Nat) (h : i < s.size) : (bytesOf s)[i]? = some ((s[i]'h).toNat : Int) := by
  simp only [bytesOf, List.getElem?_map]
  have : s.data.toList[i]? = some s[i] := by
    rw [Array.getElem?_toList]
    have h' : i < s.data.size := h
    rw [Array.getElem?_eq_getElem h']
    rfl
  rw [this]; rfl

theorem bytesOf_len (s : ByteArray) : (bytesOf s).length = s.size := by simp [bytesOf]

theorem wrap_u8 (b : UInt8) : IntKind.u8.wrap (b.toNat : Int) = (b.toNat : Int) := by
  have := b.toNat_lt
  simp [IntKind.wrap, IntKind.bits, IntKind.signed]
  omega

theorem index_sound {E : Env} {N : Nat} {k : Kx} {fr : Fr} {tmps : Array Value} (hk : HRel N k) (hf : FRel k fr tmps) {t : TypeId} {x : AVal} {v : Value} {q : IntKind} {n : Int} {out : Out}
    (hx : ARel k x v) (h : indexA E t x n = some out) (ht : out.test = true) : OK E N k fr tmps out (Instr.index t v (.int q n)) := by
  unfold indexA at h
  split at h
  · rename_i s hu
    simp only [Option.some.injEq] at h
    subst h
    rw [inR_iff] at ht
    rcases hx with hx | hx
    · cases hx
    · obtain ⟨ba, e, hs, _⟩ := hx
      simp only [List.cons.injEq, and_true] at e
      subst e
      have hl : s.length = ba.size := by rw [hs, bytesOf_len]
      have hlt : n.toNat < ba.size := by omega
      refine OK.quiet hk hf (v := .int .u8 (ba[n.toNat]).toNat) ?_ (Or.inr ?_)
      · have hg : ba[n.toNat]? = some ba[n.toNat] := by simp [hlt]
        simp [Instr.index, asIntOf, run_under k.w hu, ht.1, hg]
      · have : getI (0 : Int) s n = ((ba[n.toNat]).toNat : Int) := by
          simp only [getI, List.getD_eq_getElem?_getD, hs, bytesOf_get ba _ hlt]; rfl
        exact ⟨by rw [this], by rw [this]; exact wrap_u8 _⟩
  · rename_i x _ _ len el hu
    by_cases hg : (isStruct x && wf1 E.P el) = true
    · rw [if_pos hg] at h
      cases hs : span (cellsOf x) (n.toNat * E.P.cellsOf el) (E.P.cellsOf el) with
      | none => rw [hs] at h; cases h
      | some d =>
        rw [hs] at h
        simp only [Option.map_some, Option.some.injEq] at h
        subst h
        rw [inR_iff] at ht
        have hagg : ∃ vs : Array Value, v = .agg vs ∧ CRels k (cellsOf x) vs.toList := by
          cases x with
          | one c => simp [isStruct] at hg
          | tup ps => simp [isStruct] at hg
          | pure t y => obtain ⟨_, vs, e, hv⟩ := hx; exact ⟨vs, e, (flat_rel t y _).1 hv⟩
          | agg cs => exact hx
        obtain ⟨vs, e, hv⟩ := hagg
        subst e
        obtain ⟨h1, h2, h3⟩ := hv.span hs
        simp only [Bool.and_eq_true] at hg
        have hw := hg.2
        have hw' := hw
        simp only [wf1, Bool.and_eq_true, Bool.or_eq_true, decide_eq_true_eq] at hw'
        obtain ⟨dd, hd⟩ := Option.isSome_iff_exists.1 hw'.2
        obtain ⟨i, hi⟩ := info_of_under hd
        have hsz := cellsOf_info hi
        refine OK.quiet hk hf (v := if aggT E.P el then .agg ((vs.toList.drop (n.toNat * E.P.cellsOf el)).take (E.P.cellsOf el)).toArray else ((vs.toList.drop (n.toNat * E.P.cellsOf el)).take (E.P.cellsOf el)).getD 0 undef) ?_ (loaded_rel h1 hw h2)
        simp only [Instr.index, Sem.run_bind, asIntOf, Sem.run_pure, run_under k.w hu, Result.andThen_ok, ht.1, ht.2, and_self, if_true, run_sizeOf' k.w hi, part, run_isAgg k.w hd, ← hsz]
        cases ha : aggT E.P el with
        | true =>
          simp only [if_true, Sem.run_bind, run_sizeOf' k.w hi, Result.andThen_ok, Sem.run_pure, ← hsz]
          congr 2
          apply Array.ext'
          rw [Array.toList_extract]
          simp [List.extract, Nat.add_sub_cancel_left]
        | false =>
          have h1' : E.P.cellsOf el = 1 := by rcases hw'.1 with h | h <;> simp_all
          have hlt : n.toNat < vs.size := by rw [h1'] at h3; simp at h3; omega
          simp only [Bool.false_eq_true, if_false, h1', Nat.mul_one, Array.getElem?_eq_getElem hlt, Sem.run_pure]
          congr 1
          simp [List.getD_eq_getElem?_getD, List.getElem?_take, hlt]
    · rw [if_neg hg] at h; cases h
  · cases h

end Go.Ab
