/-
  ONE OPERATION IS RIGHT: all of them.
-/
import Derived.Test.YteekijpcdcpjkaaAbStep9
set_option linter.unusedVariables false
set_option linter.unusedSimpArgs false
namespace Go.Ab
open Go.RowKit (Below)

/-- The operation's run, and what is true behind it. -/
def Done (E : Env) (N : Nat) (k : Kx) (fr : Fr) (tmps : Array Value) (out : Out) (s : Sem Next) : Prop :=
  (out.made ≠ 0 → ¬ k.U k.nx) → ∃ v k', (s.run E.P k.w = .ok (.value v) k'.w ∨ (s.run E.P k.w = .ok .skip k'.w ∧ v = undef)) ∧ k'.hp = acts (frzAll fr k.hp out.frz).2 out.acts ∧ k'.nx = k.nx + out.made ∧ HRel N k' ∧ FRel k' (frzAll fr k.hp out.frz).1 tmps ∧ ARel k' out.v v ∧ Below N k.w k'.w ∧ Ext k k' ∧ ∀ n, k'.U n → k.U n ∨ (k.nx ≤ n ∧ n < k.nx + out.made)

theorem OK.value {E : Env} {N : Nat} {k : Kx} {fr : Fr} {tmps : Array Value} {out : Out} {s : Sem Value} (h : OK E N k fr tmps out s) : Done E N k fr tmps out (do pure (.value (← s))) := by
  intro hm
  obtain ⟨v, k', h1, h2⟩ := h hm
  exact ⟨v, k', Or.inl (by simp only [Sem.run_bind, h1, Result.andThen_ok, Sem.run_pure]), h2⟩

theorem OK.skip {E : Env} {N : Nat} {k : Kx} {fr : Fr} {tmps : Array Value} {out : Out} {s : Sem Unit} (h : OK E N k fr tmps out (do s; pure undef)) : Done E N k fr tmps out (do s; pure .skip) := by
  intro hm
  obtain ⟨v, k', h1, h2⟩ := h hm
  simp only [Sem.run_bind, Sem.run_pure] at h1
  cases hs : s.run E.P k.w with
  | ok u w' =>
    rw [hs] at h1
    simp only [Result.andThen_ok, Result.ok.injEq] at h1
    obtain ⟨hv, hw⟩ := h1
    subst hw
    exact ⟨v, k', Or.inr ⟨by simp only [Sem.run_bind, hs, Result.andThen_ok, Sem.run_pure], hv.symm⟩, h2⟩
  | halt x w' => rw [hs] at h1; simp [Result.andThen] at h1

theorem Done.pure {E : Env} {N : Nat} {k : Kx} {fr : Fr} {tmps : Array Value} (hk : HRel N k) (hf : FRel k fr tmps) {t : Bool} {a : AVal} {v : Value} (ha : ARel k a v) : Done E N k fr tmps { test := t, v := a } (Pure.pure (.value v)) :=
  fun _ => ⟨v, k, Or.inl rfl, rfl, rfl, hk, hf, ha, Below.refl _ _, Ext.refl k, fun _ h => Or.inl h⟩

theorem capsA_rel {k : Kx} {fr : Fr} {tmps : Array Value} (hf : FRel k fr tmps) {a : Act} (ha : a.tmps = tmps) : ∀ (xs : List Operand) (l : List (Nat × Nat)), capsA fr xs = some l →
    l.length = xs.length ∧ ∀ j (h : j < l.length) (h' : j < xs.length), PtrTo k l[j].1 l[j].2 (a.eval xs[j]) := by
  intro xs
  induction xs with
  | nil => intro l h; simp only [capsA, Option.some.injEq] at h; subst h; exact ⟨rfl, fun j h => absurd h (by simp)⟩
  | cons x r ih =>
    intro l h
    simp only [capsA] at h
    split at h
    · rename_i n off l' hx hl
      simp only [Option.some.injEq] at h
      subst h
      obtain ⟨h1, h2⟩ := ih l' hl
      refine ⟨by simp [h1], fun j hj hj' => ?_⟩
      cases j with
      | zero =>
        have := rdC_rel hf ha x (by rw [hx]; simp)
        rw [hx] at this
        exact this
      | succ j => simpa using h2 j (by simpa using hj) (by simpa using hj')
    · cases h

theorem rdC_rel' {k : Kx} {fr : Fr} {tmps : Array Value} (hf : FRel k fr tmps) {a : Act} (ha : a.tmps = tmps) (x : Operand) : rdC fr x ≠ .undef → CRel k (rdC fr x) (a.eval x) := rdC_rel hf ha x

theorem step_sound {E : Env} (hE : EnvOK E) {N : Nat} {k : Kx} {fr : Fr} {a : Act} (hk : HRel N k) (hf : FRel k fr a.tmps) (hN : N ≤ k.w.heap.size) {o : Oper} {out : Out}
    (h : stepA E (hget k.hp) fr k.nx o.op = some out) (ht : out.test = true) : Done E N k fr a.tmps out (execOp a.eval o) := by
  obtain ⟨dst, op, ty, pos, after, guard⟩ := o
  simp only at h
  unfold stepA at h
  have rc := rdC_rel' hf (a := a) rfl
  have rv := rd_rel hf (a := a) rfl
  split at h
  · simp only [Option.some.injEq] at h; subst h; exact Done.pure hk hf (rv _)
  · simp only [Option.some.injEq] at h; subst h; exact Done.pure hk hf (rv _)
  · split at h
    · rename_i t ty' hty
      split at h
      · simp only [Option.some.injEq] at h; subst h
        exact (alloc_sound hE hk hf hN hty).value
      · cases h
    · cases h
  · split at h
    · rename_i hkn
      simp only [Option.some.injEq] at h; subst h
      exact (box_sound hk hf hN (rv _) hkn).value
    · cases h
  · exact (build_sound hE hk hf rfl h).value
  · exact (buildSlice_sound hE hk hf hN rfl h).value
  · exact (load_sound hE hk hf (rc _) h ht).value
  · exact (store_sound hE hk hf hN (rc _) (rv _) h ht).skip
  · rename_i x
    have hc := rc x
    split at h
    · rename_i n off hx
      simp only [cell, Option.some.injEq] at h; subst h
      rw [hx] at hc
      have hc := hc (by simp)
      obtain ⟨ad, hv⟩ := hc.1.2
      have : execOp a.eval ⟨dst, .nilCheck x, ty, pos, after, guard⟩ = Pure.pure (.value (a.eval x)) := by simp only [execOp, hv]
      rw [this]
      exact Done.pure hk hf (Or.inr hc)
    · rename_i t y off hx
      simp only [cell, Option.some.injEq] at h; subst h
      rw [hx] at hc
      have hc := hc (by simp)
      obtain ⟨B, o', row, T, fz, hv, _⟩ := id hc
      have : execOp a.eval ⟨dst, .nilCheck x, ty, pos, after, guard⟩ = Pure.pure (.value (a.eval x)) := by simp only [execOp, hv]
      rw [this]
      exact Done.pure hk hf (Or.inr hc)
    · rename_i n e i off hx
      simp only [cell, Option.some.injEq] at h; subst h
      rw [hx] at hc
      have hc := hc (by simp)
      obtain ⟨ad, hv⟩ := hc.1.2
      have : execOp a.eval ⟨dst, .nilCheck x, ty, pos, after, guard⟩ = Pure.pure (.value (a.eval x)) := by simp only [execOp, hv]
      rw [this]
      exact Done.pure hk hf (Or.inr hc)
    · rename_i f caps hx
      simp only [cell, Option.some.injEq] at h; subst h
      rw [hx] at hc
      have hc := hc (by simp)
      obtain ⟨vs, hv, _⟩ := id hc
      have : execOp a.eval ⟨dst, .nilCheck x, ty, pos, after, guard⟩ = Pure.pure (.value (a.eval x)) := by simp only [execOp, hv]
      rw [this]
      exact Done.pure hk hf (Or.inr hc)
    · cases h
  · rename_i op' t x y yt
    cases hb : binOpA (boolT E.P t) op' (rdC fr x) (rdC fr y) with
    | none => rw [hb] at h; cases h
    | some r =>
      rw [hb] at h
      simp only [Option.map_some, Option.some.injEq] at h; subst h
      obtain ⟨z, hz, hr⟩ := binOp_sound (x := x) (y := y) (rc x) (rc y) hb ht
      exact (OK.quiet (E := E) (a := .one r.2) hk hf hz (Or.inr hr)).value
  · rename_i op' t x
    cases hb : unOpA op' (rdC fr x) with
    | none => rw [hb] at h; cases h
    | some r =>
      rw [hb] at h
      simp only [Option.map_some, Option.some.injEq] at h; subst h
      obtain ⟨z, hz, hr⟩ := unOp_sound (P := E.P) (rc x) hb
      exact (OK.quiet (E := E) (a := .one r) hk hf hz (Or.inr hr)).value
  · exact (convert_sound hE hk hf hN (rc _) h ht).value
  · rename_i t x
    split at h
    · cases h
    · rename_i d hd hni
      simp only [Option.some.injEq] at h; subst h
      refine (OK.quiet (E := E) (a := .one .undef) (v := .iface t (a.eval x)) hk hf ?_ (Or.inl rfl)).value
      simp only [Instr.makeInterface, Sem.run_bind, run_under k.w hni, Result.andThen_ok]
      cases d <;> first | rfl | (exact absurd rfl (hd _))
    · cases h
  · rename_i f first caps
    split at h
    · rename_i hfs
      cases hcp : capsA fr caps.toList with
      | none => rw [hcp] at h; cases h
      | some l =>
        rw [hcp] at h
        simp only [Option.map_some, Option.some.injEq] at h; subst h
        obtain ⟨h1, h2⟩ := capsA_rel hf (a := a) rfl _ _ hcp
        have hf0 : first = #[] := Array.eq_empty_of_size_eq_zero hfs
        subst hf0
        refine (OK.quiet (E := E) (a := .one (.fn f l)) (v := .func (.func f) #[] (caps.map a.eval)) hk hf ?_ (Or.inr ⟨caps.map a.eval, rfl, by simpa using h1, fun j hj hj' => ?_⟩)).value
        · simp [Instr.makeFunc]
        · have := h2 j hj (by simpa using hj')
          simpa using this
    · cases h
  · rename_i t l c
    split at h
    · rename_i l' c' hl hc
      obtain ⟨q, e1, _⟩ := intAt_rel hf (a := a) rfl hl
      obtain ⟨q', e2, _⟩ := intAt_rel hf (a := a) rfl hc
      have := (make_sound hE hk hf hN (q := q) (q' := q') h ht).value
      rw [← e1, ← e2] at this
      exact this
    · cases h
  · exact (slice_sound hk hf rfl (rc _) h ht).value
  · exact (field_sound hk hf (rc _) h).value
  · exact (fieldV_sound hk hf (rv _) h).value
  · rename_i t x i
    split at h
    · rename_i n hi
      obtain ⟨q, e1, _⟩ := intAt_rel hf (a := a) rfl hi
      have := (indexAddr_sound hk hf (q := q) (rc x) h ht).value
      rw [← e1] at this
      exact this
    · cases h
  · rename_i t x i
    split at h
    · rename_i n hi
      obtain ⟨q, e1, _⟩ := intAt_rel hf (a := a) rfl hi
      have := (index_sound hk hf (q := q) (rv x) h ht).value
      rw [← e1] at this
      exact this
    · cases h
  · rename_i t i
    have hv := rv t
    split at h
    · rename_i ps hps
      rw [hps] at hv
      obtain ⟨vs, e1, hp⟩ := hv
      split at h
      · rename_i agg cs hi
        simp only [Option.some.injEq] at h; subst h
        have key : ∀ (ps : List (Bool × List Cell)) (vs : List Value) (i : Nat), PRels k ps vs → ps[i]? = some (agg, cs) → ∃ v, vs[i]? = some v ∧ PRel k agg cs v := by
          intro ps
          induction ps with
          | nil => intro vs i _ h; simp at h
          | cons p ps ih =>
            intro vs i h h'
            obtain ⟨v, r, e, h1, h2⟩ := h
            subst e
            cases i with
            | zero => simp at h'; subst h'; exact ⟨v, rfl, h1⟩
            | succ i => simp at h'; simpa using ih r i h2 h'
        obtain ⟨v, hvi, hpr⟩ := key ps vs.toList i hp hi
        refine (OK.quiet (E := E) (v := v) hk hf ?_ ?_).value
        · simp only [e1, Instr.extract]
          have : vs[i]? = some v := by simpa using hvi
          rw [this]; rfl
        · unfold PRel at hpr
          unfold mkV
          cases agg with
          | true => exact hpr
          | false =>
            obtain ⟨c, e2, h1⟩ := hpr
            subst e2
            exact h1.imp id And.left
      · cases h
    · cases h
  · rename_i b args ats
    unfold builtinA at h
    split at h
    · rename_i x t r ea et
      have ha : args = #[x] := by apply Array.ext'; simpa using ea
      have ht0 : ats[0]? = some t := by rw [← Array.getElem?_toList, et]; rfl
      subst ha
      cases hl : lenA E (hget k.hp) t (rdC fr x) with
      | none => rw [hl] at h; cases h
      | some n =>
        rw [hl] at h
        simp only [Option.map_some, Option.some.injEq] at h; subst h
        obtain ⟨h1, h2⟩ := len_sound (ty := ty) hk ht0 (rc x) hl
        have := (OK.quiet (E := E) (t := true) (a := .one (.val (.int .i64) n)) hk hf h1 (Or.inr ⟨rfl, h2⟩)).value
        simpa [execOp, resolve, invoke, builtin] using this
    · rename_i x y t u r ea et
      have ha : args = #[x, y] := by apply Array.ext'; simpa using ea
      have ht0 : ats[0]? = some t := by rw [← Array.getElem?_toList, et]; rfl
      have ht1 : ats[1]? = some u := by rw [← Array.getElem?_toList, et]; rfl
      subst ha
      split at h
      · rename_i hu
        have := (append_sound (ty := ty) hE hk hf hN ht0 ht1 hu (rc x) (rc y) h ht).value
        simpa [execOp, resolve, invoke, builtin] using this
      · cases h
    · rename_i x y t r ea et
      have ha : args = #[x, y] := by apply Array.ext'; simpa using ea
      have ht0 : ats[0]? = some t := by rw [← Array.getElem?_toList, et]; rfl
      subst ha
      have := (copy_sound (ty := ty) hE hk hf hN ht0 (rc x) (rc y) h).value
      simpa [execOp, resolve, invoke, builtin] using this
    · rename_i at_ x r ea
      have ha : args = (x :: r).toArray := by apply Array.ext'; simpa using ea
      subst ha
      split at h
      · rename_i q n hx
        cases hfo : foldInts minI q n (r.map (rdC fr)) with
        | none => rw [hfo] at h; cases h
        | some m =>
          rw [hfo] at h
          simp only [Option.map_some, Option.some.injEq] at h; subst h
          have hc := rc x
          rw [hx] at hc
          obtain ⟨e1, e2⟩ := hc (by simp)
          simp only [List.cons.injEq, and_true] at e1
          obtain ⟨h1, h2⟩ := foldInts_sound (P := E.P) (w := k.w) (k := k) (f := minI) (g := Builtin.min2) (q := q) (fun a b q' => by simp [Builtin.min2, minI]) (fun a b => minI_ok) (r.map (rdC fr)) (r.map a.eval) n m (by simp) (fun i c v hc hv hne => by
            simp only [List.getElem?_map, Option.map_eq_some_iff] at hc hv
            obtain ⟨z, hz, rfl⟩ := hc
            obtain ⟨z', hz', rfl⟩ := hv
            rw [hz] at hz'
            cases hz'
            exact rc z hne) e2 hfo
          have := (OK.quiet (E := E) (t := true) (a := .one (.val (.int q) m)) hk hf h1 (Or.inr ⟨rfl, h2⟩)).value
          rw [← e1] at this
          simpa [execOp, resolve, invoke, builtin, Builtin.min_] using this
      · cases h
    · rename_i at_ x r ea
      have ha : args = (x :: r).toArray := by apply Array.ext'; simpa using ea
      subst ha
      split at h
      · rename_i q n hx
        cases hfo : foldInts maxI q n (r.map (rdC fr)) with
        | none => rw [hfo] at h; cases h
        | some m =>
          rw [hfo] at h
          simp only [Option.map_some, Option.some.injEq] at h; subst h
          have hc := rc x
          rw [hx] at hc
          obtain ⟨e1, e2⟩ := hc (by simp)
          simp only [List.cons.injEq, and_true] at e1
          obtain ⟨h1, h2⟩ := foldInts_sound (P := E.P) (w := k.w) (k := k) (f := maxI) (g := Builtin.max2) (q := q) (fun a b q' => by simp [Builtin.max2, maxI]) (fun a b => maxI_ok) (r.map (rdC fr)) (r.map a.eval) n m (by simp) (fun i c v hc hv hne => by
            simp only [List.getElem?_map, Option.map_eq_some_iff] at hc hv
            obtain ⟨z, hz, rfl⟩ := hc
            obtain ⟨z', hz', rfl⟩ := hv
            rw [hz] at hz'
            cases hz'
            exact rc z hne) e2 hfo
          have := (OK.quiet (E := E) (t := true) (a := .one (.val (.int q) m)) hk hf h1 (Or.inr ⟨rfl, h2⟩)).value
          rw [← e1] at this
          simpa [execOp, resolve, invoke, builtin, Builtin.max_] using this
      · cases h
    · cases h
  · cases h

end Go.Ab
