/-
  ONE OPERATION IS RIGHT: maps.
-/
import Derived.Test.YtnklmlnkiepdiaaGreatDoorAbStep5
import Derived.MapKept
set_option linter.unusedVariables false
set_option linter.unusedSectionVars false
set_option linter.unusedSimpArgs false
namespace Go.Ab
variable [Tabs]
open Go.RowKit (Below)
open Go.MapKept (IsKey)

/-! ### keys -/
theorem key_is {P : Program} {kt : TypeId} {k : Ty} (h : keyD P kt k = true) : ∃ d, P.underlying kt = some d ∧ ∀ (w : World) (O : Nat → Prop) (x : k.den) (u : Value), VRel w O k x [u] → IsKey d u ∧ Instr.sameBits 10000 u u = true := by
  unfold keyD at h
  split at h
  · rename_i q q' hu
    simp only [decide_eq_true_eq] at h
    subst h
    refine ⟨_, hu, fun w O x u hv => ?_⟩
    have h1 := hv.1
    simp only [List.cons.injEq, and_true] at h1
    subst h1
    exact ⟨rfl, by simp [Instr.sameBits]⟩
  · rename_i hu
    refine ⟨_, hu, fun w O x u hv => ?_⟩
    have h1 : [u] = [Value.bool x] := hv
    simp only [List.cons.injEq, and_true] at h1
    subst h1
    exact ⟨trivial, by simp [Instr.sameBits]⟩
  · rename_i hu
    refine ⟨_, hu, fun w O x u hv => ?_⟩
    obtain ⟨ba, h1, _⟩ := hv
    simp only [List.cons.injEq, and_true] at h1
    subst h1
    exact ⟨trivial, by simpa [Instr.sameBits] using (Go.MapKept.bytes_beq ba ba).2 rfl⟩
  · cases h

theorem key_same {P : Program} {kt : TypeId} {k : Ty} (h : keyD P kt k = true) {d : TypeDesc} (hd : P.underlying kt = some d) {w : World} {O : Nat → Prop} {x y : k.den} {u v : Value} (hx : VRel w O k x [u]) (hy : VRel w O k y [v]) :
    Instr.sameNow d u v = some (keyEq k x y) := by
  unfold keyD at h
  rw [hd] at h
  split at h
  · rename_i q q' hu
    simp only [Option.some.injEq] at hu
    subst hu
    simp only [decide_eq_true_eq] at h
    subst h
    have h1 := hx.1
    have h2 := hy.1
    simp only [List.cons.injEq, and_true] at h1 h2
    subst h1; subst h2
    simp only [Instr.sameNow, keyEq, if_true]
    congr 1
  · rename_i hu
    simp only [Option.some.injEq] at hu
    subst hu
    have h1 : [u] = [Value.bool x] := hx
    have h2 : [v] = [Value.bool y] := hy
    simp only [List.cons.injEq, and_true] at h1 h2
    subst h1; subst h2
    rfl
  · rename_i hu
    simp only [Option.some.injEq] at hu
    subst hu
    obtain ⟨ba, h1, h3, _⟩ := hx
    obtain ⟨bb, h2, h4, _⟩ := hy
    simp only [List.cons.injEq, and_true] at h1 h2
    subst h1; subst h2
    simp only [Instr.sameNow, keyEq]
    congr 1
    rw [Bool.eq_iff_iff, Go.MapKept.bytes_beq, decide_eq_true_eq, h3, h4, bytesOf_inj]
    constructor
    · intro e; rw [e]
    · intro e
      cases ba; cases bb
      congr 1
      exact Array.ext' e
  · cases h

theorem find_rel {P : Program} {kt : TypeId} {k v : Ty} (h : keyD P kt k = true) {d : TypeDesc} (hd : P.underlying kt = some d) {w : World} {O : Nat → Prop} {a : k.den} {u : Value} (ha : VRel w O k a [u]) :
    ∀ (xs : List (k.den × v.den)) (l : List MapEntry) (i : Nat), l.length = xs.length → (∀ j (h : j < xs.length) (h' : j < l.length), VRel w O k xs[j].1 [l[j].key]) →
      (mapGet xs a = none ∧ Instr.findNow d u l i = some none ∧ ∀ y, mapPut xs a y = xs ++ [(a, y)]) ∨
      ∃ j, ∃ (h : j < xs.length) (h' : j < l.length), mapGet xs a = some xs[j].2 ∧ Instr.findNow d u l i = some (some (i + j, l[j].val)) ∧ (∀ y, mapPut xs a y = xs.set j (a, y)) ∧ Instr.sameNow d u l[j].key = some true := by
  intro xs
  induction xs with
  | nil =>
    intro l i hl _
    have : l = [] := List.eq_nil_of_length_eq_zero hl
    subst this
    exact Or.inl ⟨rfl, rfl, fun y => rfl⟩
  | cons x xs ih =>
    intro l i hl hr
    cases l with
    | nil => simp at hl
    | cons e l =>
      have h0 := key_same h hd ha (hr 0 (by simp) (by simp))
      simp only [List.getElem_cons_zero] at h0
      cases hq : keyEq k a x.1 with
      | true =>
        rw [hq] at h0
        refine Or.inr ⟨0, by simp, by simp, ?_, ?_, fun y => ?_, h0⟩
        · simp [mapGet, hq]
        · simp [Instr.findNow, h0]
        · simp [mapPut, hq]
      | false =>
        rw [hq] at h0
        rcases ih l (i + 1) (by simpa using hl) (fun j h1 h2 => hr (j + 1) (by simpa using h1) (by simpa using h2)) with ⟨g1, g2, g3⟩ | ⟨j, h1, h2, g1, g2, g3, g4⟩
        · refine Or.inl ⟨by simp [mapGet, hq, g1], by simp [Instr.findNow, h0, g2], fun y => by simp [mapPut, hq, g3]⟩
        · refine Or.inr ⟨j + 1, by simpa using h1, by simpa using h2, by simp [mapGet, hq, g1], ?_, fun y => by simp [mapPut, hq, g3], by simpa using g4⟩
          simp only [Instr.findNow, h0, g2, List.getElem_cons_succ]
          congr 3
          omega

/-! ### values -/
theorem valA_rel {k : Kx} {t : Ty} {x : t.den} {v : Value} (hm : Made t.isAgg v) (hv : VRel k.w k.O t x v.cells.toList) : ARel k (valA t x) v := by
  unfold valA
  cases ht : t.isAgg with
  | true =>
    rw [ht] at hm
    obtain ⟨vs, e⟩ := hm
    subst e
    exact ⟨ht, vs, rfl, hv⟩
  | false =>
    rw [ht] at hm
    have hm : v.cells = #[v] := hm
    rw [hm] at hv
    exact Or.inr hv

theorem part_rel {k : Kx} {t : Ty} {x : t.den} {v : Value} (hm : Made t.isAgg v) (hv : VRel k.w k.O t x v.cells.toList) : PRel k t.isAgg (flat t x) v := by
  unfold PRel
  cases ht : t.isAgg with
  | true =>
    rw [ht] at hm
    obtain ⟨vs, e⟩ := hm
    subst e
    exact ⟨vs, rfl, (flat_rel _ _ _).1 hv⟩
  | false =>
    rw [ht] at hm
    have hm : v.cells = #[v] := hm
    have hf : flat t x = [.val t x] := by cases t <;> first | rfl | (simp [Ty.isAgg] at ht)
    rw [hm] at hv
    exact ⟨_, hf, Or.inr ⟨hv, hm⟩⟩

theorem zero_made {P : Program} {t : TypeId} {agg : Bool} {i : TypeInfo} {z : Value} (h : zeroMade P t agg = true) (hi : P.info? t = some i) (hz : i.zero = some z) : Made agg z := by
  unfold zeroMade at h
  rw [hi] at h
  simp only [Option.bind_some, hz] at h
  unfold Made
  cases z with
  | agg vs =>
    have h : agg = true := h
    subst h; exact ⟨vs, rfl⟩
  | _ =>
    simp only [Bool.and_eq_true, Bool.not_eq_true'] at h
    obtain ⟨h1, h2⟩ := h
    subst h1
    exact cells_one h2

/-! ### the operations -/
theorem makeMap_sound {E : Env} {N : Nat} {k : Kx} {fr : Fr} {a : Act} (hk : HRel N k) (hf : FRel k fr a.tmps) (hN : N ≤ k.w.heap.size) {t : TypeId} {r : Option Operand} {out : Out}
    (h : makeMapA E fr k.nx t r = some out) : OK E N k fr a.tmps out (Instr.makeMap t (r.map a.eval)) := by
  unfold makeMapA at h
  split at h
  · rename_i kt vt k' v' hu hty
    split at h
    · rename_i hg
      simp only [Bool.and_eq_true] at hg
      obtain ⟨_, hr⟩ := hg
      simp only [Option.some.injEq] at h
      subst h
      have run : (Instr.makeMap t (r.map a.eval)).run E.P k.w = .ok (.map (some k.w.heap.size)) { k.w with heap := k.w.heap.push (.map #[] 0) } := by
        cases r with
        | none => simp [Instr.makeMap]
        | some x =>
          cases hi : intAt fr x with
          | none => simp [optInt, hi] at hr
          | some n =>
            obtain ⟨q, e1, _⟩ := intAt_rel hf (a := a) rfl hi
            simp [Instr.makeMap, e1, run_under k.w hu, asInt, asIntOf]
      refine OK.new0 (rm := none) (l := .at_ k.w.heap.size 0 0) hk hf (newName_alloc hN rfl 0 0) run (fun hx => ?_) (fun hx => ?_) ⟨rfl, rfl, rfl⟩
      · exact ⟨k.w.heap.size, #[], 0, upd_same _ _ _, heap_push_new rfl, rfl, fun i h => absurd h (by simp)⟩
      · exact ⟨⟨Or.inr rfl, rfl⟩, fun xs hxs => ⟨k.w.heap.size, upd_same _ _ _, rfl⟩⟩
    · cases h
  · cases h

theorem lookup_sound {E : Env} (hE : EnvOK E) {N : Nat} {k : Kx} {fr : Fr} {tmps : Array Value} (hk : HRel N k) (hf : FRel k fr tmps) {t : TypeId} {x i : Cell} {v u : Value} {ok : Bool} {out : Out}
    (hx : x ≠ .undef → CRel k x v) (hi : i ≠ .undef → CRel k i u) (h : lookupA E (hget k.hp) t x i ok = some out) : OK E N k fr tmps out (Instr.lookup t v u ok) := by
  unfold lookupA at h
  split at h
  · rename_i kt vt kk vv hu hty
    split at h
    · rename_i hg
      simp only [Bool.and_eq_true, decide_eq_true_eq] at hg
      obtain ⟨⟨hkd, hzm⟩, hvt⟩ := hg
      split at h
      · rename_i es b hes hb
        simp only [Option.some.injEq] at h
        subst h
        have hine : i ≠ .undef := by
          intro e; subst e
          cases kk <;> simp [cellAs] at hb
        have hkey : VRel k.w k.O kk b [u] := cellAs_sound hk (hi hine) hb (fun _ h => h) (fun n hn => by
          unfold keyD at hkd
          split at hkd
          · cases i <;> first | (simp [ownOf] at hn; done) | (simp [cellAs] at hb)
          · cases i <;> first | (simp [ownOf] at hn; done) | (simp [cellAs] at hb)
          · cases i <;> first | (simp [ownOf] at hn; done) | (simp [cellAs] at hb)
          · cases hkd)
        obtain ⟨d, hd, hkk⟩ := key_is hkd
        obtain ⟨hisk, _⟩ := hkk _ _ _ _ hkey
        obtain ⟨iv, z, hiv, hz, hzc, _, _⟩ := hE vt vv hvt
        have hzr : VRel k.w k.O vv vv.dflt z.cells.toList := by rw [hzc]; exact dflt_rel _ _ _
        have hzmade := zero_made hzm hiv hz
        -- what comes back
        have fin : ∀ (y : Value) (b' : Bool) (val : vv.den), Made vv.isAgg y → VRel k.w k.O vv val y.cells.toList → (Instr.lookup t v u ok).run E.P k.w = .ok (if ok then .tuple #[y, .bool b'] else y) k.w →
            (mapGet es b).getD vv.dflt = val → (mapGet es b).isSome = b' → OK E N k fr tmps { test := true, v := if ok then .tup [(vv.isAgg, flat vv ((mapGet es b).getD vv.dflt)), (false, [.val .bool (mapGet es b).isSome])] else valA vv ((mapGet es b).getD vv.dflt) } (Instr.lookup t v u ok) := by
          intro y b' val h1 h2 h3 h4 h5
          rw [h4, h5]
          refine OK.quiet hk hf h3 ?_
          cases ok with
          | true => exact ⟨#[y, .bool b'], rfl, y, [.bool b'], rfl, part_rel h1 h2, .bool b', [], rfl, ⟨_, rfl, Or.inr ⟨rfl, rfl⟩⟩, rfl⟩
          | false => exact valA_rel h1 h2
        -- the two kinds of maps
        have real : ∀ (B : Nat) (ents : Array MapEntry) (clk : Nat), v = .map (some B) → k.w.heap[B]? = some (.map ents clk) → EntRel (VRel k.w k.O) kk vv es ents → OK E N k fr tmps { test := true, v := if ok then .tup [(vv.isAgg, flat vv ((mapGet es b).getD vv.dflt)), (false, [.val .bool (mapGet es b).isSome])] else valA vv ((mapGet es b).getD vv.dflt) } (Instr.lookup t v u ok) := by
          intro B ents clk hv hB hrel
          subst hv
          have hck := Go.MapKept.run_checkKey (P := E.P) (w := k.w) hd hisk ents.isEmpty 9999
          rcases find_rel hkd hd hkey es ents.toList 0 (by simpa using hrel.1) (fun j h1 h2 => by simpa using (hrel.2 j h1 (by simpa using h2)).1) with ⟨g1, g2, _⟩ | ⟨j, h1, h2, g1, g2, _, _⟩
          · refine fin z false vv.dflt hzmade hzr ?_ (by rw [g1]; rfl) (by rw [g1]; rfl)
            simp only [Instr.lookup, Sem.run_bind, run_under k.w hu, Result.andThen_ok, Go.MapKept.run_getObj_map hB, Sem.run_pure, hck, Go.MapKept.run_findKey (P := E.P) (w := k.w) hd g2]
            simp only [Sem.run_bind, run_zero k.w hiv hz, Result.andThen_ok, Sem.run_pure]
          · have h2' : j < ents.size := by simpa using h2
            refine fin ents[j].val true es[j].2 (hrel.2 j h1 h2').2.1 (hrel.2 j h1 h2').2.2 ?_ (by rw [g1]; rfl) (by rw [g1]; rfl)
            simp only [Instr.lookup, Sem.run_bind, run_under k.w hu, Result.andThen_ok, Go.MapKept.run_getObj_map hB, Sem.run_pure, hck, Go.MapKept.run_findKey (P := E.P) (w := k.w) hd g2, Array.getElem_toList]
        have pure_ : VRel k.w k.O (.map kk vv) es [v] → OK E N k fr tmps { test := true, v := if ok then .tup [(vv.isAgg, flat vv ((mapGet es b).getD vv.dflt)), (false, [.val .bool (mapGet es b).isSome])] else valA vv ((mapGet es b).getD vv.dflt) } (Instr.lookup t v u ok) := by
          intro hv
          rcases hv with ⟨h1, h2⟩ | ⟨B, ents, clk, h1, _, h2, h3⟩
          · simp only [List.cons.injEq, and_true] at h1
            subst h1; subst h2
            have hck := Go.MapKept.run_checkKey (P := E.P) (w := k.w) hd hisk true 9999
            have g2 : Instr.findNow d u [] 0 = some none := rfl
            refine fin z false vv.dflt hzmade hzr ?_ rfl rfl
            simp only [Instr.lookup, Sem.run_bind, run_under k.w hu, Result.andThen_ok, Sem.run_pure, run_zero k.w hiv hz]
            have e1 : (#[] : Array MapEntry).isEmpty = true := rfl
            rw [e1, hck]
            simp only [Result.andThen_ok, Go.MapKept.run_findKey (P := E.P) (w := k.w) hd g2]
            simp only [Sem.run_bind, run_zero k.w hiv hz, Result.andThen_ok, Sem.run_pure]
          · simp only [List.cons.injEq, and_true] at h1
            exact real B ents clk h1 h2 h3
        cases x with
        | mp n k' v' =>
          simp only [mapOfA] at hes
          split at hes
          · rename_i he
            obtain ⟨e1, e2⟩ := he
            subst e1; subst e2
            have hbl := mapAs_eq hes
            obtain ⟨B, ents, clk, q1, q2, q3⟩ := hk.blk n _ hbl
            obtain ⟨B', q4, q5⟩ := (hx (by simp)).2 _ hbl
            rw [q1] at q4
            simp only [Loc.at_.injEq] at q4
            obtain ⟨q4, _⟩ := q4
            subst q4
            exact real B ents clk q5 q2 q3
          · cases hes
        | val t' y =>
          simp only [mapOfA] at hes
          obtain ⟨e, rfl⟩ := asTy_eq hes
          subst e
          exact pure_ (hx (by simp))
        | _ => simp [mapOfA] at hes
      · cases h
    · cases h
  · cases h

theorem reify_vrel {N : Nat} {k : Kx} (hk : HRel N k) {x : AVal} {u : Value} {v : Ty} {y : v.den} (hx : ARel k x u) (hkn : known x = true) (h : reify (hget k.hp) v x = some y) : VRel k.w (frzKs k (owns (cellsOf x))).O v y u.cells.toList := by
  have gen : parseAll (hget k.hp) v (cellsOf x) = some y → VRel k.w (frzKs k (owns (cellsOf x))).O v y u.cells.toList := fun hp =>
    parseAll_sound hk (fun B hB => (frzKs_O _ k B hk hB).1) (hx.cells hkn) hp (clear_frz hk _ _ fun c hc n hn => owns_mem hc hn)
  unfold reify at h
  split at h
  · rename_i t' x'
    obtain ⟨e, rfl⟩ := asTy_eq h
    subst e
    obtain ⟨_, vs, e, hv⟩ := hx
    subst e
    exact VRel.mono (fun _ _ _ => rfl) (fun B hB _ => (frzKs_O _ k B hk hB).1) _ _ _ hv
  · rw [if_pos hkn] at h
    exact gen h

theorem mapUpdate_sound {E : Env} {N : Nat} {k : Kx} {fr : Fr} {tmps : Array Value} (hk : HRel N k) (hf : FRel k fr tmps) (hN : N ≤ k.w.heap.size) {t : TypeId} {m i : Cell} {x : AVal} {v u y : Value} {out : Out}
    (hm : m ≠ .undef → CRel k m v) (hi : i ≠ .undef → CRel k i u) (hx : ARel k x y) (h : mapUpdateA E (hget k.hp) t m i x = some out) : OK E N k fr tmps out (do Instr.mapUpdate t v u y; pure undef) := by
  unfold mapUpdateA at h
  split at h
  rotate_left
  · cases h
  rename_i n k' v'
  split at h
  · rename_i kt vt kk vv hu hty
    split at h
    · rename_i hg
      simp only [Bool.and_eq_true, decide_eq_true_eq, beq_iff_eq] at hg
      obtain ⟨⟨⟨hkd, hst⟩, hkn⟩, he1, he2⟩ := hg
      subst he1; subst he2
      split at h
      · rename_i es b z hes hb hz
        split at h
        · rename_i hself
          simp only [Option.some.injEq] at h
          subst h
          have hbl := mapAs_eq hes
          have hine : i ≠ .undef := by
            intro e; subst e
            cases k' <;> simp [cellAs] at hb
          have hkey0 : ∀ (O2 : Nat → Prop), (∀ B, O2 B → k.O B) → VRel k.w O2 k' b [u] := fun O2 hO2 => cellAs_sound hk (hi hine) hb hO2 (fun n hn => by
            unfold keyD at hkd
            split at hkd
            · cases i <;> first | (simp [ownOf] at hn; done) | (simp [cellAs] at hb)
            · cases i <;> first | (simp [ownOf] at hn; done) | (simp [cellAs] at hb)
            · cases i <;> first | (simp [ownOf] at hn; done) | (simp [cellAs] at hb)
            · cases hkd)
          have hkey := hkey0 k.O (fun _ h => h)
          obtain ⟨d, hd, hkk⟩ := key_is hkd
          obtain ⟨hisk, hbits⟩ := hkk _ _ _ _ hkey
          obtain ⟨B, ents, clk, q1, q2, q3⟩ := hk.blk n _ hbl
          obtain ⟨B', q4, q5⟩ := (hm (by simp)).2 _ hbl
          rw [q1] at q4
          simp only [Loc.at_.injEq] at q4
          obtain ⟨q4, _⟩ := q4
          subst q4
          have hck := Go.MapKept.run_checkKey (P := E.P) (w := k.w) hd hisk false 9999
          have hmade : Made v'.isAgg y := by
            cases x with
            | one c =>
              have : v'.isAgg = false := hst.symm
              rw [this]
              rcases hx with hx | hx
              · subst hx; simp [known] at hkn
              · exact cells_one hx.one
            | pure t' x' =>
              have : v'.isAgg = true := hst.symm
              rw [this]
              obtain ⟨_, vs, e, _⟩ := hx
              exact ⟨vs, e⟩
            | agg cs =>
              have : v'.isAgg = true := hst.symm
              rw [this]
              obtain ⟨vs, e, _⟩ := hx
              exact ⟨vs, e⟩
            | tup ps => simp [known] at hkn
          have hval := reify_vrel hk hx hkn hz
          obtain ⟨g1, g2, g3, g4, g5, g6⟩ := frzAll_rel (owns (cellsOf x)) k fr tmps hk hf
          have hcont : n ∉ owns (cellsOf x) := by simpa using hself
          have hb' : hget (frzKs k (owns (cellsOf x))).hp n = some (.map k' v' es) := by
            have gen : ∀ (ns : List Nat) (k : Kx), hget k.hp n = some (.map k' v' es) → n ∉ ns → hget (frzKs k ns).hp n = some (.map k' v' es) := by
              intro ns
              induction ns with
              | nil => intro k h _; exact h
              | cons m r ih =>
                intro k h hn
                simp only [frzKs]
                cases hbm : hget k.hp m with
                | none => exact ih k h (fun h => hn (by simp [h]))
                | some c =>
                  refine ih (frzK k m c) ?_ (fun h => hn (by simp [h]))
                  simp only [frzK, hget_map, hget_hrem]
                  rw [if_neg (fun e => hn (by simp [e])), h]
                  rfl
            exact gen _ k hbl hcont
          have hent : EntRel (VRel k.w (frzKs k (owns (cellsOf x))).O) k' v' es ents := q3.mono fun t x cs h => VRel.mono (fun _ _ _ => rfl) (fun B hB _ => (frzKs_O _ k B hk hB).1) _ _ _ h
          have hkeyF := hkey0 (frzKs k (owns (cellsOf x))).O (fun B hB => (frzKs_O _ k B hk hB).1)
          -- a new content
          have fin : ∀ (ents' : Array MapEntry) (clk' : Nat), (Instr.mapUpdate t v u y).run E.P k.w = .ok () { k.w with heap := k.w.heap.setIfInBounds B (.map ents' clk') } →
              EntRel (VRel k.w (frzKs k (owns (cellsOf x))).O) k' v' (mapPut es b z) ents' → OK E N k fr tmps { test := true, v := .one .undef, frz := owns (cellsOf x), acts := [.put n (.map k' v' (mapPut es b z))] } (do Instr.mapUpdate t v u y; pure undef) := by
            intro ents' clk' hrun hrel
            have hset := Go.MapKept.heap_set (o' := .map ents' clk') q2
            have hw : Write (frzKs k (owns (cellsOf x))) { k.w with heap := k.w.heap.setIfInBounds B (.map ents' clk') } n (.map k' v' es) (.map k' v' (mapPut es b z)) := by
              refine ⟨hb', ⟨rfl, rfl⟩, ?_, fun C hC => ?_⟩
              · show (k.w.heap.setIfInBounds B _).size = _
                rw [g4]; simp
              · rw [g4]
                refine hset.2 C fun e => hC ?_
                rw [g6, q1, e]; rfl
            refine OK.write (v := undef) hk hf hN (owns (cellsOf x)) hw (by simp only [Sem.run_bind, hrun, Result.andThen_ok, Sem.run_pure]) (fun hx' => ?_) (fun _ => Or.inl rfl) ⟨rfl, rfl, rfl⟩
            refine ⟨B, ents', clk', ?_, hset.1, hrel.mono fun t x cs h => ?_⟩
            · show (frzKs k (owns (cellsOf x))).μ n = _
              rw [g6, q1]
            · rw [← g4] at h
              exact hx'.v h
          subst q5
          rcases find_rel hkd hd hkey es ents.toList 0 (by simpa using q3.1) (fun j h1 h2 => by simpa using (q3.2 j h1 (by simpa using h2)).1) with ⟨e1, e2, e3⟩ | ⟨j, h1, h2, e1, e2, e3, e4⟩
          · refine fin (ents.push { key := u, val := y, born := clk }) (clk + 1) ?_ ?_
            · simp only [Instr.mapUpdate, Sem.run_bind, run_under k.w hu, Result.andThen_ok, Go.MapKept.run_getObj_map q2, hck, Go.MapKept.run_findKey (P := E.P) (w := k.w) hd e2, Go.MapKept.run_setObj_map _ q2]
            · rw [e3]
              refine ⟨by simp [hent.1], fun j h1 h2 => ?_⟩
              by_cases hj : j < es.length
              · have hj' : j < ents.size := by rw [hent.1]; exact hj
                have := hent.2 j hj hj'
                rw [List.getElem_append_left hj, Array.getElem_push_lt hj']
                exact this
              · have hj2 : j = ents.size := by simp at h2; have := hent.1; omega
                subst hj2
                have hle : es.length ≤ ents.size := by rw [hent.1]; exact Nat.le_refl _
                rw [Array.getElem_push_eq]
                have e5 : (es ++ [(b, z)])[ents.size] = (b, z) := by
                  rw [List.getElem_append_right hle]
                  simp
                rw [e5]
                exact ⟨hkeyF, hmade, hval⟩
          · have h2' : j < ents.size := by simpa using h2
            have hsame : Instr.keyThatStays ents[j].key u = pure u := by
              have : Instr.sameBits 10000 ents[j].key u = true := by
                have hkj := (q3.2 j h1 h2').1
                have hs := key_same hkd hd hkey hkj
                simp only [Array.getElem_toList] at e4
                -- equal keys are one value
                have hisj := (hkk _ _ _ _ hkj).1
                obtain ⟨r, hr1, hr2⟩ := Go.MapKept.sameNow_of_keys hisk hisj
                rw [hr1] at e4
                have : r = true := Option.some.inj e4
                rw [← hr2.1 this]
                exact hbits
              simp [Instr.keyThatStays, this]
            refine fin (ents.modify j fun e => { e with key := u, val := y }) clk ?_ ?_
            · have e6 : ((ents[j]?).map (·.key)).getD u = ents[j].key := by
                rw [Array.getElem?_eq_getElem h2']; rfl
              simp only [Instr.mapUpdate, Sem.run_bind, run_under k.w hu, Result.andThen_ok, Go.MapKept.run_getObj_map q2, hck, Go.MapKept.run_findKey (P := E.P) (w := k.w) hd e2, Nat.zero_add, e6, hsame, Sem.run_pure, Go.MapKept.run_setObj_map _ q2]
            · rw [e3]
              refine ⟨by simp [hent.1], fun l h3 h4 => ?_⟩
              have h3' : l < es.length := by simpa using h3
              have h4' : l < ents.size := by simpa using h4
              rw [Array.getElem_modify]
              by_cases hl : j = l
              · subst hl
                simp only [if_true, List.getElem_set_self]
                exact ⟨hkeyF, hmade, hval⟩
              · rw [if_neg hl, List.getElem_set_ne hl]
                exact hent.2 l h3' h4'
        · cases h
      · cases h
    · cases h
  · cases h

end Go.Ab
