/-
  TEMPLATES: the state that is filled is true.
-/
import Derived.Test.YteekijpcdcpjkaaAbPack3
set_option linter.unusedVariables false
set_option linter.unusedSimpArgs false
namespace Go.Ab
open Go.RowKit (Below)

theorem nodupB_iff : ∀ {l : List Nat}, nodupB l = true → l.Nodup := by
  intro l
  induction l with
  | nil => intro _; exact List.nodup_nil
  | cons a r ih =>
    intro h
    simp only [nodupB, Bool.and_eq_true, Bool.not_eq_true', List.contains_eq_mem, decide_eq_false_iff_not] at h
    exact List.nodup_cons.2 ⟨h.1, ih h.2⟩

def entAt (es : List Ent) (n : Nat) : Option Ent := es.find? fun x => x.name == n

theorem entAt_mem {es : List Ent} {n : Nat} {x : Ent} (h : entAt es n = some x) : x ∈ es ∧ x.name = n := by
  refine ⟨List.mem_of_find?_eq_some h, ?_⟩
  have := List.find?_some h
  simpa using this

theorem entAt_of : ∀ {es : List Ent}, (es.map Ent.name).Nodup → ∀ x ∈ es, entAt es x.name = some x := by
  intro es
  induction es with
  | nil => intro _ x hx; cases hx
  | cons y r ih =>
    intro h x hx
    simp only [List.map_cons, List.nodup_cons] at h
    unfold entAt
    rw [List.find?_cons]
    rcases List.mem_cons.1 hx with e | hx
    · subst e; simp
    · have hne : (y.name == x.name) = false := by
        simp only [beq_eq_false_iff_ne, ne_eq]
        intro e
        exact h.1 (by rw [e]; exact List.mem_map.2 ⟨x, hx, rfl⟩)
      rw [hne]
      exact ih h.2 x hx

theorem hget_ents : ∀ (es : List Ent) (n : Nat), hget (es.map Ent.pair) n = (entAt es n).map fun x => x.pair.2 := by
  intro es
  induction es with
  | nil => intro n; rfl
  | cons y r ih =>
    intro n
    have hp : Ent.pair y = (y.name, y.pair.2) := by cases y <;> rfl
    simp only [List.map_cons]
    rw [hp]
    simp only [hget]
    unfold entAt
    rw [List.find?_cons]
    by_cases h : y.name = n
    · simp [h]
    · have hne : (y.name == n) = false := by simpa using h
      rw [if_neg h, hne]
      exact ih n

theorem src_inj : ∀ {es : List Ent}, (es.filterMap Ent.src).Nodup → ∀ x ∈ es, ∀ y ∈ es, ∀ m, x.src = some m → y.src = some m → x = y := by
  intro es
  induction es with
  | nil => intro _ x hx; cases hx
  | cons z r ih =>
    intro h x hx y hy m h1 h2
    have hr : (r.filterMap Ent.src).Nodup := by
      rw [List.filterMap_cons] at h
      split at h
      · exact h
      · exact (List.nodup_cons.1 h).2
    have hz : ∀ u ∈ r, z.src = some m → u.src = some m → False := by
      intro u hu e1 e2
      rw [List.filterMap_cons, e1] at h
      exact (List.nodup_cons.1 h).1 (List.mem_filterMap.2 ⟨u, hu, e2⟩)
    rcases List.mem_cons.1 hx with e | gx
    · rcases List.mem_cons.1 hy with e' | gy
      · rw [e, e']
      · subst e; exact (hz y gy h1 h2).elim
    · rcases List.mem_cons.1 hy with e' | gy
      · subst e'; exact (hz x gx h2 h1).elim
      · exact ih hr x gx y gy m h1 h2

/-- The blocks that a template gives, put together. -/
theorem assemble {N : Nat} {k : Kx} (hk : HRel N k) {ρ : Ren} {names refs : List Nat} {l : List Item} {es : List Ent} {hs : List Cell} {hp : Hp} {nx : Nat} (P : Part k [] ρ names refs l es hs hp) (hnd : names.Nodup) (hnl : (ownItems l).Nodup) (hnx : ∀ n ∈ names, n < nx) (href : ∀ n ∈ refs, n < nx) :
    ∃ k' : Kx, k'.w = k.w ∧ k'.hp = hp ∧ k'.nx = nx ∧ k'.X = k.X ∧ ((∀ B, k'.O B → k.O B) ∧ ∀ B, k'.Own B → k.Own B) ∧ HRel N k' ∧ Fits k k' ρ es hs ∧ (∀ x ∈ es, k'.μ x.name = x.loc k) ∧ (∀ n b, hget k'.hp n = some b → ∃ x ∈ es, x.name = n ∧ x.pair.2 = b) ∧ k'.U = fun n => n < nx := by
  have hnames : (es.map Ent.name).Nodup := by rw [P.names]; exact hnd
  have hown : (es.filterMap Ent.src ++ hs.flatMap ownOf).Nodup := (P.own.nodup_iff).1 hnl
  have hsrc := (List.nodup_append.1 hown).1
  have hdis := (List.nodup_append.1 hown).2.2
  have hren0 : RenOK ρ := P.grow.ok ⟨by simp, by simp⟩
  -- the state
  let k' : Kx := ⟨k.w, es.map Ent.pair, fun n => match entAt es n with | some x => x.loc k | none => .none, nx, k.X, fun n => n < nx⟩
  have hget' : ∀ n b, hget k'.hp n = some b → ∃ x ∈ es, x.name = n ∧ x.pair.2 = b := by
    intro n b h
    have h : hget (es.map Ent.pair) n = some b := h
    rw [hget_ents] at h
    cases he : entAt es n with
    | none => rw [he] at h; cases h
    | some x =>
      rw [he] at h
      simp only [Option.map_some, Option.some.injEq] at h
      obtain ⟨g1, g2⟩ := entAt_mem he
      exact ⟨x, g1, g2, h⟩
  have hμ' : ∀ x ∈ es, k'.μ x.name = x.loc k := by
    intro x hx
    show (match entAt es x.name with | some x => x.loc k | none => .none) = _
    rw [entAt_of hnames x hx]
  have hof : ∀ x ∈ es, hget k'.hp x.name = some x.pair.2 := by
    intro x hx
    show hget (es.map Ent.pair) x.name = _
    rw [hget_ents, entAt_of hnames x hx]
    rfl
  -- where a block comes from
  have from_ : ∀ x ∈ es, ∀ B, (x.loc k).block = some B → ∃ m b, hget k.hp m = some b ∧ (k.μ m).block = some B ∧
      ((∃ e xs, b = .arr e xs ∧ x.src = some m) ∨ (∃ cs0, b = .var cs0 ∧ ∃ n cs, x = .var n cs m ∧ renOf ρ n = some m)) := by
    intro x hx B hB
    have hg := P.good x hx
    cases x with
    | arr n e xs src loc =>
      obtain ⟨m, h3, ⟨ys, h4⟩, h5⟩ := hg.2 B hB
      exact ⟨m, _, h4, h5, Or.inl ⟨e, ys, rfl, h3⟩⟩
    | var n cs m =>
      obtain ⟨h3, ⟨cs0, h4⟩, _⟩ := hg
      exact ⟨m, _, h4, hB, Or.inr ⟨cs0, rfl, n, cs, rfl, h3⟩⟩
  have ownFrom : ∀ B, k'.Own B → ∃ x ∈ es, (x.loc k).block = some B := by
    rintro B ⟨n, b, h3, h4⟩
    obtain ⟨x, hx, hn, _⟩ := hget' n b h3
    subst hn
    rw [hμ' x hx] at h4
    exact ⟨x, hx, h4⟩
  have hOw : ∀ B, k'.Own B → k.Own B := by
    intro B hB
    obtain ⟨x, hx, hl⟩ := ownFrom B hB
    obtain ⟨m, b, h3, h4, _⟩ := from_ x hx B hl
    exact ⟨m, b, h3, h4⟩
  have hO : ∀ B, k'.O B → k.O B := fun B hB => hB.imp id (hOw B)
  have hlt : ∀ x ∈ es, x.name < nx := by
    intro x hx
    exact hnx x.name (by
      have : x.name ∈ es.map Ent.name := List.mem_map.2 ⟨x, hx, rfl⟩
      rw [P.names] at this
      exact this)
  have hreflt : ∀ n m, renOf ρ n = some m → n < nx := by
    intro n m h
    rcases P.grow.new n m h with h | h
    · simp [renOf] at h
    · exact href n h
  have hfits : Fits k k' ρ es hs := by
    refine ⟨rfl, hO, fun x hx => ⟨fun b hb => ?_, hμ' x hx, hlt x hx⟩, fun n m h => ⟨hreflt n m h, fun cs hcs => ?_⟩, fun c hc n hn harr B hB hOB => ?_⟩
    · rw [hof x hx] at hb; exact (Option.some.inj hb).symm
    · obtain ⟨x, hx, hn, hb⟩ := hget' n _ hcs
      have hg := P.good x hx
      cases x with
      | arr q e xs src loc => cases hb
      | var q cs' m' =>
        have hn : q = n := hn
        subst hn
        obtain ⟨h3, h4, _⟩ := hg
        rw [h] at h3
        have : m = m' := Option.some.inj h3
        subst this
        exact ⟨hμ' _ hx, h4⟩
    · obtain ⟨e, xs, harr⟩ := harr
      rcases hOB with hX | hOB
      · exact hk.xown B hX ⟨n, _, harr, hB⟩
      · obtain ⟨x, hx, hl⟩ := ownFrom B hOB
        obtain ⟨m, b, h3, h4, h5⟩ := from_ x hx B hl
        have hnm := hk.inj n m _ b B harr h3 hB h4
        subst hnm
        rcases h5 with ⟨e', xs', hb, hs'⟩ | ⟨cs0, hb, _⟩
        · exact hdis n (List.mem_filterMap.2 ⟨x, hx, hs'⟩) n (List.mem_flatMap.2 ⟨c, hc, hn⟩) rfl
        · subst hb; rw [harr] at h3; cases h3
  have hH : HRel N k' := by
    refine ⟨fun n b hb => ?_, fun n q b c B hb hc h3 h4 => ?_, fun B hB => ?_, hk.xlow, fun B hX hB => ?_, fun n b hb => ?_⟩
    · obtain ⟨x, hx, hn, hb'⟩ := hget' n b hb
      have hg := P.good x hx
      have hm := hμ' x hx
      cases x with
      | arr q e xs src loc =>
        have hn : q = n := hn
        subst hn
        have hb' : Blk.arr e xs = b := hb'
        subst hb'
        unfold BRel
        have hm : k'.μ q = loc := hm
        rw [hm]
        have hel := hg.1
        cases loc with
        | none => exact hel
        | at_ B o cap =>
          obtain ⟨row, E, fz, g1, g2, g3, g4, g5, g6⟩ := hel
          exact ⟨row, E, fz, g1, g2, g3, g4, g5, fun i hi => VRel.mono (fun _ _ _ => rfl) (fun B hB _ => hO B hB) _ _ _ (g6 i hi)⟩
      | var q cs m =>
        have hn : q = n := hn
        subst hn
        have hb' : Blk.var cs = b := hb'
        subst hb'
        obtain ⟨_, _, B, row, E, fz, g1, g2, g3, g4⟩ := hg
        have hm : k'.μ q = k.μ m := hm
        exact ⟨B, row, E, fz, hm.trans g1, g2, g3, g4 k' hfits⟩
    · obtain ⟨x, hx, hn, _⟩ := hget' n b hb
      obtain ⟨y, hy, hq, _⟩ := hget' q c hc
      subst hn; subst hq
      rw [hμ' x hx] at h3
      rw [hμ' y hy] at h4
      obtain ⟨m1, b1, g1, g2, g3⟩ := from_ x hx B h3
      obtain ⟨m2, b2, g4, g5, g6⟩ := from_ y hy B h4
      have hm := hk.inj m1 m2 b1 b2 B g1 g4 g2 g5
      subst hm
      rw [g1] at g4
      have hbb : b1 = b2 := Option.some.inj g4
      subst hbb
      rcases g3 with ⟨e, xs, hb1, hs1'⟩ | ⟨cs0, hb1, n1, c1, hx1, hr1⟩
      · rcases g6 with ⟨e', xs', hb2, hs2'⟩ | ⟨cs0, hb2, _⟩
        · rw [src_inj hsrc x hx y hy m1 hs1' hs2']
        · subst hb1; cases hb2
      · rcases g6 with ⟨e', xs', hb2, hs2'⟩ | ⟨cs0', hb2, n2, c2, hx2, hr2⟩
        · subst hb1; cases hb2
        · subst hx1; subst hx2
          exact hren0.inj hr1 hr2
    · obtain ⟨x, hx, hl⟩ := ownFrom B hB
      obtain ⟨m, b, g1, g2, _⟩ := from_ x hx B hl
      exact hk.low B ⟨m, b, g1, g2⟩
    · obtain ⟨x, hx, hl⟩ := ownFrom B hB
      obtain ⟨m, b, g1, g2, _⟩ := from_ x hx B hl
      exact hk.xown B hX ⟨m, b, g1, g2⟩
    · obtain ⟨x, hx, hn, _⟩ := hget' n b hb
      subst hn
      exact hlt x hx
  exact ⟨k', rfl, P.hp.symm, rfl, rfl, ⟨hO, hOw⟩, hH, hfits, hμ', hget', rfl⟩

/-- A state that is packed, and filled again. -/
theorem pack_sound {N : Nat} {k0 : Kx} {lo : Nat} {T : Tmpl} {σ : St} {k : Kx} {a : Act} {v : T.ty.den} {base : Fr} (hR : Rel N k0 σ k a) (hlo : ∀ n, k0.U n → n < lo) (hp : T.pack lo σ = some v)
    (hbase : ∀ k' : Kx, k'.w = k.w → (∀ B, k'.O B → k.O B) → FRel k' base a.tmps) : ∃ k', k'.w = k.w ∧ Rel N k0 (T.unpack base v) k' a ∧ WExt k k' := by
  have hk := hR.h
  unfold Tmpl.pack at hp
  split at hp
  · rename_i hok
    cases h0 : collAbs σ.hp [] T.abs with
    | none => rw [h0] at hp; cases hp
    | some p0 =>
      obtain ⟨ρ0, l0⟩ := p0
      rw [h0] at hp
      simp only at hp
      cases h1 : collFr σ.fr ρ0 T.live with
      | none => rw [h1] at hp; cases hp
      | some p1 =>
        obtain ⟨ρ1, l1⟩ := p1
        rw [h1] at hp
        simp only at hp
        cases h2 : collHp σ.hp ρ1 T.vars with
        | none => rw [h2] at hp; cases hp
        | some p2 =>
          obtain ⟨ρ2, l2⟩ := p2
          rw [h2] at hp
          simp only at hp
          split at hp
          · rename_i hnd
            rw [← hR.hp] at h0 h2 hp
            have hits := its_of T.ty _ v hp
            obtain ⟨es0, hs0, P0, i0, ab0⟩ := fillAbs_ok hk T.abs [] ρ0 l0 (l1 ++ l2) _ h0 hits
            obtain ⟨es1, hs1, P1, i1, f1⟩ := fillFr_ok hk hR.f T.live base ρ0 ρ1 l1 l2 _ h1 i0
            obtain ⟨es2, hs2, P2⟩ := fillHp_ok hk T.vars ρ1 ρ2 l2 _ h2 i1
            have P := P0.append (P1.append P2)
            simp only [Tmpl.ok, Bool.and_eq_true, List.all_eq_true, decide_eq_true_eq] at hok
            obtain ⟨⟨⟨⟨o1, o2⟩, o3⟩, o4⟩, o5⟩ := hok
            generalize hes : es0 ++ (es1 ++ es2) = es at P
            generalize hhs : hs0 ++ (hs1 ++ hs2) = hs at P
            obtain ⟨k', q1, q2, q3, q4, ⟨hO, hOw⟩, hH, hfits, hμ', hget', hU⟩ := assemble (nx := T.nx) hk P (nodupB_iff o1) (nodupB_iff hnd) o2 (fun n h => by
              rcases List.mem_append.1 h with h | h
              · obtain ⟨p, hp1, hp2⟩ := List.mem_flatMap.1 h
                rcases List.mem_cons.1 hp2 with e | hp2
                · rw [e]
                  refine o2 _ ?_
                  exact List.mem_append_left _ (List.mem_flatMap.2 ⟨p, hp1, by simp⟩)
                · exact o4 _ (List.mem_append_left _ (List.mem_flatMap.2 ⟨p, hp1, hp2⟩))
              · exact o4 _ (List.mem_append_right _ h))
            have hW : WExt k k' := ⟨fun _ _ _ => by rw [q1], fun B hB _ => hO B hB, by rw [q1]; exact Nat.le_refl _⟩
            have hloc : ∀ x ∈ es, x.name ∈ T.locals ∨ AbsE k x := by
              intro x hx
              rw [← hes] at hx
              rcases List.mem_append.1 hx with hx | hx
              · exact (ab0 x hx).imp (fun h => List.mem_append_left _ h) id
              · left
                refine List.mem_append_right _ ?_
                rcases List.mem_append.1 hx with hx | hx
                · refine List.mem_append_left _ ?_
                  rw [← P1.names]
                  exact List.mem_map.2 ⟨x, hx, rfl⟩
                · refine List.mem_append_right _ ?_
                  rw [← P2.names]
                  exact List.mem_map.2 ⟨x, hx, rfl⟩
            have hE : Ext k0 k' := by
              refine ⟨fun B hB hlt => by rw [q1]; exact hR.ext.same B hB hlt, fun B hB hlt => hR.ext.own B (hOw B hB) hlt, by rw [q1]; exact hR.ext.size, fun n hn => by rw [hU]; exact Nat.lt_of_lt_of_le (hlo n hn) o5, fun n e xs' hn hc => ?_, fun n cs' hn hc => ?_, by rw [q4]; exact hR.ext.x⟩
              · obtain ⟨x, hx, hxn, hb⟩ := hget' n _ hc
                rcases hloc x hx with h3 | h3
                · have h4 := o3 _ h3; have h5 := hlo n hn; omega
                · cases x with
                  | var q cs m => cases hb
                  | arr q e' xs src loc =>
                    have hxn : q = n := hxn
                    subst hxn
                    have hb : Blk.arr e' xs = Blk.arr e xs' := hb
                    simp only [Blk.arr.injEq] at hb
                    obtain ⟨he, hxs⟩ := hb
                    subst he
                    have hxs := eq_of_heq hxs
                    subst hxs
                    obtain ⟨g1, g2⟩ := h3
                    obtain ⟨ys, g3, g4, g5⟩ := hR.ext.arr q e' xs hn g1
                    refine ⟨ys, g3, g4, ?_⟩
                    have hm : k'.μ q = loc := hμ' _ hx
                    rw [hm, g2, g5]
              · obtain ⟨x, hx, hxn, hb⟩ := hget' n _ hc
                rcases hloc x hx with h3 | h3
                · have h4 := o3 _ h3; have h5 := hlo n hn; omega
                · have hg := P.good x hx
                  cases x with
                  | arr q e' xs src loc => cases hb
                  | var q cs m =>
                    have hxn : q = n := hxn
                    subst hxn
                    have h3 : m = q := h3
                    subst h3
                    obtain ⟨_, ⟨cs0, g1⟩, _⟩ := hg
                    obtain ⟨ys, g3, g5⟩ := hR.ext.var m cs0 hn g1
                    refine ⟨ys, g3, ?_⟩
                    have hm : k'.μ m = k.μ m := hμ' _ hx
                    rw [hm, g5]
            refine ⟨k', q1, ⟨⟨q2, q3, hH, ?_, hE, by rw [q1]; exact hR.room, by rw [q1]; exact hR.below, hR.defers.next hW⟩, fun n hn => (by rw [hU] at hn; exact hn)⟩, hW⟩
            refine f1 k' ?_ (hbase k' q1 hO)
            refine hfits.mono P2.grow.le (fun x hx => ?_) (fun c hc => ?_)
            · rw [← hes]; exact List.mem_append_right _ (List.mem_append_left _ hx)
            · rw [← hhs]; exact List.mem_append_right _ (List.mem_append_left _ hc)
          · cases hp
  · cases hp

end Go.Ab
