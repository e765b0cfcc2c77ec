/-
  TEMPLATES: what is filled in is true.
-/
import Derived.Test.YteekijpcdcpjkaaAbPack
set_option linter.unusedVariables false
set_option linter.unusedSimpArgs false
namespace Go.Ab
open Go.RowKit (Below)

/-- elements of a block that is the call's own -/
def ElemsAt (w : World) (O : Nat → Prop) (e : Ty) (xs : List e.den) : Loc → Prop
  | .none => xs = []
  | .at_ B o cap => ∃ row E fz, w.heap[B]? = some (.cells row E fz) ∧ Unfrozen row fz ∧ xs.length ≤ cap ∧ cap ≤ MAXL ∧ o + cap * e.size ≤ row.size ∧ ∀ i (h : i < xs.length), VRel w O e xs[i] (part_ row (o + i * e.size) e.size)

/-- A state that is filled, as far as the part at hand asks. -/
structure Fits (k k' : Kx) (ρ : Ren) (es : List Ent) (hs : List Cell) : Prop where
  w : k'.w = k.w
  O : ∀ B, k'.O B → k.O B
  ent : ∀ x ∈ es, (∀ b, hget k'.hp x.name = some b → b = x.pair.2) ∧ k'.μ x.name = x.loc k ∧ k'.U x.name
  ren : ∀ n m, renOf ρ n = some m → k'.U n ∧ ∀ cs, hget k'.hp n = some (.var cs) → k'.μ n = k.μ m ∧ ∃ cs0, hget k.hp m = some (.var cs0)
  clear : ∀ c ∈ hs, ∀ n ∈ ownOf c, (∃ e xs, hget k.hp n = some (.arr e xs)) → ∀ B, (k.μ n).block = some B → ¬ k'.O B

theorem Fits.mono {k k' : Kx} {ρ ρ' : Ren} {es es' : List Ent} {hs hs' : List Cell} (h : Fits k k' ρ' es' hs') (hr : RenLe ρ ρ') (he : ∀ x ∈ es, x ∈ es') (hh : ∀ c ∈ hs, c ∈ hs') : Fits k k' ρ es hs :=
  ⟨h.w, h.O, fun x hx => h.ent x (he x hx), fun n m hn => h.ren n m (hr n m hn), fun c hc => h.clear c (hh c hc)⟩

/-- An entry that comes from a block of the state's. -/
def Good (k : Kx) (ρ : Ren) (es : List Ent) (hs : List Cell) : Ent → Prop
  | .arr n e xs src loc => ElemsAt k.w k.O e xs loc ∧ (∀ B, loc.block = some B → ∃ m, src = some m ∧ (∃ ys : List e.den, hget k.hp m = some (.arr e ys)) ∧ (k.μ m).block = some B)
  | .var n cs m => renOf ρ n = some m ∧ (∃ cs0, hget k.hp m = some (.var cs0)) ∧ ∃ B row E fz, k.μ m = .at_ B 0 0 ∧ k.w.heap[B]? = some (.cells row E fz) ∧ Unfrozen row fz ∧ ∀ k', Fits k k' ρ es hs → CRels k' cs row.toList

theorem Good.mono {k : Kx} {ρ ρ' : Ren} {es es' : List Ent} {hs hs' : List Cell} {x : Ent} (h : Good k ρ es hs x) (hr : RenLe ρ ρ') (he : ∀ x ∈ es, x ∈ es') (hh : ∀ c ∈ hs, c ∈ hs') : Good k ρ' es' hs' x := by
  cases x with
  | arr n e xs src loc => exact h
  | var n cs m =>
    obtain ⟨h1, h2, B, row, E, fz, h3, h4, h5, h6⟩ := h
    exact ⟨hr n m h1, h2, B, row, E, fz, h3, h4, h5, fun k' hf => h6 k' (hf.mono hr he hh)⟩

/-- the blocks that an item stands for -/
def ownItems (l : List Item) : List Nat := l.flatMap fun i => i.2.flatMap ownOf

/-- What a part of a template gives. -/
structure Part (k : Kx) (ρ ρ' : Ren) (names refs : List Nat) (l : List Item) (es : List Ent) (hs : List Cell) (hp : Hp) : Prop where
  hp : hp = es.map Ent.pair
  names : es.map Ent.name = names
  good : ∀ x ∈ es, Good k ρ' es hs x
  own : (ownItems l).Perm (es.filterMap Ent.src ++ hs.flatMap ownOf)
  grow : Grows ρ ρ' refs

theorem Part.nil (k : Kx) (ρ : Ren) : Part k ρ ρ [] [] [] [] [] [] := ⟨rfl, rfl, fun x hx => (by cases hx), by simp [ownItems], Grows.refl ρ⟩

theorem Part.append {k : Kx} {ρ ρ' ρ'' : Ren} {n1 n2 r1 r2 : List Nat} {l1 l2 : List Item} {es1 es2 : List Ent} {hs1 hs2 : List Cell} {hp1 hp2 : Hp} (h : Part k ρ ρ' n1 r1 l1 es1 hs1 hp1) (h' : Part k ρ' ρ'' n2 r2 l2 es2 hs2 hp2) :
    Part k ρ ρ'' (n1 ++ n2) (r1 ++ r2) (l1 ++ l2) (es1 ++ es2) (hs1 ++ hs2) (hp1 ++ hp2) := by
  refine ⟨by rw [h.hp, h'.hp, List.map_append], by rw [List.map_append, h.names, h'.names], fun x hx => ?_, ?_, h.grow.trans h'.grow⟩
  · rcases List.mem_append.1 hx with hx | hx
    · exact (h.good x hx).mono h'.grow.le (fun y hy => List.mem_append_left _ hy) (fun c hc => List.mem_append_left _ hc)
    · exact (h'.good x hx).mono (fun _ _ h => h) (fun y hy => List.mem_append_right _ hy) (fun c hc => List.mem_append_right _ hc)
  · have e1 : ownItems (l1 ++ l2) = ownItems l1 ++ ownItems l2 := by simp [ownItems]
    rw [e1, List.filterMap_append, List.flatMap_append]
    refine (h.own.append h'.own).trans ?_
    rw [List.append_assoc, List.append_assoc]
    refine List.Perm.append_left _ ?_
    rw [← List.append_assoc, ← List.append_assoc]
    exact List.Perm.append_right _ List.perm_append_comm

/-! ### one cell -/
theorem own_fill {N : Nat} {k : Kx} (hk : HRel N k) {m : Nat} {e : Ty} {ys : List e.den} {lo len : Nat} {v : Value} (hb : hget k.hp m = some (.arr e ys)) (hv : Hdr (k.μ m) e lo len v) (hle : lo + len ≤ ys.length) :
    ∃ loc, ElemsAt k.w k.O e ((ys.drop lo).take len) loc ∧ (∀ B, loc.block = some B → (k.μ m).block = some B) ∧ Hdr loc e 0 len v := by
  have hbr := hk.blk m _ hb
  unfold BRel at hbr
  cases hm : k.μ m with
  | none =>
    rw [hm] at hv hbr
    obtain ⟨a, e1, e2⟩ := hv
    refine ⟨.none, by rw [e2]; simp [ElemsAt], fun B hB => (by cases hB), a, e1, e2⟩
  | at_ B o cap =>
    rw [hm] at hv hbr
    obtain ⟨a, c, e1, h1, h2, h3⟩ := hv
    obtain ⟨row, E, fz, g1, g2, g3, g4, g5, g6⟩ := hbr
    rcases h3 with h3 | h3
    · have hb1 : (lo + c) * e.size ≤ cap * e.size := Nat.mul_le_mul_right _ h2
      rw [Nat.add_mul] at hb1
      have hlen : ((ys.drop lo).take len).length = len := by simp; omega
      refine ⟨.at_ B (o + lo * e.size) c, ⟨row, E, fz, g1, g2, by rw [hlen]; exact h1, by omega, by omega, fun i hi => ?_⟩, fun B' hB => hB, a, c, e1, h1, by omega, Or.inl (by rw [h3]; simp)⟩
      rw [hlen] at hi
      have := g6 (lo + i) (by omega)
      have e3 : ((ys.drop lo).take len)[i]'(by rw [hlen]; exact hi) = ys[lo + i]'(by omega) := by simp
      rw [e3]
      rw [Nat.add_mul, ← Nat.add_assoc] at this
      exact this
    · have hl : len = 0 := by omega
      refine ⟨.none, by rw [hl]; simp [ElemsAt], fun B' hB => (by cases hB), a, by rw [e1, hl, h3], hl⟩

theorem fillC_ok {N : Nat} {k : Kx} (hk : HRel N k) {t : TC} {c : Cell} {v : Value} {ρ ρ' : Ren} {l is : List Item} {ds : List Cell} (hc : CRel k c v) (h : collC ρ t c = some (ρ', l)) (hi : Its (hget k.hp) (l ++ is) ds) :
    ∃ es hs, Part k ρ ρ' t.owns t.refs l es hs (fillC t ds).2.1 ∧ Its (hget k.hp) is (fillC t ds).2.2 ∧ ∀ k', Fits k k' ρ' es hs → CRel k' (fillC t ds).1 v := by
  cases t with
  | any =>
    simp only [collC, Option.some.injEq, Prod.mk.injEq] at h
    obtain ⟨rfl, rfl⟩ := h
    exact ⟨[], [], Part.nil k ρ, hi, fun k' _ => hc.one⟩
  | hole =>
    simp only [collC, Option.some.injEq, Prod.mk.injEq] at h
    obtain ⟨rfl, rfl⟩ := h
    cases hi with
    | one ht hx hr =>
      refine ⟨[], [c], ⟨rfl, rfl, fun x hx => (by cases hx), by simp [ownItems], Grows.refl ρ⟩, hr, fun k' hf => ?_⟩
      have := cellAs_sound (O2 := k'.O) hk hc hx hf.O fun n hn => hf.clear c (by simp) n hn
      show VRel k'.w k'.O _ _ [v]
      rw [hf.w]; exact this
  | nil =>
    cases c <;> simp only [collC] at h <;> first | (cases h; done) | skip
    simp only [Option.some.injEq, Prod.mk.injEq] at h
    obtain ⟨rfl, rfl⟩ := h
    exact ⟨[], [], Part.nil k ρ, hi, fun k' _ => hc⟩
  | ptr n off =>
    cases c <;> simp only [collC] at h <;> first | (cases h; done) | skip
    rename_i m off'
    split at h
    · rename_i ho
      subst ho
      cases hb : bindN ρ n m with
      | none => rw [hb] at h; cases h
      | some ρ1 =>
        rw [hb] at h
        simp only [Option.map_some, Option.some.injEq, Prod.mk.injEq] at h
        obtain ⟨rfl, rfl⟩ := h
        obtain ⟨h1, h2, h3, h4⟩ := bindN_spec hb
        refine ⟨[], [], ⟨rfl, rfl, fun x hx => (by cases hx), by simp [ownItems], ⟨h2, h3, h4⟩⟩, hi, fun k' hf => ?_⟩
        obtain ⟨g1, g2⟩ := hf.ren n m h1
        refine ⟨⟨g1, hc.1.2⟩, fun cs hcs => ?_⟩
        obtain ⟨g3, cs0, g4⟩ := g2 cs hcs
        rw [g3]
        exact hc.2 cs0 g4
    · cases h
  | fn f caps =>
    cases c <;> simp only [collC] at h <;> first | (cases h; done) | skip
    rename_i f' caps'
    split at h
    · rename_i ho
      subst ho
      cases hb : bindAll ρ caps caps' with
      | none => rw [hb] at h; cases h
      | some ρ1 =>
        rw [hb] at h
        simp only [Option.map_some, Option.some.injEq, Prod.mk.injEq] at h
        obtain ⟨rfl, rfl⟩ := h
        obtain ⟨h1, h2, h3⟩ := bindAll_spec _ _ _ _ hb
        refine ⟨[], [], ⟨rfl, rfl, fun x hx => (by cases hx), by simp [ownItems], h1⟩, hi, fun k' hf => ?_⟩
        obtain ⟨vs, e1, e2, e3⟩ := hc
        refine ⟨vs, e1, by omega, fun j hj hj' => ?_⟩
        obtain ⟨q1, q2⟩ := h3 j hj (by omega)
        have hp := e3 j (by omega) hj'
        obtain ⟨g1, g2⟩ := hf.ren _ _ q1
        refine ⟨⟨g1, hp.1.2⟩, fun cs hcs => ?_⟩
        obtain ⟨g3, cs0, g4⟩ := g2 cs hcs
        rw [g3, q2]
        exact hp.2 cs0 g4
    · cases h
  | own n =>
    -- a block of its own: how it is filled
    have key : ∀ (e : Ty) (xs : List e.den) (src : Option Nat) (loc : Loc) (ds' : List Cell), ds = .val (.slice e) xs :: ds' → ρ' = ρ → Its (hget k.hp) is ds' → ElemsAt k.w k.O e xs loc →
        (∀ B, loc.block = some B → ∃ m, src = some m ∧ (∃ ys : List e.den, hget k.hp m = some (.arr e ys)) ∧ (k.μ m).block = some B) → (ownItems l).Perm (src.toList) → Hdr loc e 0 xs.length v →
        ∃ es hs, Part k ρ ρ' (TC.own n).owns (TC.own n).refs l es hs (fillC (.own n) ds).2.1 ∧ Its (hget k.hp) is (fillC (.own n) ds).2.2 ∧ ∀ k', Fits k k' ρ' es hs → CRel k' (fillC (.own n) ds).1 v := by
      intro e xs src loc ds' hds hρ hits hel hsrc hperm hh
      subst hds; subst hρ
      refine ⟨[.arr n e xs src loc], [], ⟨rfl, rfl, fun x hx => ?_, ?_, Grows.refl _⟩, hits, fun k' hf => ?_⟩
      · simp only [List.mem_singleton] at hx
        subst hx
        exact ⟨hel, hsrc⟩
      · have e1 : List.filterMap Ent.src [Ent.arr n e xs src loc] = src.toList := by cases src <;> rfl
        rw [e1]
        simpa using hperm
      · obtain ⟨g1, g2, g3⟩ := hf.ent (.arr n e xs src loc) (by simp)
        refine ⟨⟨g3, hc.one⟩, fun xs' hxs => ?_⟩
        have := g1 _ hxs
        simp only [Ent.pair, Blk.arr.injEq] at this
        have e2 := eq_of_heq this.2
        subst e2
        have g2 : k'.μ n = loc := g2
        rw [g2]
        exact hh
    have head : ∀ (is : List Item), Its (hget k.hp) ((false, [c]) :: is) ds → (∀ t' y, c ≠ .val t' y) → (∀ e xs, c ≠ .clip e xs) → ∃ e xs ds', ds = .val (.slice e) xs :: ds' ∧ cellAs (hget k.hp) (.slice e) c = some xs ∧ Its (hget k.hp) is ds' := by
      intro is hi hv hcl
      cases hi with
      | one ht hx hr =>
        rename_i t' x' ds'
        cases t' with
        | slice e => exact ⟨e, x', ds', rfl, hx, hr⟩
        | _ => cases c <;> first | exact absurd rfl (hv _ _) | (simp [cellAs] at hx)
    cases c <;> simp only [collC] at h <;> first | (cases h; done) | skip
    · -- nothing
      simp only [Option.some.injEq, Prod.mk.injEq] at h
      obtain ⟨rfl, rfl⟩ := h
      obtain ⟨e, xs, ds', rfl, hx, hr⟩ := head is hi (fun _ _ h => by cases h) (fun _ _ h => by cases h)
      simp only [cellAs, Option.some.injEq] at hx
      subst hx
      exact key e [] none .none ds' rfl rfl hr rfl (fun B hB => by cases hB) (by simp [ownItems, ownOf]) ⟨none, hc, rfl⟩
    · rename_i m e0
      simp only [Option.some.injEq, Prod.mk.injEq] at h
      obtain ⟨rfl, rfl⟩ := h
      obtain ⟨e, xs, ds', rfl, hx, hr⟩ := head is hi (fun _ _ h => by cases h) (fun _ _ h => by cases h)
      simp only [cellAs] at hx
      split at hx
      · rename_i he
        subst he
        have hb := arrAs_eq hx
        obtain ⟨loc, g1, g2, g3⟩ := own_fill hk hb (hc.2 xs hb) (by simp)
        simp only [List.drop_zero, List.take_length] at g1
        exact key e0 xs (some m) loc ds' rfl rfl hr g1 (fun B hB => ⟨m, rfl, ⟨xs, hb⟩, g2 B hB⟩) (by simp [ownItems, ownOf]) g3
      · cases hx
    · rename_i m e0 lo hi'
      simp only [Option.some.injEq, Prod.mk.injEq] at h
      obtain ⟨rfl, rfl⟩ := h
      obtain ⟨e, xs, ds', rfl, hx, hr⟩ := head is hi (fun _ _ h => by cases h) (fun _ _ h => by cases h)
      simp only [cellAs] at hx
      split at hx
      · rename_i he
        subst he
        cases hl : arrAs e0 (hget k.hp m) with
        | none => rw [hl] at hx; cases hx
        | some ys =>
          rw [hl] at hx
          simp only [Option.map_some, Option.some.injEq] at hx
          have hb := arrAs_eq hl
          obtain ⟨q0, q1, q2, q3⟩ := hc.2 ys hb
          obtain ⟨loc, g1, g2, g3⟩ := own_fill hk hb q3 (by omega)
          have hlen : xs.length = (hi' - lo).toNat := by rw [← hx]; simp [cut]; omega
          exact key e0 xs (some m) loc ds' rfl rfl hr (by rw [← hx]; exact g1) (fun B hB => ⟨m, rfl, ⟨ys, hb⟩, g2 B hB⟩) (by simp [ownItems, ownOf]) (by rw [hlen]; exact g3)
      · cases hx

end Go.Ab
