/-
  TEMPLATES: a state that is packed and filled again is one that is true as well.
-/
import Derived.Test.YtnklmlnkiepdiaaGreatDoorAbOrder
set_option linter.unusedVariables false
set_option linter.unusedSectionVars false
set_option linter.unusedSimpArgs false
namespace Go.Ab
variable [Tabs]
open Go.RowKit (Below)

/-! ### the holes' data -/
inductive Its (look : Nat → Option Blk) : List Item → List Cell → Prop
  | nil : Its look [] []
  | one {t : Ty} {c : Cell} {x : t.den} {is : List Item} {ds : List Cell} : t.isAgg = false → cellAs look t c = some x → Its look is ds → Its look ((false, [c]) :: is) (.val t x :: ds)
  | agg {t : Ty} {cs : List Cell} {x : t.den} {is : List Item} {ds : List Cell} : t.isAgg = true → parseAll look t cs = some x → Its look is ds → Its look ((true, cs) :: is) (.pptr t x 0 :: ds)

theorem parse_one {look : Nat → Option Blk} {t : Ty} (ht : t.isAgg = false) {cs : List Cell} {x : t.den} (h : parseAll look t cs = some x) : ∃ c, cs = [c] ∧ cellAs look t c = some x := by
  unfold parseAll at h
  cases hp : parse look t cs with
  | none => rw [hp] at h; cases h
  | some p =>
    obtain ⟨y, r⟩ := p
    rw [hp] at h
    cases r with
    | cons d r => cases h
    | nil =>
      simp only [Option.some.injEq] at h
      subst h
      cases t with
      | unit => simp [Ty.isAgg] at ht
      | pair a b => simp [Ty.isAgg] at ht
      | _ =>
        cases cs with
        | nil => simp [parse] at hp
        | cons c r =>
          simp only [parse, Option.map_eq_some_iff] at hp
          obtain ⟨z, hz, e⟩ := hp
          simp only [Prod.mk.injEq] at e
          obtain ⟨rfl, rfl⟩ := e
          exact ⟨c, rfl, hz⟩

theorem its_of {look : Nat → Option Blk} : ∀ (t : Ty) (is : List Item) (v : t.den), parseItems look t is = some v → Its look is (chain t v) := by
  intro t
  induction t with
  | unit =>
    intro is v h
    cases is with
    | nil => exact Its.nil
    | cons i r => simp [parseItems] at h
  | pair a b _ ihb =>
    intro is v h
    cases is with
    | nil => simp [parseItems] at h
    | cons i r =>
      obtain ⟨g, cs⟩ := i
      simp only [parseItems] at h
      split at h
      · rename_i hg
        cases hx : parseAll look a cs with
        | none => rw [hx] at h; cases h
        | some x =>
          rw [hx] at h
          simp only [Option.map_eq_some_iff] at h
          obtain ⟨y, hy, rfl⟩ := h
          have hr := ihb r y hy
          cases g with
          | true =>
            simp only [chain, hg, if_true]
            exact Its.agg hg hx hr
          | false =>
            simp only [chain, hg]
            obtain ⟨c, rfl, hc⟩ := parse_one hg hx
            exact Its.one hg hc hr
      · cases h
  | _ => intro is v h; simp [parseItems] at h

/-! ### what is filled in -/
inductive Ent where
  | arr (n : Nat) (e : Ty) (xs : List e.den) (src : Option Nat) (loc : Loc)
  | var (n : Nat) (cs : List Cell) (src : Nat)
  | map (n : Nat) (kt vt : Ty) (xs : List (kt.den × vt.den)) (src : Nat)

def Ent.name : Ent → Nat
  | .arr n .. => n
  | .var n .. => n
  | .map n .. => n
def Ent.pair : Ent → Nat × Blk
  | .arr n e xs _ _ => (n, .arr e xs)
  | .var n cs _ => (n, .var cs)
  | .map n kt vt xs _ => (n, .map kt vt xs)
def Ent.src : Ent → Option Nat
  | .arr _ _ _ s _ => s
  | .var .. => none
  | .map _ _ _ _ m => some m
def Ent.loc (k : Kx) : Ent → Loc
  | .arr _ _ _ _ l => l
  | .var _ _ m => k.μ m
  | .map _ _ _ _ m => k.μ m

def RenLe (ρ ρ' : Ren) : Prop := ∀ n m, renOf ρ n = some m → renOf ρ' n = some m
def RenNew (ρ ρ' : Ren) (ns : List Nat) : Prop := ∀ n m, renOf ρ' n = some m → renOf ρ n = some m ∨ n ∈ ns
/-- names one to one -/
def RenOK (ρ : Ren) : Prop := (ρ.map (·.1)).Nodup ∧ (ρ.map (·.2)).Nodup

theorem renOf_mem : ∀ {ρ : Ren} {n m : Nat}, renOf ρ n = some m → (n, m) ∈ ρ := by
  intro ρ
  induction ρ with
  | nil => intro n m h; simp [renOf] at h
  | cons p r ih =>
    intro n m h
    obtain ⟨a, b⟩ := p
    simp only [renOf] at h
    split at h
    · rename_i e; simp only [Option.some.injEq] at h; subst e; subst h; simp
    · exact List.mem_cons_of_mem _ (ih h)

theorem RenOK.inj {ρ : Ren} (h : RenOK ρ) {n n' m : Nat} (h1 : renOf ρ n = some m) (h2 : renOf ρ n' = some m) : n = n' := by
  have m1 := renOf_mem h1
  have m2 := renOf_mem h2
  have key : ∀ (ρ : Ren), (ρ.map (·.2)).Nodup → (n, m) ∈ ρ → (n', m) ∈ ρ → n = n' := by
    intro ρ
    induction ρ with
    | nil => intro _ h; cases h
    | cons p r ih =>
      intro hn h1 h2
      simp only [List.map_cons, List.nodup_cons] at hn
      rcases List.mem_cons.1 h1 with e1 | e1
      · rcases List.mem_cons.1 h2 with e2 | e2
        · rw [← e2] at e1; exact congrArg Prod.fst e1
        · exact absurd (List.mem_map.2 ⟨_, e2, rfl⟩) (by rw [← e1] at hn; exact hn.1)
      · rcases List.mem_cons.1 h2 with e2 | e2
        · exact absurd (List.mem_map.2 ⟨_, e1, rfl⟩) (by rw [← e2] at hn; exact hn.1)
        · exact ih hn.2 e1 e2
  exact key ρ h.2 m1 m2

theorem bindN_shape : ∀ (ρ ρ' : Ren) (n m : Nat), bindN ρ n m = some ρ' → (ρ' = ρ ∧ renOf ρ n = some m) ∨ (ρ' = ρ ++ [(n, m)] ∧ n ∉ ρ.map (·.1) ∧ m ∉ ρ.map (·.2)) := by
  intro ρ
  induction ρ with
  | nil => intro ρ' n m h; simp only [bindN, Option.some.injEq] at h; exact Or.inr ⟨h.symm, by simp, by simp⟩
  | cons p r ih =>
    intro ρ' n m h
    obtain ⟨a, b⟩ := p
    simp only [bindN] at h
    by_cases ha : a = n
    · rw [if_pos ha] at h
      by_cases hb : b = m
      · rw [if_pos hb] at h
        simp only [Option.some.injEq] at h
        exact Or.inl ⟨h.symm, by simp [renOf, ha, hb]⟩
      · rw [if_neg hb] at h; cases h
    · rw [if_neg ha] at h
      by_cases hb : b = m
      · rw [if_pos hb] at h; cases h
      · rw [if_neg hb] at h
        cases hr : bindN r n m with
        | none => rw [hr] at h; cases h
        | some r' =>
          rw [hr] at h
          simp only [Option.map_some, Option.some.injEq] at h
          subst h
          rcases ih r' n m hr with ⟨e, h1⟩ | ⟨e, h1, h2⟩
          · exact Or.inl ⟨by rw [e], by simp [renOf, ha, h1]⟩
          · exact Or.inr ⟨by rw [e]; rfl, by simp [h1, Ne.symm ha] , by simp [h2, Ne.symm hb]⟩

theorem renOf_append {ρ : Ren} {n m a : Nat} : renOf (ρ ++ [(n, m)]) a = match renOf ρ a with | some b => some b | none => if n = a then some m else none := by
  induction ρ with
  | nil => rfl
  | cons p r ih =>
    obtain ⟨x, y⟩ := p
    simp only [List.cons_append, renOf]
    split
    · rfl
    · exact ih

theorem bindN_spec {ρ ρ' : Ren} {n m : Nat} (h : bindN ρ n m = some ρ') : renOf ρ' n = some m ∧ RenLe ρ ρ' ∧ RenNew ρ ρ' [n] ∧ (RenOK ρ → RenOK ρ') := by
  rcases bindN_shape ρ ρ' n m h with ⟨e, h1⟩ | ⟨e, h1, h2⟩
  · subst e; exact ⟨h1, fun _ _ h => h, fun _ _ h => Or.inl h, id⟩
  · subst e
    have hn : renOf ρ n = none := by
      cases hx : renOf ρ n with
      | none => rfl
      | some b => exact absurd (List.mem_map.2 ⟨_, renOf_mem hx, rfl⟩) h1
    refine ⟨by rw [renOf_append, hn]; simp, fun a b hab => by rw [renOf_append, hab], fun a b hab => ?_, fun hok => ?_⟩
    · rw [renOf_append] at hab
      cases hx : renOf ρ a with
      | some c => rw [hx] at hab; exact Or.inl hab
      | none =>
        rw [hx] at hab
        simp only at hab
        split at hab
        · rename_i e; exact Or.inr (by simp [e])
        · cases hab
    · refine ⟨?_, ?_⟩
      · simp only [List.map_append, List.map_cons, List.map_nil]
        exact List.nodup_append.2 ⟨hok.1, by simp, fun x hx y hy => by simp at hy; subst hy; exact fun e => h1 (by rw [← e]; exact hx)⟩
      · simp only [List.map_append, List.map_cons, List.map_nil]
        exact List.nodup_append.2 ⟨hok.2, by simp, fun x hx y hy => by simp at hy; subst hy; exact fun e => h2 (by rw [← e]; exact hx)⟩

/-- What stands of renamings when more is bound. -/
structure Grows (ρ ρ' : Ren) (ns : List Nat) : Prop where
  le : RenLe ρ ρ'
  new : RenNew ρ ρ' ns
  ok : RenOK ρ → RenOK ρ'

theorem Grows.refl (ρ : Ren) : Grows ρ ρ [] := ⟨fun _ _ h => h, fun _ _ h => Or.inl h, id⟩
theorem Grows.trans {ρ ρ' ρ'' : Ren} {a b : List Nat} (h : Grows ρ ρ' a) (h' : Grows ρ' ρ'' b) : Grows ρ ρ'' (a ++ b) := by
  refine ⟨fun n m hn => h'.le n m (h.le n m hn), fun n m hn => ?_, fun ho => h'.ok (h.ok ho)⟩
  rcases h'.new n m hn with h1 | h1
  · rcases h.new n m h1 with h2 | h2
    · exact Or.inl h2
    · exact Or.inr (List.mem_append_left _ h2)
  · exact Or.inr (List.mem_append_right _ h1)

theorem bindAll_spec : ∀ (ns ms : List (Nat × Nat)) (ρ ρ' : Ren), bindAll ρ ns ms = some ρ' → Grows ρ ρ' (ns.map (·.1)) ∧ ns.length = ms.length ∧ ∀ j (h : j < ns.length) (h' : j < ms.length), renOf ρ' ns[j].1 = some ms[j].1 ∧ ns[j].2 = ms[j].2 := by
  intro ns
  induction ns with
  | nil =>
    intro ms ρ ρ' h
    cases ms with
    | nil => simp only [bindAll, Option.some.injEq] at h; subst h; exact ⟨Grows.refl ρ, rfl, fun j h => absurd h (by simp)⟩
    | cons m r => simp [bindAll] at h
  | cons p r ih =>
    intro ms ρ ρ' h
    cases ms with
    | nil => simp [bindAll] at h
    | cons q ms =>
      obtain ⟨n, o⟩ := p
      obtain ⟨m, o'⟩ := q
      simp only [bindAll] at h
      split at h
      · rename_i ho
        cases hb : bindN ρ n m with
        | none => rw [hb] at h; cases h
        | some ρ1 =>
          rw [hb] at h
          simp only at h
          obtain ⟨h1, h2, h3, h4⟩ := bindN_spec hb
          obtain ⟨g1, g2, g3⟩ := ih ms ρ1 ρ' h
          refine ⟨Grows.trans ⟨h2, h3, h4⟩ g1, by simp [g2], fun j hj hj' => ?_⟩
          cases j with
          | zero => exact ⟨g1.le _ _ h1, ho⟩
          | succ j => simpa using g3 j (by simpa using hj) (by simpa using hj')
      · cases h

end Go.Ab

/-
  TEMPLATES: what is filled in is true.
-/
set_option linter.unusedVariables false
set_option linter.unusedSimpArgs false
namespace Go.Ab
variable [Tabs]
open Go.RowKit (Below)

/-- elements of a block that is the call's own -/
def ElemsAt (w : World) (O : Nat → Prop) (e : Ty) (xs : List e.den) : Loc → Prop
  | .none => xs = []
  | .at_ B o cap => ∃ row E fz, w.heap[B]? = some (.cells row (tagOf e E) fz) ∧ Unfrozen row fz ∧ xs.length ≤ cap ∧ cap ≤ MAXL ∧ o + cap * e.size ≤ row.size ∧ ∀ i (h : i < xs.length), VRel w O e xs[i] (part_ row (o + i * e.size) e.size)

/-- A state that is filled, as far as the part at hand asks. -/
structure Fits (k k' : Kx) (ρ : Ren) (es : List Ent) (hs : List Cell) : Prop where
  w : k'.w = k.w
  O : ∀ B, k'.O B → k.O B
  ent : ∀ x ∈ es, (∀ b, hget k'.hp x.name = some b → b = x.pair.2) ∧ k'.μ x.name = x.loc k ∧ k'.U x.name
  ren : ∀ n m, renOf ρ n = some m → k'.U n ∧ ∀ cs, hget k'.hp n = some (.var cs) → k'.μ n = k.μ m ∧ ∃ cs0, hget k.hp m = some (.var cs0)
  arr : ∀ n m, renOf ρ n = some m → ∀ e xs, hget k'.hp n = some (.arr e xs) → k'.μ n = k.μ m ∧ hget k.hp m = some (.arr e xs)
  clear : ∀ c ∈ hs, ∀ n ∈ ownOf c, ArrMap (hget k.hp n) → ∀ B, (k.μ n).block = some B → ¬ k'.O B

theorem Fits.mono {k k' : Kx} {ρ ρ' : Ren} {es es' : List Ent} {hs hs' : List Cell} (h : Fits k k' ρ' es' hs') (hr : RenLe ρ ρ') (he : ∀ x ∈ es, x ∈ es') (hh : ∀ c ∈ hs, c ∈ hs') : Fits k k' ρ es hs :=
  ⟨h.w, h.O, fun x hx => h.ent x (he x hx), fun n m hn => h.ren n m (hr n m hn), fun n m hn => h.arr n m (hr n m hn), fun c hc => h.clear c (hh c hc)⟩

/-- An entry that comes from a block of the state's. -/
def Good (k : Kx) (ρ : Ren) (es : List Ent) (hs : List Cell) : Ent → Prop
  | .arr n e xs src loc => ElemsAt k.w k.O e xs loc ∧ (∀ B, loc.block = some B → ∃ m, src = some m ∧ (∃ ys : List e.den, hget k.hp m = some (.arr e ys)) ∧ (k.μ m).block = some B)
  | .var n cs m => renOf ρ n = some m ∧ (∃ cs0, hget k.hp m = some (.var cs0)) ∧ ∃ B row E fz, k.μ m = .at_ B 0 0 ∧ k.w.heap[B]? = some (.cells row E fz) ∧ Unfrozen row fz ∧ TagOK cs E ∧ ∀ k', Fits k k' ρ es hs → CRels k' cs row.toList
  | .map n kt vt xs m => (∃ ys, hget k.hp m = some (.map kt vt ys)) ∧ ∃ B es clk, k.μ m = .at_ B 0 0 ∧ k.w.heap[B]? = some (.map es clk) ∧ EntRel (VRel k.w k.O) kt vt xs es

theorem Good.mono {k : Kx} {ρ ρ' : Ren} {es es' : List Ent} {hs hs' : List Cell} {x : Ent} (h : Good k ρ es hs x) (hr : RenLe ρ ρ') (he : ∀ x ∈ es, x ∈ es') (hh : ∀ c ∈ hs, c ∈ hs') : Good k ρ' es' hs' x := by
  cases x with
  | arr n e xs src loc => exact h
  | map n kt vt xs m => exact h
  | var n cs m =>
    obtain ⟨h1, h2, B, row, E, fz, h3, h4, h5, h7, h6⟩ := h
    exact ⟨hr n m h1, h2, B, row, E, fz, h3, h4, h5, h7, fun k' hf => h6 k' (hf.mono hr he hh)⟩

/-- the blocks that an item stands for -/
def ownItems (l : List Item) : List Nat := l.flatMap fun i => i.2.flatMap ownOf

/-- What a part of a template gives. -/
structure Part (k : Kx) (ρ ρ' : Ren) (names refs : List Nat) (l : List Item) (es : List Ent) (hs : List Cell) (hp : Hp) : Prop where
  hp : hp = es.map Ent.pair
  names : es.map Ent.name = names
  good : ∀ x ∈ es, Good k ρ' es hs x
  own : (ownItems l).Perm (es.filterMap Ent.src ++ hs.flatMap ownOf)
  grow : Grows ρ ρ' refs

theorem Part.nil (k : Kx) (ρ : Ren) : Part k ρ ρ [] [] [] [] [] [] := ⟨rfl, rfl, fun x hx => (by cases hx), by simp [ownItems], Grows.refl ρ⟩

theorem Part.append {k : Kx} {ρ ρ' ρ'' : Ren} {n1 n2 r1 r2 : List Nat} {l1 l2 : List Item} {es1 es2 : List Ent} {hs1 hs2 : List Cell} {hp1 hp2 : Hp} (h : Part k ρ ρ' n1 r1 l1 es1 hs1 hp1) (h' : Part k ρ' ρ'' n2 r2 l2 es2 hs2 hp2) :
    Part k ρ ρ'' (n1 ++ n2) (r1 ++ r2) (l1 ++ l2) (es1 ++ es2) (hs1 ++ hs2) (hp1 ++ hp2) := by
  refine ⟨by rw [h.hp, h'.hp, List.map_append], by rw [List.map_append, h.names, h'.names], fun x hx => ?_, ?_, h.grow.trans h'.grow⟩
  · rcases List.mem_append.1 hx with hx | hx
    · exact (h.good x hx).mono h'.grow.le (fun y hy => List.mem_append_left _ hy) (fun c hc => List.mem_append_left _ hc)
    · exact (h'.good x hx).mono (fun _ _ h => h) (fun y hy => List.mem_append_right _ hy) (fun c hc => List.mem_append_right _ hc)
  · have e1 : ownItems (l1 ++ l2) = ownItems l1 ++ ownItems l2 := by simp [ownItems]
    rw [e1, List.filterMap_append, List.flatMap_append]
    refine (h.own.append h'.own).trans ?_
    rw [List.append_assoc, List.append_assoc]
    refine List.Perm.append_left _ ?_
    rw [← List.append_assoc, ← List.append_assoc]
    exact List.Perm.append_right _ List.perm_append_comm

/-! ### one cell -/
theorem own_fill {N : Nat} {k : Kx} (hk : HRel N k) {m : Nat} {e : Ty} {ys : List e.den} {lo len : Nat} {v : Value} (hb : hget k.hp m = some (.arr e ys)) (hv : Hdr (k.μ m) e lo len v) (hle : lo + len ≤ ys.length) :
    ∃ loc, ElemsAt k.w k.O e ((ys.drop lo).take len) loc ∧ (∀ B, loc.block = some B → (k.μ m).block = some B) ∧ Hdr loc e 0 len v := by
  have hbr := hk.blk m _ hb
  unfold BRel at hbr
  cases hm : k.μ m with
  | none =>
    rw [hm] at hv hbr
    obtain ⟨a, e1, e2, e3⟩ := hv
    refine ⟨.none, by rw [e2]; simp [ElemsAt], fun B hB => (by cases hB), a, e1, e2, e3⟩
  | at_ B o cap =>
    rw [hm] at hv hbr
    obtain ⟨a, c, e1, h1, h2, h3⟩ := hv
    obtain ⟨row, E, fz, g1, g2, g3, g4, g5, g6⟩ := hbr
    rcases h3 with h3 | h3
    · have hb1 : (lo + c) * e.size ≤ cap * e.size := Nat.mul_le_mul_right _ h2
      rw [Nat.add_mul] at hb1
      have hlen : ((ys.drop lo).take len).length = len := by simp; omega
      refine ⟨.at_ B (o + lo * e.size) c, ⟨row, E, fz, g1, g2, by rw [hlen]; exact h1, by omega, by omega, fun i hi => ?_⟩, fun B' hB => hB, a, c, e1, h1, by omega, Or.inl (by rw [h3]; simp)⟩
      rw [hlen] at hi
      have := g6 (lo + i) (by omega)
      have e3 : ((ys.drop lo).take len)[i]'(by rw [hlen]; exact hi) = ys[lo + i]'(by omega) := by simp
      rw [e3]
      rw [Nat.add_mul, ← Nat.add_assoc] at this
      exact this
    · have hl : len = 0 := by omega
      refine ⟨.at_ B o 0, ⟨row, E, fz, g1, g2, by rw [hl]; simp, by simp [MAXL], by rw [Nat.zero_mul]; omega, fun i hi => ?_⟩, fun B' hB => hB, a, 0, by rw [e1, h3.1], by omega, by omega, Or.inr ⟨rfl, h3.2⟩⟩
      rw [hl] at hi
      simp at hi

theorem fillC_ok {N : Nat} {k : Kx} (hk : HRel N k) {t : TC} {c : Cell} {v : Value} {ρ ρ' : Ren} {l is : List Item} {ds : List Cell} (hc : CRel k c v) (h : collC ρ t c = some (ρ', l)) (hi : Its (hget k.hp) (l ++ is) ds) :
    ∃ es hs, Part k ρ ρ' t.owns t.refs l es hs (fillC t ds).2.1 ∧ Its (hget k.hp) is (fillC t ds).2.2 ∧ ∀ k', Fits k k' ρ' es hs → CRel k' (fillC t ds).1 v := by
  cases t with
  | any =>
    simp only [collC, Option.some.injEq, Prod.mk.injEq] at h
    obtain ⟨rfl, rfl⟩ := h
    exact ⟨[], [], Part.nil k ρ, hi, fun k' _ => hc.one⟩
  | hole =>
    simp only [collC, Option.some.injEq, Prod.mk.injEq] at h
    obtain ⟨rfl, rfl⟩ := h
    cases hi with
    | one ht hx hr =>
      refine ⟨[], [c], ⟨rfl, rfl, fun x hx => (by cases hx), by simp [ownItems], Grows.refl ρ⟩, hr, fun k' hf => ?_⟩
      have := cellAs_sound (O2 := k'.O) hk hc hx hf.O fun n hn => hf.clear c (by simp) n hn
      show VRel k'.w k'.O _ _ [v]
      rw [hf.w]; exact this
  | nil =>
    cases c <;> simp only [collC] at h <;> first | (cases h; done) | skip
    simp only [Option.some.injEq, Prod.mk.injEq] at h
    obtain ⟨rfl, rfl⟩ := h
    exact ⟨[], [], Part.nil k ρ, hi, fun k' _ => hc⟩
  | ptr n off =>
    cases c <;> simp only [collC] at h <;> first | (cases h; done) | skip
    rename_i m off'
    split at h
    · rename_i ho
      subst ho
      cases hb : bindN ρ n m with
      | none => rw [hb] at h; cases h
      | some ρ1 =>
        rw [hb] at h
        simp only [Option.map_some, Option.some.injEq, Prod.mk.injEq] at h
        obtain ⟨rfl, rfl⟩ := h
        obtain ⟨h1, h2, h3, h4⟩ := bindN_spec hb
        refine ⟨[], [], ⟨rfl, rfl, fun x hx => (by cases hx), by simp [ownItems], ⟨h2, h3, h4⟩⟩, hi, fun k' hf => ?_⟩
        obtain ⟨g1, g2⟩ := hf.ren n m h1
        refine ⟨⟨g1, hc.1.2⟩, fun cs hcs => ?_⟩
        obtain ⟨g3, cs0, g4⟩ := g2 cs hcs
        rw [g3]
        exact hc.2 cs0 g4
    · cases h
  | self n t =>
    cases c <;> simp only [collC] at h <;> first | (cases h; done) | skip
    rename_i m t'
    split at h
    · rename_i ho
      subst ho
      cases hb : bindN ρ n m with
      | none => rw [hb] at h; cases h
      | some ρ1 =>
        rw [hb] at h
        simp only [Option.map_some, Option.some.injEq, Prod.mk.injEq] at h
        obtain ⟨rfl, rfl⟩ := h
        obtain ⟨h1, h2, h3, h4⟩ := bindN_spec hb
        refine ⟨[], [], ⟨rfl, rfl, fun x hx => (by cases hx), by simp [ownItems], ⟨h2, h3, h4⟩⟩, hi, fun k' hf => ?_⟩
        obtain ⟨g1, g2⟩ := hf.ren n m h1
        refine ⟨⟨g1, hc.1.2⟩, fun cs hcs => ?_⟩
        obtain ⟨g3, cs0, g4⟩ := g2 cs hcs
        rw [g3]
        exact hc.2 cs0 g4
    · cases h
  | ref n e =>
    cases c <;> simp only [collC] at h <;> first | (cases h; done) | skip
    rename_i m e'
    split at h
    · rename_i ho
      obtain ⟨ho, ho'⟩ := ho
      subst ho; subst ho'
      cases hb : bindN ρ n n with
      | none => rw [hb] at h; cases h
      | some ρ1 =>
        rw [hb] at h
        simp only [Option.map_some, Option.some.injEq, Prod.mk.injEq] at h
        obtain ⟨rfl, rfl⟩ := h
        obtain ⟨h1, h2, h3, h4⟩ := bindN_spec hb
        refine ⟨[], [], ⟨rfl, rfl, fun x hx => (by cases hx), by simp [ownItems], ⟨h2, h3, h4⟩⟩, hi, fun k' hf => ?_⟩
        refine ⟨⟨(hf.ren n n h1).1, hc.1.2⟩, fun xs hxs => ?_⟩
        obtain ⟨g3, g4⟩ := hf.arr n n h1 e xs hxs
        rw [g3]
        exact hc.2 xs g4
    · cases h
  | cut n e =>
    cases c <;> simp only [collC] at h <;> first | (cases h; done) | skip
    rename_i m e' lo hi'
    split at h
    · rename_i ho
      obtain ⟨ho, ho'⟩ := ho
      subst ho; subst ho'
      cases hb : bindN ρ n n with
      | none => rw [hb] at h; cases h
      | some ρ1 =>
        rw [hb] at h
        simp only [Option.map_some, Option.some.injEq, Prod.mk.injEq] at h
        obtain ⟨rfl, rfl⟩ := h
        obtain ⟨h1, h2, h3, h4⟩ := bindN_spec hb
        have num : ∀ {z : Int} {is : List Item} {ds : List Cell}, Its (hget k.hp) ((false, [.val (.int .i64) z]) :: is) ds → ∃ ds', ds = .val (.int .i64) z :: ds' ∧ Its (hget k.hp) is ds' := by
          intro z is ds hi
          cases hi with
          | one ht hx hr =>
            rename_i t' x' ds'
            have hx : asTy t' (.int .i64) z = some x' := by cases t' <;> exact hx
            unfold asTy at hx
            split at hx
            · rename_i he
              subst he
              simp only [Option.some.injEq] at hx
              have hx : z = x' := hx
              subst hx
              exact ⟨ds', rfl, hr⟩
            · cases hx
        obtain ⟨ds1, rfl, hi1⟩ := num hi
        obtain ⟨ds2, rfl, hi2⟩ := num hi1
        refine ⟨[], [], ⟨rfl, rfl, fun x hx => (by cases hx), by simp [ownItems, ownOf], ⟨h2, h3, h4⟩⟩, hi2, fun k' hf => ?_⟩
        refine ⟨⟨(hf.ren n n h1).1, hc.1.2⟩, fun xs hxs => ?_⟩
        obtain ⟨g3, g4⟩ := hf.arr n n h1 e xs hxs
        rw [g3]
        exact hc.2 xs g4
    · cases h
  | fn f caps =>
    cases c <;> simp only [collC] at h <;> first | (cases h; done) | skip
    rename_i f' caps'
    split at h
    · rename_i ho
      subst ho
      cases hb : bindAll ρ caps caps' with
      | none => rw [hb] at h; cases h
      | some ρ1 =>
        rw [hb] at h
        simp only [Option.map_some, Option.some.injEq, Prod.mk.injEq] at h
        obtain ⟨rfl, rfl⟩ := h
        obtain ⟨h1, h2, h3⟩ := bindAll_spec _ _ _ _ hb
        refine ⟨[], [], ⟨rfl, rfl, fun x hx => (by cases hx), by simp [ownItems], h1⟩, hi, fun k' hf => ?_⟩
        obtain ⟨vs, e1, e2, e3⟩ := hc
        refine ⟨vs, e1, by omega, fun j hj hj' => ?_⟩
        obtain ⟨q1, q2⟩ := h3 j hj (by omega)
        have hp := e3 j (by omega) hj'
        obtain ⟨g1, g2⟩ := hf.ren _ _ q1
        refine ⟨⟨g1, hp.1.2⟩, fun cs hcs => ?_⟩
        obtain ⟨g3, cs0, g4⟩ := g2 cs hcs
        rw [g3, q2]
        exact hp.2 cs0 g4
    · cases h
  | own n =>
    -- a block of its own: how it is filled
    have key : ∀ (e : Ty) (xs : List e.den) (src : Option Nat) (loc : Loc) (ds' : List Cell), ds = .val (.slice e) xs :: ds' → ρ' = ρ → Its (hget k.hp) is ds' → ElemsAt k.w k.O e xs loc →
        (∀ B, loc.block = some B → ∃ m, src = some m ∧ (∃ ys : List e.den, hget k.hp m = some (.arr e ys)) ∧ (k.μ m).block = some B) → (ownItems l).Perm (src.toList) → Hdr loc e 0 xs.length v →
        ∃ es hs, Part k ρ ρ' (TC.own n).owns (TC.own n).refs l es hs (fillC (.own n) ds).2.1 ∧ Its (hget k.hp) is (fillC (.own n) ds).2.2 ∧ ∀ k', Fits k k' ρ' es hs → CRel k' (fillC (.own n) ds).1 v := by
      intro e xs src loc ds' hds hρ hits hel hsrc hperm hh
      subst hds; subst hρ
      refine ⟨[.arr n e xs src loc], [], ⟨rfl, rfl, fun x hx => ?_, ?_, Grows.refl _⟩, hits, fun k' hf => ?_⟩
      · simp only [List.mem_singleton] at hx
        subst hx
        exact ⟨hel, hsrc⟩
      · have e1 : List.filterMap Ent.src [Ent.arr n e xs src loc] = src.toList := by cases src <;> rfl
        rw [e1]
        simpa using hperm
      · obtain ⟨g1, g2, g3⟩ := hf.ent (.arr n e xs src loc) (by simp)
        refine ⟨⟨g3, hc.one⟩, fun xs' hxs => ?_⟩
        have := g1 _ hxs
        simp only [Ent.pair, Blk.arr.injEq] at this
        have e2 := eq_of_heq this.2
        subst e2
        have g2 : k'.μ n = loc := g2
        rw [g2]
        exact hh
    have head : ∀ (is : List Item), Its (hget k.hp) ((false, [c]) :: is) ds → (∀ t' y, c ≠ .val t' y) → (∀ n k v, c ≠ .mp n k v) → ∃ e xs ds', ds = .val (.slice e) xs :: ds' ∧ cellAs (hget k.hp) (.slice e) c = some xs ∧ Its (hget k.hp) is ds' := by
      intro is hi hv hcl
      cases hi with
      | one ht hx hr =>
        rename_i t' x' ds'
        cases t' with
        | slice e => exact ⟨e, x', ds', rfl, hx, hr⟩
        | _ => cases c <;> first | exact absurd rfl (hv _ _) | exact absurd rfl (hcl _ _ _) | (simp [cellAs] at hx)
    cases c <;> simp only [collC] at h <;> first | (cases h; done) | skip
    · -- nothing
      simp only [Option.some.injEq, Prod.mk.injEq] at h
      obtain ⟨rfl, rfl⟩ := h
      obtain ⟨e, xs, ds', rfl, hx, hr⟩ := head is hi (fun _ _ h => by cases h) (fun _ _ _ h => by cases h)
      simp only [cellAs, Option.some.injEq] at hx
      subst hx
      exact key e [] none .none ds' rfl rfl hr rfl (fun B hB => by cases hB) (by simp [ownItems, ownOf]) ⟨none, hc, rfl, rfl⟩
    · rename_i m e0
      simp only [Option.some.injEq, Prod.mk.injEq] at h
      obtain ⟨rfl, rfl⟩ := h
      obtain ⟨e, xs, ds', rfl, hx, hr⟩ := head is hi (fun _ _ h => by cases h) (fun _ _ _ h => by cases h)
      simp only [cellAs] at hx
      split at hx
      · rename_i he
        subst he
        have hb := arrAs_eq hx
        obtain ⟨loc, g1, g2, g3⟩ := own_fill hk hb (hc.2 xs hb) (by simp)
        simp only [List.drop_zero, List.take_length] at g1
        exact key e0 xs (some m) loc ds' rfl rfl hr g1 (fun B hB => ⟨m, rfl, ⟨xs, hb⟩, g2 B hB⟩) (by simp [ownItems, ownOf]) g3
      · cases hx
    · rename_i m e0 lo hi'
      simp only [Option.some.injEq, Prod.mk.injEq] at h
      obtain ⟨rfl, rfl⟩ := h
      obtain ⟨e, xs, ds', rfl, hx, hr⟩ := head is hi (fun _ _ h => by cases h) (fun _ _ _ h => by cases h)
      simp only [cellAs] at hx
      split at hx
      · rename_i he
        subst he
        cases hl : arrAs e0 (hget k.hp m) with
        | none => rw [hl] at hx; cases hx
        | some ys =>
          rw [hl] at hx
          simp only [Option.map_some, Option.some.injEq] at hx
          have hb := arrAs_eq hl
          obtain ⟨q0, q1, q2, q3⟩ := hc.2 ys hb
          obtain ⟨loc, g1, g2, g3⟩ := own_fill hk hb q3 (by omega)
          have hlen : xs.length = (hi' - lo).toNat := by rw [← hx]; simp [cut]; omega
          exact key e0 xs (some m) loc ds' rfl rfl hr (by rw [← hx]; exact g1) (fun B hB => ⟨m, rfl, ⟨ys, hb⟩, g2 B hB⟩) (by simp [ownItems, ownOf]) (by rw [hlen]; exact g3)
      · cases hx
    · rename_i m kt vt
      simp only [Option.some.injEq, Prod.mk.injEq] at h
      obtain ⟨rfl, rfl⟩ := h
      cases hi with
      | one ht hx hr =>
        rename_i t' x' ds'
        cases t' with
        | map k' v' =>
          simp only [cellAs] at hx
          split at hx
          · rename_i he
            obtain ⟨h1, h2⟩ := he
            subst h1; subst h2
            have hb := mapAs_eq hx
            obtain ⟨B, es, clk, q1, q2, q3⟩ := hk.blk m _ hb
            obtain ⟨B', q4, q5⟩ := hc.2 _ hb
            refine ⟨[.map n kt vt x' m], [], ⟨rfl, rfl, fun x hx => ?_, by simp [ownItems, ownOf, Ent.src], Grows.refl _⟩, hr, fun k'' hf => ?_⟩
            · simp only [List.mem_singleton] at hx
              subst hx
              exact ⟨⟨x', hb⟩, B, es, clk, q1, q2, q3⟩
            · obtain ⟨g1, g2, g3⟩ := hf.ent (.map n kt vt x' m) (by simp)
              refine ⟨⟨g3, hc.one⟩, fun xs' hxs => ⟨B', ?_, q5⟩⟩
              have g2 : k''.μ n = k.μ m := g2
              rw [g2]; exact q4
          · cases hx
        | _ => simp [cellAs] at hx
    · rename_i m e0 lo hi'
      simp only [Option.some.injEq, Prod.mk.injEq] at h
      obtain ⟨rfl, rfl⟩ := h
      obtain ⟨e, xs, ds', rfl, hx, hr⟩ := head is hi (fun _ _ h => by cases h) (fun _ _ _ h => by cases h)
      simp only [cellAs] at hx
      split at hx
      · rename_i he
        subst he
        cases hl : arrAs e0 (hget k.hp m) with
        | none => rw [hl] at hx; cases hx
        | some ys =>
          rw [hl] at hx
          simp only [Option.map_some, Option.some.injEq] at hx
          have hb := arrAs_eq hl
          obtain ⟨q0, q1, q2, _, q3⟩ := hc.2 ys hb
          obtain ⟨loc, g1, g2, g3⟩ := own_fill hk hb q3 (by omega)
          have hlen : xs.length = (hi' - lo).toNat := by rw [← hx]; simp [cut]; omega
          exact key e0 xs (some m) loc ds' rfl rfl hr (by rw [← hx]; exact g1) (fun B hB => ⟨m, rfl, ⟨ys, hb⟩, g2 B hB⟩) (by simp [ownItems, ownOf]) (by rw [hlen]; exact g3)
      · cases hx

end Go.Ab

/-
  TEMPLATES: cells, values, frames, blocks.
-/
set_option linter.unusedVariables false
set_option linter.unusedSimpArgs false
namespace Go.Ab
variable [Tabs]
open Go.RowKit (Below)

theorem fillCs_ok {N : Nat} {k : Kx} (hk : HRel N k) : ∀ (ts : List TC) (cs : List Cell) (vs : List Value) (ρ ρ' : Ren) (l is : List Item) (ds : List Cell), CRels k cs vs → collCs ρ ts cs = some (ρ', l) → Its (hget k.hp) (l ++ is) ds →
    ∃ es hs, Part k ρ ρ' (ts.flatMap TC.owns) (ts.flatMap TC.refs) l es hs (fillCs ts ds).2.1 ∧ Its (hget k.hp) is (fillCs ts ds).2.2 ∧ ∀ k', Fits k k' ρ' es hs → CRels k' (fillCs ts ds).1 vs := by
  intro ts
  induction ts with
  | nil =>
    intro cs vs ρ ρ' l is ds hc h hi
    cases cs with
    | nil =>
      simp only [collCs, Option.some.injEq, Prod.mk.injEq] at h
      obtain ⟨rfl, rfl⟩ := h
      exact ⟨[], [], Part.nil k ρ, hi, fun k' _ => hc⟩
    | cons c r => simp [collCs] at h
  | cons t ts ih =>
    intro cs vs ρ ρ' l is ds hc h hi
    cases cs with
    | nil => simp [collCs] at h
    | cons c cs =>
      simp only [collCs] at h
      cases h1 : collC ρ t c with
      | none => rw [h1] at h; cases h
      | some p =>
        obtain ⟨ρ1, l1⟩ := p
        rw [h1] at h
        simp only at h
        cases h2 : collCs ρ1 ts cs with
        | none => rw [h2] at h; cases h
        | some q =>
          obtain ⟨ρ2, l2⟩ := q
          rw [h2] at h
          simp only [Option.some.injEq, Prod.mk.injEq] at h
          obtain ⟨rfl, rfl⟩ := h
          obtain ⟨v, r, rfl, hv, hr⟩ := hc
          rw [List.append_assoc] at hi
          obtain ⟨es1, hs1, p1, i1, f1⟩ := fillC_ok hk hv h1 hi
          obtain ⟨es2, hs2, p2, i2, f2⟩ := ih cs r ρ1 ρ2 l2 is _ hr h2 i1
          refine ⟨es1 ++ es2, hs1 ++ hs2, p1.append p2, i2, fun k' hf => ⟨v, r, rfl, f1 k' ?_, f2 k' ?_⟩⟩
          · exact hf.mono p2.grow.le (fun x hx => List.mem_append_left _ hx) (fun c hc => List.mem_append_left _ hc)
          · exact hf.mono (fun _ _ h => h) (fun x hx => List.mem_append_right _ hx) (fun c hc => List.mem_append_right _ hc)

theorem fillV_ok {N : Nat} {k : Kx} (hk : HRel N k) {t : TV} {a : AVal} {v : Value} {ρ ρ' : Ren} {l is : List Item} {ds : List Cell} (hc : ARel k a v) (h : collV ρ t a = some (ρ', l)) (hi : Its (hget k.hp) (l ++ is) ds) :
    ∃ es hs, Part k ρ ρ' (t.cells.flatMap TC.owns) (t.cells.flatMap TC.refs) l es hs (fillV t ds).2.1 ∧ Its (hget k.hp) is (fillV t ds).2.2 ∧ ∀ k', Fits k k' ρ' es hs → ARel k' (fillV t ds).1 v := by
  have agg : ∀ (ts : List TC) (cs : List Cell) (us : Array Value), v = .agg us → CRels k cs us.toList → collCs ρ ts cs = some (ρ', l) →
      ∃ es hs, Part k ρ ρ' ((TV.agg ts).cells.flatMap TC.owns) ((TV.agg ts).cells.flatMap TC.refs) l es hs (fillV (.agg ts) ds).2.1 ∧ Its (hget k.hp) is (fillV (.agg ts) ds).2.2 ∧ ∀ k', Fits k k' ρ' es hs → ARel k' (fillV (.agg ts) ds).1 v := by
    intro ts cs us hv hcs h
    obtain ⟨es, hs, p1, i1, f1⟩ := fillCs_ok hk ts cs us.toList ρ ρ' l is ds hcs h hi
    exact ⟨es, hs, p1, i1, fun k' hf => ⟨us, hv, f1 k' hf⟩⟩
  have whole : ∀ (cs : List Cell) (us : Array Value), v = .agg us → CRels k cs us.toList → ρ' = ρ → l = [(true, cs)] →
      ∃ es hs, Part k ρ ρ' (TV.pure.cells.flatMap TC.owns) (TV.pure.cells.flatMap TC.refs) l es hs (fillV .pure ds).2.1 ∧ Its (hget k.hp) is (fillV .pure ds).2.2 ∧ ∀ k', Fits k k' ρ' es hs → ARel k' (fillV .pure ds).1 v := by
    intro cs us hv hcs hρ hl
    subst hρ; subst hl
    cases hi with
    | agg ht hx hr =>
      refine ⟨[], cs, ⟨rfl, rfl, fun x hx => (by cases hx), by simp [ownItems], Grows.refl _⟩, hr, fun k' hf => ⟨ht, us, hv, ?_⟩⟩
      rw [hf.w]
      exact parseAll_sound hk hf.O hcs hx fun c hc n hn => hf.clear c hc n hn
  cases t with
  | one t =>
    cases a with
    | one c =>
      simp only [collV] at h
      rcases hc with hc | hc
      · subst hc
        cases t <;> simp only [collC] at h <;> first | (cases h; done) | skip
        · simp only [Option.some.injEq, Prod.mk.injEq] at h
          obtain ⟨rfl, rfl⟩ := h
          cases hi with
          | one ht hx hr =>
            rename_i t' x' ds'
            cases t' <;> simp [cellAs] at hx
        · simp only [Option.some.injEq, Prod.mk.injEq] at h
          obtain ⟨rfl, rfl⟩ := h
          exact ⟨[], [], Part.nil k ρ, hi, fun k' _ => Or.inl rfl⟩
      · obtain ⟨es, hs, p1, i1, f1⟩ := fillC_ok hk hc h hi
        refine ⟨es, hs, ?_, i1, fun k' hf => Or.inr (f1 k' hf)⟩
        have e1 : (TV.one t).cells.flatMap TC.owns = t.owns := by simp [TV.cells]
        have e2 : (TV.one t).cells.flatMap TC.refs = t.refs := by simp [TV.cells]
        rw [e1, e2]
        exact p1
    | _ => simp [collV] at h
  | pure =>
    cases a with
    | pure ty x =>
      simp only [collV, Option.some.injEq, Prod.mk.injEq] at h
      obtain ⟨_, us, e, hv⟩ := hc
      exact whole (flat ty x) us e ((flat_rel ty x _).1 hv) h.1.symm h.2.symm
    | agg cs =>
      simp only [collV, Option.some.injEq, Prod.mk.injEq] at h
      obtain ⟨us, e, hv⟩ := hc
      exact whole cs us e hv h.1.symm h.2.symm
    | _ => simp [collV] at h
  | agg ts =>
    cases a with
    | pure ty x =>
      simp only [collV] at h
      obtain ⟨_, us, e, hv⟩ := hc
      exact agg ts _ us e ((flat_rel ty x _).1 hv) h
    | agg cs =>
      simp only [collV] at h
      obtain ⟨us, e, hv⟩ := hc
      exact agg ts cs us e hv h
    | _ => simp [collV] at h

theorem FRel.set {k : Kx} {fr : Fr} {tmps : Array Value} (h : FRel k fr tmps) {v : AVal} {i : Nat} (hv : ARel k v (tmps.getD i undef)) : FRel k (fr.set i v) tmps := by
  refine ⟨by simp [h.1], fun j => ?_⟩
  have hj := h.2 j
  simp only [rdT, List.getD_eq_getElem?_getD, List.getElem?_set] at hj ⊢
  by_cases he : i = j
  · subst he
    rw [if_pos rfl]
    split
    · exact hv
    · exact Or.inl rfl
  · rw [if_neg he]; exact hj

theorem fillFr_ok {N : Nat} {k : Kx} (hk : HRel N k) {fr : Fr} {tmps : Array Value} (hfr : FRel k fr tmps) : ∀ (ts : List (Nat × TV)) (base : Fr) (ρ ρ' : Ren) (l is : List Item) (ds : List Cell), collFr fr ρ ts = some (ρ', l) → Its (hget k.hp) (l ++ is) ds →
    ∃ es hs, Part k ρ ρ' (ts.flatMap fun p => p.2.cells.flatMap TC.owns) (ts.flatMap fun p => p.2.cells.flatMap TC.refs) l es hs (fillFr base ts ds).2.1 ∧ Its (hget k.hp) is (fillFr base ts ds).2.2 ∧
      ∀ k', Fits k k' ρ' es hs → FRel k' base tmps → FRel k' (fillFr base ts ds).1 tmps := by
  intro ts
  induction ts with
  | nil =>
    intro base ρ ρ' l is ds h hi
    simp only [collFr, Option.some.injEq, Prod.mk.injEq] at h
    obtain ⟨rfl, rfl⟩ := h
    exact ⟨[], [], Part.nil k ρ, hi, fun k' _ hb => hb⟩
  | cons p ts ih =>
    intro base ρ ρ' l is ds h hi
    obtain ⟨i, t⟩ := p
    simp only [collFr] at h
    cases h1 : collV ρ t (rdT fr i) with
    | none => rw [h1] at h; cases h
    | some p =>
      obtain ⟨ρ1, l1⟩ := p
      rw [h1] at h
      simp only at h
      cases h2 : collFr fr ρ1 ts with
      | none => rw [h2] at h; cases h
      | some q =>
        obtain ⟨ρ2, l2⟩ := q
        rw [h2] at h
        simp only [Option.some.injEq, Prod.mk.injEq] at h
        obtain ⟨rfl, rfl⟩ := h
        rw [List.append_assoc] at hi
        obtain ⟨es1, hs1, p1, i1, f1⟩ := fillV_ok hk (hfr.2 i) h1 hi
        obtain ⟨es2, hs2, p2, i2, f2⟩ := ih (base.set i (fillV t ds).1) ρ1 ρ2 l2 is _ h2 i1
        refine ⟨es1 ++ es2, hs1 ++ hs2, p1.append p2, i2, fun k' hf hb => f2 k' ?_ (hb.set (f1 k' ?_))⟩
        · exact hf.mono (fun _ _ h => h) (fun x hx => List.mem_append_right _ hx) (fun c hc => List.mem_append_right _ hc)
        · exact hf.mono p2.grow.le (fun x hx => List.mem_append_left _ hx) (fun c hc => List.mem_append_left _ hc)

/-- A variable. -/
theorem var_part {k : Kx} {n m : Nat} {cs cs0 : List Cell} {B : Nat} {row : Array Value} {E : TypeId} {fz : Nat × Nat} {ρ ρ' : Ren} {names refs : List Nat} {l : List Item} {es : List Ent} {hs : List Cell} {hp : Hp} (p : Part k ρ ρ' names refs l es hs hp) (hρ : renOf ρ n = some m)
    (hc : hget k.hp m = some (.var cs0)) (hμ : k.μ m = .at_ B 0 0) (hrow : k.w.heap[B]? = some (.cells row E fz)) (hfz : Unfrozen row fz) (htag : TagOK cs E) (hf : ∀ k', Fits k k' ρ' es hs → CRels k' cs row.toList) :
    Part k ρ ρ' (n :: names) refs l (.var n cs m :: es) hs ((n, .var cs) :: hp) := by
  refine ⟨by rw [p.hp]; rfl, by simp only [List.map_cons, p.names]; rfl, fun x hx => ?_, p.own, p.grow⟩
  rcases List.mem_cons.1 hx with hx | hx
  · subst hx
    exact ⟨p.grow.le _ _ hρ, ⟨cs0, hc⟩, B, row, E, fz, hμ, hrow, hfz, htag, fun k' hk' => hf k' (hk'.mono (fun _ _ h => h) (fun x hx => List.mem_cons_of_mem _ hx) (fun _ h => h))⟩
  · exact (p.good x hx).mono (fun _ _ h => h) (fun x hx => List.mem_cons_of_mem _ hx) (fun _ h => h)

theorem TagOK.fill {look : Nat → Option Blk} {ρ ρ' : Ren} {ts : List TC} {cs : List Cell} {l is : List Item} {ds : List Cell} {E : TypeId} (h : collCs ρ ts cs = some (ρ', l)) (hi : Its look (l ++ is) ds) (ht : TagOK cs E) : TagOK (fillCs ts ds).1 E := by
  intro n t r e
  cases ts with
  | nil => cases e
  | cons x ts =>
    cases cs with
    | nil => cases h
    | cons c cs =>
      simp only [fillCs, List.cons.injEq] at e
      simp only [collCs] at h
      cases h1 : collC ρ x c with
      | none => rw [h1] at h; cases h
      | some p =>
        obtain ⟨ρ1, l1⟩ := p
        rw [h1] at h
        simp only at h
        have hx := e.1
        cases x with
        | self n' t' =>
          cases c <;> simp only [collC] at h1 <;> first | (cases h1; done) | skip
          split at h1
          · rename_i m t0 ht0
            simp only [fillC, Cell.self.injEq] at hx
            have := ht m t0 cs rfl
            rw [this, ← ht0, hx.2]
          · cases h1
        | hole =>
          simp only [collC, Option.some.injEq, Prod.mk.injEq] at h1
          obtain ⟨_, rfl⟩ := h1
          cases h2 : collCs ρ1 ts cs with
          | none => rw [h2] at h; cases h
          | some q =>
            obtain ⟨ρ2, l2⟩ := q
            rw [h2] at h
            simp only [Option.some.injEq, Prod.mk.injEq] at h
            obtain ⟨_, rfl⟩ := h
            cases hi
            simp only [fillC] at hx
            cases hx
        | own n' =>
          exfalso
          simp only [fillC] at hx
          split at hx <;> first | (cases hx; done) | (rename_i hq; cases hq)
        | _ =>
          exfalso
          simp only [fillC] at hx
          repeat' split at hx
          all_goals first | (cases hx; done) | (rename_i hq; cases hq; done) | (rename_i hq _; cases hq)

theorem fillHp_ok {N : Nat} {k : Kx} (hk : HRel N k) : ∀ (vs : List (Nat × List TC)) (ρ ρ' : Ren) (l : List Item) (ds : List Cell), collHp k.hp ρ vs = some (ρ', l) → Its (hget k.hp) l ds →
    ∃ es hs, Part k ρ ρ' (vs.flatMap fun p => p.1 :: p.2.flatMap TC.owns) (vs.flatMap fun p => p.2.flatMap TC.refs) l es hs (fillHp vs ds) ∧ ∀ x ∈ es, (∃ n cs m, x = .var n cs m) ∨ x.name ∈ vs.flatMap fun p => p.2.flatMap TC.owns := by
  intro vs
  induction vs with
  | nil =>
    intro ρ ρ' l ds h hi
    simp only [collHp, Option.some.injEq, Prod.mk.injEq] at h
    obtain ⟨rfl, rfl⟩ := h
    exact ⟨[], [], Part.nil k ρ, fun x hx => by cases hx⟩
  | cons p vs ih =>
    intro ρ ρ' l ds h hi
    obtain ⟨n, ts⟩ := p
    simp only [collHp] at h
    cases hm : renOf ρ n with
    | none => rw [hm] at h; cases h
    | some m =>
      rw [hm] at h
      simp only at h
      split at h
      · rename_i cs0 hcs
        cases h1 : collCs ρ ts cs0 with
        | none => rw [h1] at h; cases h
        | some p =>
          obtain ⟨ρ1, l1⟩ := p
          rw [h1] at h
          simp only at h
          cases h2 : collHp k.hp ρ1 vs with
          | none => rw [h2] at h; cases h
          | some q =>
            obtain ⟨ρ2, l2⟩ := q
            rw [h2] at h
            simp only [Option.some.injEq, Prod.mk.injEq] at h
            obtain ⟨rfl, rfl⟩ := h
            obtain ⟨B, row, E, fz, g1, g2, g3, g4, g5⟩ := hk.blk m _ hcs
            obtain ⟨es1, hs1, p1, i1, f1⟩ := fillCs_ok hk ts cs0 row.toList ρ ρ1 l1 l2 ds g4 h1 hi
            obtain ⟨es2, hs2, p2, w2⟩ := ih ρ1 ρ2 l2 _ h2 i1
            have pv := var_part p1 hm hcs g1 g2 g3 (.fill h1 hi g5) f1
            refine ⟨(.var n (fillCs ts ds).1 m :: es1) ++ es2, hs1 ++ hs2, by simpa [fillHp] using pv.append p2, fun x hx => ?_⟩
            rcases List.mem_append.1 hx with hx | hx
            · rcases List.mem_cons.1 hx with hx | hx
              · exact Or.inl ⟨_, _, _, hx⟩
              · right
                simp only [List.flatMap_cons]
                refine List.mem_append_left _ ?_
                rw [← p1.names]
                exact List.mem_map.2 ⟨x, hx, rfl⟩
            · refine (w2 x hx).imp id fun h => ?_
              simp only [List.flatMap_cons]
              exact List.mem_append_right _ h
      · cases h

/-- An entry that keeps its name. -/
def AbsE (k : Kx) (ρ : Ren) : Ent → Prop
  | .arr n e xs src loc => hget k.hp n = some (.arr e xs) ∧ loc = k.μ n ∧ renOf ρ n = some n
  | .var n cs m => m = n
  | .map n kt vt xs m => hget k.hp n = some (.map kt vt xs) ∧ m = n

theorem AbsE.mono {k : Kx} {ρ ρ' : Ren} {x : Ent} (h : AbsE k ρ x) (hr : RenLe ρ ρ') : AbsE k ρ' x := by
  cases x with
  | arr n e xs src loc => exact ⟨h.1, h.2.1, hr _ _ h.2.2⟩
  | var n cs m => exact h
  | map n kt vt xs m => exact h

theorem fillAbs_ok {N : Nat} {k : Kx} (hk : HRel N k) : ∀ (vs : List (Nat × TB)) (ρ ρ' : Ren) (l is : List Item) (ds : List Cell), collAbs k.hp ρ vs = some (ρ', l) → Its (hget k.hp) (l ++ is) ds →
    ∃ es hs, Part k ρ ρ' (vs.flatMap fun p => p.1 :: p.2.cells.flatMap TC.owns) (vs.flatMap fun p => p.1 :: p.2.cells.flatMap TC.refs) l es hs (fillAbs vs ds).1 ∧ Its (hget k.hp) is (fillAbs vs ds).2 ∧
      ∀ x ∈ es, x.name ∈ (vs.flatMap fun p => p.2.cells.flatMap TC.owns) ∨ AbsE k ρ' x := by
  intro vs
  induction vs with
  | nil =>
    intro ρ ρ' l is ds h hi
    simp only [collAbs, Option.some.injEq, Prod.mk.injEq] at h
    obtain ⟨rfl, rfl⟩ := h
    exact ⟨[], [], Part.nil k ρ, hi, fun x hx => by cases hx⟩
  | cons p vs ih =>
    intro ρ ρ' l is ds h hi
    obtain ⟨n, b⟩ := p
    simp only [collAbs] at h
    split at h
    · rename_i e ys hn
      cases hb0 : bindN ρ n n with
      | none => rw [hb0] at h; cases h
      | some ρ0 =>
      rw [hb0] at h
      simp only at h
      obtain ⟨b1, b2, b3, b4⟩ := bindN_spec hb0
      cases h2 : collAbs k.hp ρ0 vs with
      | none => rw [h2] at h; cases h
      | some q =>
        obtain ⟨ρ2, l2⟩ := q
        rw [h2] at h
        simp only [Option.some.injEq, Prod.mk.injEq] at h
        obtain ⟨rfl, rfl⟩ := h
        cases hi with
        | one ht hx hr =>
          rename_i t' x' ds'
          have hx2 : ∃ (hte : t' = .slice e), (hte ▸ x' : (Ty.slice e).den) = ys := by
            cases t' with
            | slice e2 =>
              simp only [cellAs] at hx
              split at hx
              · rename_i he
                subst he
                have hb := arrAs_eq hx
                rw [hn] at hb
                simp only [Option.some.injEq, Blk.arr.injEq, true_and] at hb
                exact ⟨rfl, (eq_of_heq hb).symm⟩
              · cases hx
            | _ => simp [cellAs] at hx
          obtain ⟨hte, hxe⟩ := hx2
          subst hte
          have hxe : x' = ys := hxe
          subst hxe
          obtain ⟨es2, hs2, p2, i2, f2⟩ := ih ρ0 ρ2 l2 is ds' h2 hr
          have hbr := hk.blk n _ hn
          have p1 : Part k ρ ρ0 [n] [n] [(false, [.own n e])] [.arr n e x' (some n) (k.μ n)] [] [(n, .arr e x')] := by
            refine ⟨rfl, rfl, fun x hx => ?_, by simp [ownItems, ownOf, Ent.src], ⟨b2, b3, b4⟩⟩
            simp only [List.mem_singleton] at hx
            subst hx
            refine ⟨?_, fun B hB => ⟨n, rfl, ⟨x', hn⟩, hB⟩⟩
            unfold BRel at hbr
            cases hm : k.μ n with
            | none => rw [hm] at hbr; exact hbr
            | at_ B o cap => rw [hm] at hbr; exact hbr
          refine ⟨[.arr n e x' (some n) (k.μ n)] ++ es2, [] ++ hs2, ?_, i2, fun x hx => ?_⟩
          · have := p1.append p2
            simpa [fillAbs, TB.cells] using this
          · rcases List.mem_append.1 hx with hx | hx
            · simp only [List.mem_singleton] at hx
              subst hx
              exact Or.inr ⟨hn, rfl, p2.grow.le _ _ b1⟩
            · refine (f2 x hx).imp (fun h => ?_) id
              simp only [List.flatMap_cons]
              exact List.mem_append_right _ h
    · rename_i kt vt ys hn
      cases h2 : collAbs k.hp ρ vs with
      | none => rw [h2] at h; cases h
      | some q =>
        obtain ⟨ρ2, l2⟩ := q
        rw [h2] at h
        simp only [Option.some.injEq, Prod.mk.injEq] at h
        obtain ⟨rfl, rfl⟩ := h
        cases hi with
        | one ht hx hr =>
          rename_i t' x' ds'
          have hx2 : ∃ (hte : t' = .map kt vt), (hte ▸ x' : (Ty.map kt vt).den) = ys := by
            cases t' with
            | map k2 v2 =>
              simp only [cellAs] at hx
              split at hx
              · rename_i he
                obtain ⟨h1, h2⟩ := he
                subst h1; subst h2
                have hb := mapAs_eq hx
                rw [hn] at hb
                simp only [Option.some.injEq, Blk.map.injEq, true_and] at hb
                exact ⟨rfl, (eq_of_heq hb).symm⟩
              · cases hx
            | _ => simp [cellAs] at hx
          obtain ⟨hte, hxe⟩ := hx2
          subst hte
          have hxe : x' = ys := hxe
          subst hxe
          obtain ⟨es2, hs2, p2, i2, f2⟩ := ih ρ ρ2 l2 is ds' h2 hr
          have hbr := hk.blk n _ hn
          have p1 : Part k ρ ρ [n] [n] [(false, [.mp n kt vt])] [.map n kt vt x' n] [] [(n, .map kt vt x')] := by
            refine ⟨rfl, rfl, fun x hx => ?_, by simp [ownItems, ownOf, Ent.src], ⟨fun _ _ h => h, fun _ _ h => Or.inl h, id⟩⟩
            simp only [List.mem_singleton] at hx
            subst hx
            exact ⟨⟨x', hn⟩, hbr⟩
          refine ⟨[.map n kt vt x' n] ++ es2, [] ++ hs2, ?_, i2, fun x hx => ?_⟩
          · have := p1.append p2
            simpa [fillAbs, TB.cells] using this
          · rcases List.mem_append.1 hx with hx | hx
            · simp only [List.mem_singleton] at hx
              subst hx
              exact Or.inr ⟨hn, rfl⟩
            · refine (f2 x hx).imp (fun h => ?_) id
              simp only [List.flatMap_cons]
              exact List.mem_append_right _ h
    · rename_i ts cs0 hcs
      cases hb : bindN ρ n n with
      | none => rw [hb] at h; cases h
      | some ρ0 =>
        rw [hb] at h
        simp only at h
        obtain ⟨b1, b2, b3, b4⟩ := bindN_spec hb
        cases h1 : collCs ρ0 ts cs0 with
        | none => rw [h1] at h; cases h
        | some p =>
          obtain ⟨ρ1, l1⟩ := p
          rw [h1] at h
          simp only at h
          cases h2 : collAbs k.hp ρ1 vs with
          | none => rw [h2] at h; cases h
          | some q =>
            obtain ⟨ρ2, l2⟩ := q
            rw [h2] at h
            simp only [Option.some.injEq, Prod.mk.injEq] at h
            obtain ⟨rfl, rfl⟩ := h
            obtain ⟨B, row, E, fz, g1, g2, g3, g4, g5⟩ := hk.blk n _ hcs
            rw [List.append_assoc] at hi
            obtain ⟨es1, hs1, p1, i1, f1⟩ := fillCs_ok hk ts cs0 row.toList ρ0 ρ1 l1 (l2 ++ is) ds g4 h1 hi
            obtain ⟨es2, hs2, p2, i2, f2⟩ := ih ρ1 ρ2 l2 is _ h2 i1
            have pv := var_part p1 b1 hcs g1 g2 g3 (.fill h1 hi g5) f1
            have pv' : Part k ρ ρ1 (n :: ts.flatMap TC.owns) (n :: ts.flatMap TC.refs) l1 _ hs1 _ := ⟨pv.hp, pv.names, pv.good, pv.own, Grows.trans (a := [n]) ⟨b2, b3, b4⟩ pv.grow⟩
            refine ⟨(.var n (fillCs ts ds).1 n :: es1) ++ es2, hs1 ++ hs2, ?_, i2, fun x hx => ?_⟩
            · have := pv'.append p2
              simpa [fillAbs, TB.cells] using this
            · rcases List.mem_append.1 hx with hx | hx
              · rcases List.mem_cons.1 hx with hx | hx
                · subst hx; exact Or.inr rfl
                · left
                  simp only [List.flatMap_cons, TB.cells]
                  refine List.mem_append_left _ ?_
                  rw [← p1.names]
                  exact List.mem_map.2 ⟨x, hx, rfl⟩
              · refine (f2 x hx).imp (fun h => ?_) id
                simp only [List.flatMap_cons]
                exact List.mem_append_right _ h
    · cases h

end Go.Ab

/-
  TEMPLATES: the state that is filled is true.
-/
set_option linter.unusedVariables false
set_option linter.unusedSimpArgs false
namespace Go.Ab
variable [Tabs]
open Go.RowKit (Below)

theorem nodupB_iff : ∀ {l : List Nat}, nodupB l = true → l.Nodup := by
  intro l
  induction l with
  | nil => intro _; exact List.nodup_nil
  | cons a r ih =>
    intro h
    simp only [nodupB, Bool.and_eq_true, Bool.not_eq_true', List.contains_eq_mem, decide_eq_false_iff_not] at h
    exact List.nodup_cons.2 ⟨h.1, ih h.2⟩

def entAt (es : List Ent) (n : Nat) : Option Ent := es.find? fun x => x.name == n

theorem entAt_mem {es : List Ent} {n : Nat} {x : Ent} (h : entAt es n = some x) : x ∈ es ∧ x.name = n := by
  refine ⟨List.mem_of_find?_eq_some h, ?_⟩
  have := List.find?_some h
  simpa using this

theorem entAt_of : ∀ {es : List Ent}, (es.map Ent.name).Nodup → ∀ x ∈ es, entAt es x.name = some x := by
  intro es
  induction es with
  | nil => intro _ x hx; cases hx
  | cons y r ih =>
    intro h x hx
    simp only [List.map_cons, List.nodup_cons] at h
    unfold entAt
    rw [List.find?_cons]
    rcases List.mem_cons.1 hx with e | hx
    · subst e; simp
    · have hne : (y.name == x.name) = false := by
        simp only [beq_eq_false_iff_ne, ne_eq]
        intro e
        exact h.1 (by rw [e]; exact List.mem_map.2 ⟨x, hx, rfl⟩)
      rw [hne]
      exact ih h.2 x hx

theorem hget_ents : ∀ (es : List Ent) (n : Nat), hget (es.map Ent.pair) n = (entAt es n).map fun x => x.pair.2 := by
  intro es
  induction es with
  | nil => intro n; rfl
  | cons y r ih =>
    intro n
    have hp : Ent.pair y = (y.name, y.pair.2) := by cases y <;> rfl
    simp only [List.map_cons]
    rw [hp]
    simp only [hget]
    unfold entAt
    rw [List.find?_cons]
    by_cases h : y.name = n
    · simp [h]
    · have hne : (y.name == n) = false := by simpa using h
      rw [if_neg h, hne]
      exact ih n

theorem src_inj : ∀ {es : List Ent}, (es.filterMap Ent.src).Nodup → ∀ x ∈ es, ∀ y ∈ es, ∀ m, x.src = some m → y.src = some m → x = y := by
  intro es
  induction es with
  | nil => intro _ x hx; cases hx
  | cons z r ih =>
    intro h x hx y hy m h1 h2
    have hr : (r.filterMap Ent.src).Nodup := by
      rw [List.filterMap_cons] at h
      split at h
      · exact h
      · exact (List.nodup_cons.1 h).2
    have hz : ∀ u ∈ r, z.src = some m → u.src = some m → False := by
      intro u hu e1 e2
      rw [List.filterMap_cons, e1] at h
      exact (List.nodup_cons.1 h).1 (List.mem_filterMap.2 ⟨u, hu, e2⟩)
    rcases List.mem_cons.1 hx with e | gx
    · rcases List.mem_cons.1 hy with e' | gy
      · rw [e, e']
      · subst e; exact (hz y gy h1 h2).elim
    · rcases List.mem_cons.1 hy with e' | gy
      · subst e'; exact (hz x gx h2 h1).elim
      · exact ih hr x gx y gy m h1 h2

/-- The blocks that a template gives, put together. -/
theorem assemble {N : Nat} {k : Kx} (hk : HRel N k) {ρ : Ren} {names refs : List Nat} {l : List Item} {es : List Ent} {hs : List Cell} {hp : Hp} {nx : Nat} (P : Part k [] ρ names refs l es hs hp) (hnd : names.Nodup) (hnl : (ownItems l).Nodup) (hnx : ∀ n ∈ names, n < nx) (href : ∀ n ∈ refs, n < nx)
    (harr : ∀ n e xs src loc, Ent.arr n e xs src loc ∈ es → ∀ m, renOf ρ n = some m → loc = k.μ m ∧ hget k.hp m = some (.arr e xs)) :
    ∃ k' : Kx, k'.w = k.w ∧ k'.hp = hp ∧ k'.nx = nx ∧ k'.X = k.X ∧ ((∀ B, k'.O B → k.O B) ∧ ∀ B, k'.Own B → k.Own B) ∧ HRel N k' ∧ Fits k k' ρ es hs ∧ (∀ x ∈ es, k'.μ x.name = x.loc k) ∧ (∀ n b, hget k'.hp n = some b → ∃ x ∈ es, x.name = n ∧ x.pair.2 = b) ∧ k'.U = fun n => n < nx := by
  have hnames : (es.map Ent.name).Nodup := by rw [P.names]; exact hnd
  have hown : (es.filterMap Ent.src ++ hs.flatMap ownOf).Nodup := (P.own.nodup_iff).1 hnl
  have hsrc := (List.nodup_append.1 hown).1
  have hdis := (List.nodup_append.1 hown).2.2
  have hren0 : RenOK ρ := P.grow.ok ⟨by simp, by simp⟩
  -- the state
  let k' : Kx := ⟨k.w, es.map Ent.pair, fun n => match entAt es n with | some x => x.loc k | none => .none, nx, k.X, fun n => n < nx⟩
  have hget' : ∀ n b, hget k'.hp n = some b → ∃ x ∈ es, x.name = n ∧ x.pair.2 = b := by
    intro n b h
    have h : hget (es.map Ent.pair) n = some b := h
    rw [hget_ents] at h
    cases he : entAt es n with
    | none => rw [he] at h; cases h
    | some x =>
      rw [he] at h
      simp only [Option.map_some, Option.some.injEq] at h
      obtain ⟨g1, g2⟩ := entAt_mem he
      exact ⟨x, g1, g2, h⟩
  have hμ' : ∀ x ∈ es, k'.μ x.name = x.loc k := by
    intro x hx
    show (match entAt es x.name with | some x => x.loc k | none => .none) = _
    rw [entAt_of hnames x hx]
  have hof : ∀ x ∈ es, hget k'.hp x.name = some x.pair.2 := by
    intro x hx
    show hget (es.map Ent.pair) x.name = _
    rw [hget_ents, entAt_of hnames x hx]
    rfl
  -- where a block comes from
  have from_ : ∀ x ∈ es, ∀ B, (x.loc k).block = some B → ∃ m b, hget k.hp m = some b ∧ (k.μ m).block = some B ∧
      ((ArrMap (some b) ∧ x.src = some m) ∨ (∃ cs0, b = .var cs0 ∧ ∃ n cs, x = .var n cs m ∧ renOf ρ n = some m)) := by
    intro x hx B hB
    have hg := P.good x hx
    cases x with
    | arr n e xs src loc =>
      obtain ⟨m, h3, ⟨ys, h4⟩, h5⟩ := hg.2 B hB
      exact ⟨m, _, h4, h5, Or.inl ⟨Or.inl ⟨e, ys, rfl⟩, h3⟩⟩
    | map n kt vt xs m =>
      obtain ⟨⟨ys, h3⟩, _⟩ := hg
      exact ⟨m, _, h3, hB, Or.inl ⟨Or.inr ⟨kt, vt, ys, rfl⟩, rfl⟩⟩
    | var n cs m =>
      obtain ⟨h3, ⟨cs0, h4⟩, _⟩ := hg
      exact ⟨m, _, h4, hB, Or.inr ⟨cs0, rfl, n, cs, rfl, h3⟩⟩
  have ownFrom : ∀ B, k'.Own B → ∃ x ∈ es, (x.loc k).block = some B := by
    rintro B ⟨n, b, h3, h4⟩
    obtain ⟨x, hx, hn, _⟩ := hget' n b h3
    subst hn
    rw [hμ' x hx] at h4
    exact ⟨x, hx, h4⟩
  have hOw : ∀ B, k'.Own B → k.Own B := by
    intro B hB
    obtain ⟨x, hx, hl⟩ := ownFrom B hB
    obtain ⟨m, b, h3, h4, _⟩ := from_ x hx B hl
    exact ⟨m, b, h3, h4⟩
  have hO : ∀ B, k'.O B → k.O B := fun B hB => hB.imp id (hOw B)
  have hlt : ∀ x ∈ es, x.name < nx := by
    intro x hx
    exact hnx x.name (by
      have : x.name ∈ es.map Ent.name := List.mem_map.2 ⟨x, hx, rfl⟩
      rw [P.names] at this
      exact this)
  have hreflt : ∀ n m, renOf ρ n = some m → n < nx := by
    intro n m h
    rcases P.grow.new n m h with h | h
    · simp [renOf] at h
    · exact href n h
  have hfits : Fits k k' ρ es hs := by
    refine ⟨rfl, hO, fun x hx => ⟨fun b hb => ?_, hμ' x hx, hlt x hx⟩, fun n m h => ⟨hreflt n m h, fun cs hcs => ?_⟩, fun n m h e xs hxs => ?_, fun c hc n hn harr B hB hOB => ?_⟩
    · rw [hof x hx] at hb; exact (Option.some.inj hb).symm
    · obtain ⟨x, hx, hn, hb⟩ := hget' n _ hcs
      have hg := P.good x hx
      cases x with
      | arr q e xs src loc => cases hb
      | map q kt vt xs m' => cases hb
      | var q cs' m' =>
        have hn : q = n := hn
        subst hn
        obtain ⟨h3, h4, _⟩ := hg
        rw [h] at h3
        have : m = m' := Option.some.inj h3
        subst this
        exact ⟨hμ' _ hx, h4⟩
    · obtain ⟨x, hx, hn, hb⟩ := hget' n _ hxs
      cases x with
      | var q cs m' => cases hb
      | map q kt vt ys m' => cases hb
      | arr q e' ys src loc =>
        have hn : q = n := hn
        subst hn
        have hb : Blk.arr e' ys = Blk.arr e xs := hb
        simp only [Blk.arr.injEq] at hb
        obtain ⟨he, hys⟩ := hb
        subst he
        have hys := eq_of_heq hys
        subst hys
        obtain ⟨g1, g2⟩ := harr _ _ _ _ _ hx m h
        exact ⟨(hμ' _ hx).trans g1, g2⟩
    · have harr' : ∃ b0, hget k.hp n = some b0 := by
        rcases harr with ⟨e, xs, harr⟩ | ⟨kt, vt, xs, harr⟩
        · exact ⟨_, harr⟩
        · exact ⟨_, harr⟩
      obtain ⟨b0, hb0⟩ := harr'
      rcases hOB with hX | hOB
      · exact hk.xown B hX ⟨n, _, hb0, hB⟩
      · obtain ⟨x, hx, hl⟩ := ownFrom B hOB
        obtain ⟨m, b, h3, h4, h5⟩ := from_ x hx B hl
        have hnm := hk.inj n m _ b B hb0 h3 hB h4
        subst hnm
        rcases h5 with ⟨_, hs'⟩ | ⟨cs0, hb, _⟩
        · exact hdis n (List.mem_filterMap.2 ⟨x, hx, hs'⟩) n (List.mem_flatMap.2 ⟨c, hc, hn⟩) rfl
        · subst hb
          rcases harr with ⟨e, xs, harr⟩ | ⟨kt, vt, xs, harr⟩
          · rw [harr] at h3; cases h3
          · rw [harr] at h3; cases h3
  have hH : HRel N k' := by
    refine ⟨fun n b hb => ?_, fun n q b c B hb hc h3 h4 => ?_, fun B hB => ?_, hk.xlow, fun B hX hB => ?_, fun n b hb => ?_⟩
    · obtain ⟨x, hx, hn, hb'⟩ := hget' n b hb
      have hg := P.good x hx
      have hm := hμ' x hx
      cases x with
      | arr q e xs src loc =>
        have hn : q = n := hn
        subst hn
        have hb' : Blk.arr e xs = b := hb'
        subst hb'
        unfold BRel
        have hm : k'.μ q = loc := hm
        rw [hm]
        have hel := hg.1
        cases loc with
        | none => exact hel
        | at_ B o cap =>
          obtain ⟨row, E, fz, g1, g2, g3, g4, g5, g6⟩ := hel
          exact ⟨row, E, fz, g1, g2, g3, g4, g5, fun i hi => VRel.mono (fun _ _ _ => rfl) (fun B hB _ => hO B hB) _ _ _ (g6 i hi)⟩
      | var q cs m =>
        have hn : q = n := hn
        subst hn
        have hb' : Blk.var cs = b := hb'
        subst hb'
        obtain ⟨_, _, B, row, E, fz, g1, g2, g3, g5, g4⟩ := hg
        have hm : k'.μ q = k.μ m := hm
        exact ⟨B, row, E, fz, hm.trans g1, g2, g3, g4 k' hfits, g5⟩
      | map q kt vt xs m =>
        have hn : q = n := hn
        subst hn
        have hb' : Blk.map kt vt xs = b := hb'
        subst hb'
        obtain ⟨_, B, es', clk, g1, g2, g3⟩ := hg
        have hm : k'.μ q = k.μ m := hm
        exact ⟨B, es', clk, hm.trans g1, g2, g3.mono fun _ _ _ h => VRel.mono (fun _ _ _ => rfl) (fun B hB _ => hO B hB) _ _ _ h⟩
    · obtain ⟨x, hx, hn, _⟩ := hget' n b hb
      obtain ⟨y, hy, hq, _⟩ := hget' q c hc
      subst hn; subst hq
      rw [hμ' x hx] at h3
      rw [hμ' y hy] at h4
      obtain ⟨m1, b1, g1, g2, g3⟩ := from_ x hx B h3
      obtain ⟨m2, b2, g4, g5, g6⟩ := from_ y hy B h4
      have hm := hk.inj m1 m2 b1 b2 B g1 g4 g2 g5
      subst hm
      rw [g1] at g4
      have hbb : b1 = b2 := Option.some.inj g4
      subst hbb
      rcases g3 with ⟨hb1, hs1'⟩ | ⟨cs0, hb1, n1, c1, hx1, hr1⟩
      · rcases g6 with ⟨hb2, hs2'⟩ | ⟨cs0, hb2, _⟩
        · rw [src_inj hsrc x hx y hy m1 hs1' hs2']
        · subst hb2
          rcases hb1 with ⟨_, _, h⟩ | ⟨_, _, _, h⟩ <;> cases h
      · rcases g6 with ⟨hb2, hs2'⟩ | ⟨cs0', hb2, n2, c2, hx2, hr2⟩
        · subst hb1
          rcases hb2 with ⟨_, _, h⟩ | ⟨_, _, _, h⟩ <;> cases h
        · subst hx1; subst hx2
          exact hren0.inj hr1 hr2
    · obtain ⟨x, hx, hl⟩ := ownFrom B hB
      obtain ⟨m, b, g1, g2, _⟩ := from_ x hx B hl
      exact hk.low B ⟨m, b, g1, g2⟩
    · obtain ⟨x, hx, hl⟩ := ownFrom B hB
      obtain ⟨m, b, g1, g2, _⟩ := from_ x hx B hl
      exact hk.xown B hX ⟨m, b, g1, g2⟩
    · obtain ⟨x, hx, hn, _⟩ := hget' n b hb
      subst hn
      exact hlt x hx
  exact ⟨k', rfl, P.hp.symm, rfl, rfl, ⟨hO, hOw⟩, hH, hfits, hμ', hget', rfl⟩

/-- A state that is packed, and filled again. -/
theorem pack0_sound {N : Nat} {k0 : Kx} {lo : Nat} {T : Tmpl} {σ : St} {k : Kx} {a : Act} {v : T.ty.den} {base : Fr} (hR : Rel N k0 σ k a) (hlo : ∀ n, k0.U n → n < lo) (hp : T.pack0 lo σ = some v)
    (hbase : ∀ k' : Kx, k'.w = k.w → WExt k k' → FRel k' base a.tmps) : ∃ k', k'.w = k.w ∧ Rel N k0 (T.unpack base v) k' a ∧ WExt k k' := by
  have hk := hR.h
  unfold Tmpl.pack0 at hp
  split at hp
  · rename_i hok
    cases h0 : collAbs σ.hp [] T.abs with
    | none => rw [h0] at hp; cases hp
    | some p0 =>
      obtain ⟨ρ0, l0⟩ := p0
      rw [h0] at hp
      simp only at hp
      cases h1 : collFr σ.fr ρ0 T.live with
      | none => rw [h1] at hp; cases hp
      | some p1 =>
        obtain ⟨ρ1, l1⟩ := p1
        rw [h1] at hp
        simp only at hp
        cases h2 : collHp σ.hp ρ1 T.vars with
        | none => rw [h2] at hp; cases hp
        | some p2 =>
          obtain ⟨ρ2, l2⟩ := p2
          rw [h2] at hp
          simp only at hp
          split at hp
          · rename_i hnd
            simp only [Bool.and_eq_true, List.all_eq_true, Option.isNone_iff_eq_none] at hnd
            obtain ⟨hnd, hgiven⟩ := hnd
            rw [← hR.hp] at h0 h2 hp
            have hits := its_of T.ty _ v hp
            obtain ⟨es0, hs0, P0, i0, ab0⟩ := fillAbs_ok hk T.abs [] ρ0 l0 (l1 ++ l2) _ h0 hits
            obtain ⟨es1, hs1, P1, i1, f1⟩ := fillFr_ok hk hR.f T.live base ρ0 ρ1 l1 l2 _ h1 i0
            obtain ⟨es2, hs2, P2, w2⟩ := fillHp_ok hk T.vars ρ1 ρ2 l2 _ h2 i1
            have P := P0.append (P1.append P2)
            simp only [Tmpl.ok, Bool.and_eq_true, List.all_eq_true, decide_eq_true_eq] at hok
            obtain ⟨⟨⟨⟨o1, o2⟩, o3⟩, o4⟩, o5⟩ := hok
            generalize hes : es0 ++ (es1 ++ es2) = es at P
            generalize hhs : hs0 ++ (hs1 ++ hs2) = hs at P
            obtain ⟨k', q1, q2, q3, q4, ⟨hO, hOw⟩, hH, hfits, hμ', hget', hU⟩ := assemble (nx := T.nx) hk P (nodupB_iff o1) (nodupB_iff hnd) o2 (fun n h => by
              rcases List.mem_append.1 h with h | h
              · obtain ⟨p, hp1, hp2⟩ := List.mem_flatMap.1 h
                rcases List.mem_cons.1 hp2 with e | hp2
                · rw [e]
                  refine o2 _ ?_
                  exact List.mem_append_left _ (List.mem_flatMap.2 ⟨p, hp1, by simp⟩)
                · exact o4 _ (List.mem_append_left _ (List.mem_flatMap.2 ⟨p, hp1, hp2⟩))
              · exact o4 _ (List.mem_append_right _ h)) (fun n e xs src loc hx m hm => by
              have hwhere : (∃ n' cs m', Ent.arr n e xs src loc = .var n' cs m') ∨ n ∈ T.given ∨ AbsE k ρ2 (Ent.arr n e xs src loc) := by
                rw [← hes] at hx
                rcases List.mem_append.1 hx with hx | hx
                · rcases ab0 _ hx with h | h
                  · exact Or.inr (Or.inl (List.mem_append_left _ h))
                  · exact Or.inr (Or.inr (h.mono fun a b hab => P2.grow.le _ _ (P1.grow.le _ _ hab)))
                · rcases List.mem_append.1 hx with hx | hx
                  · refine Or.inr (Or.inl (List.mem_append_right _ (List.mem_append_left _ ?_)))
                    rw [← P1.names]
                    exact List.mem_map.2 ⟨_, hx, rfl⟩
                  · rcases w2 _ hx with h | h
                    · exact Or.inl h
                    · exact Or.inr (Or.inl (List.mem_append_right _ (List.mem_append_right _ h)))
              rcases hwhere with ⟨_, _, _, h⟩ | h | h
              · cases h
              · rw [hgiven n h] at hm; cases hm
              · obtain ⟨g1, g2, g3⟩ := h
                rw [g3] at hm
                have := Option.some.inj hm
                subst this
                exact ⟨g2, g1⟩)
            have hW : WExt k k' := ⟨fun _ _ _ => by rw [q1], fun B hB _ => hOw B hB, by rw [q1]; exact Nat.le_refl _, q4⟩
            have hloc : ∀ x ∈ es, x.name ∈ T.locals ∨ AbsE k ρ0 x := by
              intro x hx
              rw [← hes] at hx
              rcases List.mem_append.1 hx with hx | hx
              · exact (ab0 x hx).imp (fun h => List.mem_append_left _ h) id
              · left
                refine List.mem_append_right _ ?_
                rcases List.mem_append.1 hx with hx | hx
                · refine List.mem_append_left _ ?_
                  rw [← P1.names]
                  exact List.mem_map.2 ⟨x, hx, rfl⟩
                · refine List.mem_append_right _ ?_
                  rw [← P2.names]
                  exact List.mem_map.2 ⟨x, hx, rfl⟩
            have hE : Ext k0 k' := by
              refine ⟨fun B hB hlt => by rw [q1]; exact hR.ext.same B hB hlt, fun B hB hlt => hR.ext.own B (hOw B hB) hlt, by rw [q1]; exact hR.ext.size, fun n hn => by rw [hU]; exact Nat.lt_of_lt_of_le (hlo n hn) o5, fun n e xs' hn hc => ?_, fun n cs' hn hc => ?_, fun n kt vt xs' hn hc => ?_, by rw [q4]; exact hR.ext.x⟩
              · obtain ⟨x, hx, hxn, hb⟩ := hget' n _ hc
                rcases hloc x hx with h3 | h3
                · have h4 := o3 _ h3; have h5 := hlo n hn; omega
                · cases x with
                  | var q cs m => cases hb
                  | map q kt vt xs m => cases hb
                  | arr q e' xs src loc =>
                    have hxn : q = n := hxn
                    subst hxn
                    have hb : Blk.arr e' xs = Blk.arr e xs' := hb
                    simp only [Blk.arr.injEq] at hb
                    obtain ⟨he, hxs⟩ := hb
                    subst he
                    have hxs := eq_of_heq hxs
                    subst hxs
                    obtain ⟨g1, g2, _⟩ := h3
                    obtain ⟨ys, g3, g4, g5⟩ := hR.ext.arr q e' xs hn g1
                    refine ⟨ys, g3, g4, ?_⟩
                    have hm : k'.μ q = loc := hμ' _ hx
                    rw [hm, g2, g5]
              · obtain ⟨x, hx, hxn, hb⟩ := hget' n _ hc
                rcases hloc x hx with h3 | h3
                · have h4 := o3 _ h3; have h5 := hlo n hn; omega
                · have hg := P.good x hx
                  cases x with
                  | arr q e' xs src loc => cases hb
                  | map q kt vt xs m => cases hb
                  | var q cs m =>
                    have hxn : q = n := hxn
                    subst hxn
                    have h3 : m = q := h3
                    subst h3
                    obtain ⟨_, ⟨cs0, g1⟩, _⟩ := hg
                    obtain ⟨ys, g3, g5⟩ := hR.ext.var m cs0 hn g1
                    refine ⟨ys, g3, ?_⟩
                    have hm : k'.μ m = k.μ m := hμ' _ hx
                    rw [hm, g5]
              · obtain ⟨x, hx, hxn, hb⟩ := hget' n _ hc
                rcases hloc x hx with h3 | h3
                · have h4 := o3 _ h3; have h5 := hlo n hn; omega
                · cases x with
                  | var q cs m => cases hb
                  | arr q e' xs src loc => cases hb
                  | map q k2 v2 xs m =>
                    have hxn : q = n := hxn
                    subst hxn
                    have hb : Blk.map k2 v2 xs = Blk.map kt vt xs' := hb
                    simp only [Blk.map.injEq] at hb
                    obtain ⟨he, he2, hxs⟩ := hb
                    subst he; subst he2
                    have hxs := eq_of_heq hxs
                    subst hxs
                    obtain ⟨g1, g2⟩ := h3
                    subst g2
                    obtain ⟨ys, g3, g5⟩ := hR.ext.map _ _ _ xs hn g1
                    refine ⟨ys, g3, ?_⟩
                    have hm : k'.μ m = k.μ m := hμ' _ hx
                    rw [hm, g5]
            refine ⟨k', q1, ⟨⟨q2, q3, hH, ?_, hE, by rw [q1]; exact hR.room, by rw [q1]; exact hR.below, hR.defers.next hW⟩, fun n hn => (by rw [hU] at hn; exact hn)⟩, hW⟩
            refine f1 k' ?_ (hbase k' q1 hW)
            refine hfits.mono P2.grow.le (fun x hx => ?_) (fun c hc => ?_)
            · rw [← hes]; exact List.mem_append_right _ (List.mem_append_left _ hx)
            · rw [← hhs]; exact List.mem_append_right _ (List.mem_append_left _ hc)
          · cases hp
  · cases hp

/-- .. where a block that is met twice reads as pure data from there on. -/
theorem pack_sound {N : Nat} {k0 : Kx} {lo : Nat} {T : Tmpl} {σ : St} {k : Kx} {a : Act} {v : T.ty.den} {base : Fr} (hR : Rel N k0 σ k a) (hlo : ∀ n, k0.U n → n < lo) (hp : T.pack lo σ = some v)
    (hbase : ∀ k' : Kx, k'.w = k.w → WExt k k' → FRel k' base a.tmps) : ∃ k', k'.w = k.w ∧ Rel N k0 (T.unpack base v) k' a ∧ WExt k k' := by
  unfold Tmpl.pack at hp
  obtain ⟨q1, q2, q3, q4, q5, q6⟩ := frzAll_rel (T.dups σ) k σ.fr a.tmps hR.h hR.f
  have hx := frzKs_ext (T.dups σ) k
  have hR' : Rel N k0 { fr := (frzAll σ.fr σ.hp (T.dups σ)).1, hp := (frzAll σ.fr σ.hp (T.dups σ)).2, nx := σ.nx } (frzKs k (T.dups σ)) a :=
    ⟨⟨by rw [q3, hR.hp], q5.trans hR.nx, q1, by rw [← hR.hp]; exact q2, hR.ext.trans hx, by rw [q4]; exact hR.room, by rw [q4]; exact hR.below, hR.defers.next hx.wext⟩, fun n hn => by rw [frzKs_U] at hn; exact hR.u n hn⟩
  obtain ⟨k', g1, g2, g3⟩ := pack0_sound hR' hlo hp fun k' hw hW => hbase k' (hw.trans q4) (hx.wext.trans hW)
  exact ⟨k', g1.trans q4, g2, hx.wext.trans g3⟩

end Go.Ab
