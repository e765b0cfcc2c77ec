/-
  TEMPLATES: a state that is packed and filled again is one that is true as well.
-/
import Derived.Test.YteekijpcdcpjkaaAbOrder
set_option linter.unusedVariables false
set_option linter.unusedSimpArgs false
namespace Go.Ab
open Go.RowKit (Below)

/-! ### the holes' data -/
inductive Its (look : Nat → Option Blk) : List Item → List Cell → Prop
  | nil : Its look [] []
  | one {t : Ty} {c : Cell} {x : t.den} {is : List Item} {ds : List Cell} : t.isAgg = false → cellAs look t c = some x → Its look is ds → Its look ((false, [c]) :: is) (.val t x :: ds)
  | agg {t : Ty} {cs : List Cell} {x : t.den} {is : List Item} {ds : List Cell} : t.isAgg = true → parseAll look t cs = some x → Its look is ds → Its look ((true, cs) :: is) (.pptr t x 0 :: ds)

theorem parse_one {look : Nat → Option Blk} {t : Ty} (ht : t.isAgg = false) {cs : List Cell} {x : t.den} (h : parseAll look t cs = some x) : ∃ c, cs = [c] ∧ cellAs look t c = some x := by
  unfold parseAll at h
  cases hp : parse look t cs with
  | none => rw [hp] at h; cases h
  | some p =>
    obtain ⟨y, r⟩ := p
    rw [hp] at h
    cases r with
    | cons d r => cases h
    | nil =>
      simp only [Option.some.injEq] at h
      subst h
      cases t with
      | unit => simp [Ty.isAgg] at ht
      | pair a b => simp [Ty.isAgg] at ht
      | _ =>
        cases cs with
        | nil => simp [parse] at hp
        | cons c r =>
          simp only [parse, Option.map_eq_some_iff] at hp
          obtain ⟨z, hz, e⟩ := hp
          simp only [Prod.mk.injEq] at e
          obtain ⟨rfl, rfl⟩ := e
          exact ⟨c, rfl, hz⟩

theorem its_of {look : Nat → Option Blk} : ∀ (t : Ty) (is : List Item) (v : t.den), parseItems look t is = some v → Its look is (chain t v) := by
  intro t
  induction t with
  | unit =>
    intro is v h
    cases is with
    | nil => exact Its.nil
    | cons i r => simp [parseItems] at h
  | pair a b _ ihb =>
    intro is v h
    cases is with
    | nil => simp [parseItems] at h
    | cons i r =>
      obtain ⟨g, cs⟩ := i
      simp only [parseItems] at h
      split at h
      · rename_i hg
        cases hx : parseAll look a cs with
        | none => rw [hx] at h; cases h
        | some x =>
          rw [hx] at h
          simp only [Option.map_eq_some_iff] at h
          obtain ⟨y, hy, rfl⟩ := h
          have hr := ihb r y hy
          cases g with
          | true =>
            simp only [chain, hg, if_true]
            exact Its.agg hg hx hr
          | false =>
            simp only [chain, hg]
            obtain ⟨c, rfl, hc⟩ := parse_one hg hx
            exact Its.one hg hc hr
      · cases h
  | _ => intro is v h; simp [parseItems] at h

/-! ### what is filled in -/
inductive Ent where
  | arr (n : Nat) (e : Ty) (xs : List e.den) (src : Option Nat) (loc : Loc)
  | var (n : Nat) (cs : List Cell) (src : Nat)

def Ent.name : Ent → Nat
  | .arr n .. => n
  | .var n .. => n
def Ent.pair : Ent → Nat × Blk
  | .arr n e xs _ _ => (n, .arr e xs)
  | .var n cs _ => (n, .var cs)
def Ent.src : Ent → Option Nat
  | .arr _ _ _ s _ => s
  | .var .. => none
def Ent.loc (k : Kx) : Ent → Loc
  | .arr _ _ _ _ l => l
  | .var _ _ m => k.μ m

def RenLe (ρ ρ' : Ren) : Prop := ∀ n m, renOf ρ n = some m → renOf ρ' n = some m
def RenNew (ρ ρ' : Ren) (ns : List Nat) : Prop := ∀ n m, renOf ρ' n = some m → renOf ρ n = some m ∨ n ∈ ns
/-- names one to one -/
def RenOK (ρ : Ren) : Prop := (ρ.map (·.1)).Nodup ∧ (ρ.map (·.2)).Nodup

theorem renOf_mem : ∀ {ρ : Ren} {n m : Nat}, renOf ρ n = some m → (n, m) ∈ ρ := by
  intro ρ
  induction ρ with
  | nil => intro n m h; simp [renOf] at h
  | cons p r ih =>
    intro n m h
    obtain ⟨a, b⟩ := p
    simp only [renOf] at h
    split at h
    · rename_i e; simp only [Option.some.injEq] at h; subst e; subst h; simp
    · exact List.mem_cons_of_mem _ (ih h)

theorem RenOK.inj {ρ : Ren} (h : RenOK ρ) {n n' m : Nat} (h1 : renOf ρ n = some m) (h2 : renOf ρ n' = some m) : n = n' := by
  have m1 := renOf_mem h1
  have m2 := renOf_mem h2
  have key : ∀ (ρ : Ren), (ρ.map (·.2)).Nodup → (n, m) ∈ ρ → (n', m) ∈ ρ → n = n' := by
    intro ρ
    induction ρ with
    | nil => intro _ h; cases h
    | cons p r ih =>
      intro hn h1 h2
      simp only [List.map_cons, List.nodup_cons] at hn
      rcases List.mem_cons.1 h1 with e1 | e1
      · rcases List.mem_cons.1 h2 with e2 | e2
        · rw [← e2] at e1; exact congrArg Prod.fst e1
        · exact absurd (List.mem_map.2 ⟨_, e2, rfl⟩) (by rw [← e1] at hn; exact hn.1)
      · rcases List.mem_cons.1 h2 with e2 | e2
        · exact absurd (List.mem_map.2 ⟨_, e1, rfl⟩) (by rw [← e2] at hn; exact hn.1)
        · exact ih hn.2 e1 e2
  exact key ρ h.2 m1 m2

theorem bindN_shape : ∀ (ρ ρ' : Ren) (n m : Nat), bindN ρ n m = some ρ' → (ρ' = ρ ∧ renOf ρ n = some m) ∨ (ρ' = ρ ++ [(n, m)] ∧ n ∉ ρ.map (·.1) ∧ m ∉ ρ.map (·.2)) := by
  intro ρ
  induction ρ with
  | nil => intro ρ' n m h; simp only [bindN, Option.some.injEq] at h; exact Or.inr ⟨h.symm, by simp, by simp⟩
  | cons p r ih =>
    intro ρ' n m h
    obtain ⟨a, b⟩ := p
    simp only [bindN] at h
    by_cases ha : a = n
    · rw [if_pos ha] at h
      by_cases hb : b = m
      · rw [if_pos hb] at h
        simp only [Option.some.injEq] at h
        exact Or.inl ⟨h.symm, by simp [renOf, ha, hb]⟩
      · rw [if_neg hb] at h; cases h
    · rw [if_neg ha] at h
      by_cases hb : b = m
      · rw [if_pos hb] at h; cases h
      · rw [if_neg hb] at h
        cases hr : bindN r n m with
        | none => rw [hr] at h; cases h
        | some r' =>
          rw [hr] at h
          simp only [Option.map_some, Option.some.injEq] at h
          subst h
          rcases ih r' n m hr with ⟨e, h1⟩ | ⟨e, h1, h2⟩
          · exact Or.inl ⟨by rw [e], by simp [renOf, ha, h1]⟩
          · exact Or.inr ⟨by rw [e]; rfl, by simp [h1, Ne.symm ha] , by simp [h2, Ne.symm hb]⟩

theorem renOf_append {ρ : Ren} {n m a : Nat} : renOf (ρ ++ [(n, m)]) a = match renOf ρ a with | some b => some b | none => if n = a then some m else none := by
  induction ρ with
  | nil => rfl
  | cons p r ih =>
    obtain ⟨x, y⟩ := p
    simp only [List.cons_append, renOf]
    split
    · rfl
    · exact ih

theorem bindN_spec {ρ ρ' : Ren} {n m : Nat} (h : bindN ρ n m = some ρ') : renOf ρ' n = some m ∧ RenLe ρ ρ' ∧ RenNew ρ ρ' [n] ∧ (RenOK ρ → RenOK ρ') := by
  rcases bindN_shape ρ ρ' n m h with ⟨e, h1⟩ | ⟨e, h1, h2⟩
  · subst e; exact ⟨h1, fun _ _ h => h, fun _ _ h => Or.inl h, id⟩
  · subst e
    have hn : renOf ρ n = none := by
      cases hx : renOf ρ n with
      | none => rfl
      | some b => exact absurd (List.mem_map.2 ⟨_, renOf_mem hx, rfl⟩) h1
    refine ⟨by rw [renOf_append, hn]; simp, fun a b hab => by rw [renOf_append, hab], fun a b hab => ?_, fun hok => ?_⟩
    · rw [renOf_append] at hab
      cases hx : renOf ρ a with
      | some c => rw [hx] at hab; exact Or.inl hab
      | none =>
        rw [hx] at hab
        simp only at hab
        split at hab
        · rename_i e; exact Or.inr (by simp [e])
        · cases hab
    · refine ⟨?_, ?_⟩
      · simp only [List.map_append, List.map_cons, List.map_nil]
        exact List.nodup_append.2 ⟨hok.1, by simp, fun x hx y hy => by simp at hy; subst hy; exact fun e => h1 (by rw [← e]; exact hx)⟩
      · simp only [List.map_append, List.map_cons, List.map_nil]
        exact List.nodup_append.2 ⟨hok.2, by simp, fun x hx y hy => by simp at hy; subst hy; exact fun e => h2 (by rw [← e]; exact hx)⟩

/-- What stands of renamings when more is bound. -/
structure Grows (ρ ρ' : Ren) (ns : List Nat) : Prop where
  le : RenLe ρ ρ'
  new : RenNew ρ ρ' ns
  ok : RenOK ρ → RenOK ρ'

theorem Grows.refl (ρ : Ren) : Grows ρ ρ [] := ⟨fun _ _ h => h, fun _ _ h => Or.inl h, id⟩
theorem Grows.trans {ρ ρ' ρ'' : Ren} {a b : List Nat} (h : Grows ρ ρ' a) (h' : Grows ρ' ρ'' b) : Grows ρ ρ'' (a ++ b) := by
  refine ⟨fun n m hn => h'.le n m (h.le n m hn), fun n m hn => ?_, fun ho => h'.ok (h.ok ho)⟩
  rcases h'.new n m hn with h1 | h1
  · rcases h.new n m h1 with h2 | h2
    · exact Or.inl h2
    · exact Or.inr (List.mem_append_left _ h2)
  · exact Or.inr (List.mem_append_right _ h1)

theorem bindAll_spec : ∀ (ns ms : List (Nat × Nat)) (ρ ρ' : Ren), bindAll ρ ns ms = some ρ' → Grows ρ ρ' (ns.map (·.1)) ∧ ns.length = ms.length ∧ ∀ j (h : j < ns.length) (h' : j < ms.length), renOf ρ' ns[j].1 = some ms[j].1 ∧ ns[j].2 = ms[j].2 := by
  intro ns
  induction ns with
  | nil =>
    intro ms ρ ρ' h
    cases ms with
    | nil => simp only [bindAll, Option.some.injEq] at h; subst h; exact ⟨Grows.refl ρ, rfl, fun j h => absurd h (by simp)⟩
    | cons m r => simp [bindAll] at h
  | cons p r ih =>
    intro ms ρ ρ' h
    cases ms with
    | nil => simp [bindAll] at h
    | cons q ms =>
      obtain ⟨n, o⟩ := p
      obtain ⟨m, o'⟩ := q
      simp only [bindAll] at h
      split at h
      · rename_i ho
        cases hb : bindN ρ n m with
        | none => rw [hb] at h; cases h
        | some ρ1 =>
          rw [hb] at h
          simp only at h
          obtain ⟨h1, h2, h3, h4⟩ := bindN_spec hb
          obtain ⟨g1, g2, g3⟩ := ih ms ρ1 ρ' h
          refine ⟨Grows.trans ⟨h2, h3, h4⟩ g1, by simp [g2], fun j hj hj' => ?_⟩
          cases j with
          | zero => exact ⟨g1.le _ _ h1, ho⟩
          | succ j => simpa using g3 j (by simpa using hj) (by simpa using hj')
      · cases h

end Go.Ab
