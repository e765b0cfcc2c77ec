/-
  slices.Clone OF A BLOCK OF ITS CALLER'S, run in its caller's state: a new block of the same cells; the old one is as it was. The contract is the shelf's.
-/
import Derived.Test.YteekijpcdcpjkaaDoorAbSound
import Derived.Test.YteekijpcdcpjkaaDoorAbCloneFn
import Derived.Shelf.SlicesE.Clone
set_option linter.unusedVariables false
set_option linter.unusedSimpArgs false
namespace Go.Ab
open Go.RowKit (Below)

def cloneQ (e : Ty) (b : Nat) : TFun := { arg := .slice e, res := .slice e, args := [(false, 1)], parts := [(false, 1)], own := [0], f := fun xs => cloneF b xs }

theorem without_none (hp : Hp) : without hp none = hp := rfl

/-- a new block of these elements -/
theorem cloned {N : Nat} {k : Kx} (hk : HRel N k) (hN : N ≤ k.w.heap.size) (hfresh : ¬ k.U k.nx) {e : Ty} {T : TypeId} {xs : List e.den} {us : List Value} {w' : World} {v' : Value} (hz : 0 < e.size)
    (he : ERel k.w k.O e xs us) (ho : w'.ownsRow k.w.heap.size T e.size v' (List.length xs) us) (hb : Below k.w.heap.size k.w w') :
    ∃ k', k'.w = w' ∧ k'.hp = hput k.hp k.nx (.arr e xs) ∧ k'.nx = k.nx + 1 ∧ HRel N k' ∧ Ext k k' ∧ Below N k.w k'.w ∧ ARel k' (.one (.own k.nx e)) v' ∧ ∀ n, k'.U n → k.U n ∨ (k.nx ≤ n ∧ n < k'.nx) := by
  have fin : ∀ l : Loc, NewName N k w' none l → (Ext k (newK k w' none l (.arr e xs)) → BRel (newK k w' none l (.arr e xs)) k.nx (.arr e xs)) → Hdr l e 0 (List.length xs) v' → v'.oneCell' = true →
      ∃ k', k'.w = w' ∧ k'.hp = hput k.hp k.nx (.arr e xs) ∧ k'.nx = k.nx + 1 ∧ HRel N k' ∧ Ext k k' ∧ Below N k.w k'.w ∧ ARel k' (.one (.own k.nx e)) v' ∧ ∀ n, k'.U n → k.U n ∨ (k.nx ≤ n ∧ n < k'.nx) := by
    intro l hn hbr hh h1
    have hx := hn.ext hk hfresh (.arr e xs)
    refine ⟨newK k w' none l (.arr e xs), rfl, rfl, rfl, hn.hrel hk hfresh _ (hbr hx), hx, hb.mono hN, Or.inr ⟨⟨Or.inr rfl, h1⟩, fun xs' hxs => ?_⟩, fun n hn => ?_⟩
    · have : xs' = xs := by
        simp only [newK, hget_hput, if_true, Option.some.injEq, Blk.arr.injEq] at hxs
        exact (eq_of_heq hxs.2).symm
      subst this
      rw [show (newK k w' none l (.arr e xs')).μ k.nx = l from upd_same _ _ _]
      exact hh
    · rcases hn with hn | hn
      · exact Or.inl hn
      · subst hn; exact Or.inr ⟨Nat.le_refl _, Nat.lt_succ_self _⟩
  obtain ⟨hl, h | ⟨g, cap, cur, h1, h2, h3, h4, h5, h6, h7⟩⟩ := ho
  · obtain ⟨h1, h2⟩ := h
    subst h1
    have hx0 : xs = [] := List.eq_nil_of_length_eq_zero h2
    subst hx0
    refine fin .none ⟨hN, hb.size, fun B hB _ => hb.block B hB, fun n h => (by cases h), fun B hB => (by cases hB)⟩ (fun _ => ?_) ⟨none, rfl, rfl, PA.none⟩ rfl
    unfold BRel
    rw [show (newK k w' none Loc.none (.arr e [])).μ k.nx = .none from upd_same _ _ _]
  · subst h1
    have hg : g < w'.heap.size := heap_lt h3
    refine fin (.at_ g 0 cap) ⟨hN, hb.size, fun B hB _ => hb.block B hB, fun n h => (by cases h), fun B hB => ?_⟩ (fun hx => ?_) ⟨_, cap, rfl, h4, by omega, Or.inl (by simp)⟩ rfl
    · simp only [Loc.block, Option.some.injEq] at hB
      subst hB
      exact Or.inl ⟨h2, hg⟩
    · unfold BRel
      rw [show (newK k w' none (.at_ g 0 cap) (.arr e xs)).μ k.nx = .at_ g 0 cap from upd_same _ _ _]
      have hus : part_ cur 0 (List.length xs * e.size) = us := by
        unfold part_
        rw [List.drop_zero]
        exact h7
      have hel := elems_row (hx.e he) hus
      refine ⟨cur, T, (0, 0), h3, unfrozen0 _, h4, by simp only [maxLen] at h5; simp only [MAXL]; omega, by omega, fun i hi => ?_⟩
      exact hel i hi

theorem clone_own {P : Program} {g : FuncId} {e : Ty} {T : TypeId} {b : Nat} (hz : 0 < e.size)
    (c1 : ∀ n c w, Calls P g #[.slice none n c] w fun x w' => x = .returned (.slice none 0 0) ∧ w' = w)
    (c2 : ∀ (blk off n c : Nat) (news : List Value) (w : World), news.length = n * e.size → n ≤ maxLen → n * b ≤ 140737488355328 → (∀ j u, news[j]? = some u → w.cell? ⟨blk, off + j, none⟩ = some u) → (∀ u ∈ news, u.oneCell' = true) →
      Calls P g #[.slice (some ⟨blk, off, none⟩) n c] w fun x w' => ∃ v', x = .returned v' ∧ w'.ownsRow w.heap.size T e.size v' n news ∧ v' ≠ .slice none 0 0 ∧ Below w.heap.size w w')
    {N : Nat} {k : Kx} (hk : HRel N k) (hN : N ≤ k.w.heap.size) (hfresh : ¬ k.U k.nx) {n : Nat} {xs : List e.den} {u : Value} (hbl : hget k.hp n = some (.arr e xs)) (h1 : CRel k (.own n e) u)
    (hroom : List.length xs * b ≤ 140737488355328) :
    Calls P g #[u] k.w fun x w' => ∃ v k', x = .returned v ∧ k'.w = w' ∧ k'.hp = hput k.hp k.nx (.arr e xs) ∧ k'.nx = k.nx + 1 ∧ HRel N k' ∧ Ext k k' ∧ Below N k.w k'.w ∧ ARel k' (.one (.own k.nx e)) v ∧ ∀ n, k'.U n → k.U n ∨ (k.nx ≤ n ∧ n < k'.nx) := by
  have hh := h1.2 xs hbl
  have hbr := hk.blk n _ hbl
  have fin : ∀ (us : List Value) (w' : World) (v' : Value), ERel k.w k.O e xs us → w'.ownsRow k.w.heap.size T e.size v' (List.length xs) us → Below k.w.heap.size k.w w' →
      ∃ u k', v' = u ∧ k'.w = w' ∧ k'.hp = hput k.hp k.nx (.arr e xs) ∧ k'.nx = k.nx + 1 ∧ HRel N k' ∧ Ext k k' ∧ Below N k.w k'.w ∧ ARel k' (.one (.own k.nx e)) u ∧ ∀ n, k'.U n → k.U n ∨ (k.nx ≤ n ∧ n < k'.nx) := by
    intro us w' v' h1 h2 h3
    obtain ⟨k', q⟩ := cloned hk hN hfresh hz h1 h2 h3
    exact ⟨v', k', rfl, q⟩
  have empty : ∀ (a : Option Addr) (c : Nat), PA a → xs = [] → u = .slice a 0 c → Calls P g #[u] k.w fun x w' => ∃ u k', x = .returned u ∧ k'.w = w' ∧ k'.hp = hput k.hp k.nx (.arr e xs) ∧ k'.nx = k.nx + 1 ∧ HRel N k' ∧ Ext k k' ∧ Below N k.w k'.w ∧ ARel k' (.one (.own k.nx e)) u ∧ ∀ n, k'.U n → k.U n ∨ (k.nx ≤ n ∧ n < k'.nx) := by
    intro a c hpa hx0 hu0
    subst hx0; subst hu0
    cases a with
    | none =>
      refine (c1 0 c k.w).mono fun x w' ⟨h5, h6⟩ => ?_
      subst h6
      obtain ⟨u, k', q1, q2⟩ := fin [] k.w (.slice none 0 0) (ERel.nil _ _ _) (World.ownsRow_nil _ _ _ _) (Below.refl _ _)
      subst q1
      exact ⟨_, k', h5, q2⟩
    | some x =>
      obtain ⟨B, o, rfl⟩ := hpa x rfl
      refine (c2 B o 0 c [] k.w (by simp) (by simp) (by simp) (fun j u h => by cases h) (fun u h => by cases h)).mono fun x w' ⟨v', h5, h6, _, h7⟩ => ?_
      obtain ⟨u, k', q1, q2⟩ := fin [] w' v' (ERel.nil _ _ _) h6 h7
      subst q1
      exact ⟨_, k', h5, q2⟩
  unfold BRel at hbr
  cases hm : k.μ n with
  | none =>
    rw [hm] at hh hbr
    obtain ⟨a, h3, h4, h5⟩ := hh
    exact empty a 0 h5 hbr h3
  | at_ B o cap =>
    rw [hm] at hh hbr
    obtain ⟨a, c, h3, h4, h5, h6⟩ := hh
    obtain ⟨row, E, fz, g1, g2, g3, g4, g5, g6⟩ := hbr
    by_cases hx0 : xs = []
    · refine empty a c ?_ hx0 (by rw [h3, hx0]; rfl)
      rcases h6 with h6 | h6
      · rw [h6]; exact PA.some _ _
      · exact h6.2
    · have hpos : 0 < List.length xs := List.length_pos_iff.2 hx0
      have ha : a = some ⟨B, o, none⟩ := by
        rcases h6 with h6 | h6
        · simpa using h6
        · omega
      have hel := row_elems g3 g5 g6 (lo := 0) (len := List.length xs) (by omega)
      simp only [List.drop_zero, List.take_length, Nat.zero_mul, Nat.add_zero] at hel
      have hmul : List.length xs * e.size ≤ cap * e.size := Nat.mul_le_mul_right _ g3
      rw [h3, ha]
      refine (c2 B o (List.length xs) c (part_ row o (List.length xs * e.size)) k.w (part_len (by omega)) (by have : List.length xs ≤ cap := g3; simp only [MAXL] at g4; simp only [maxLen]; omega) hroom (fun j u hj => ?_) (hel.one hz)).mono fun x w' ⟨v', h7, h8, _, h9⟩ => ?_
      · have hjl : j < List.length xs * e.size := by
          have := (List.getElem?_eq_some_iff.1 hj).1
          rw [part_len (by omega)] at this
          exact this
        rw [part_get hjl] at hj
        rw [cell_of_row k.w B (o + j) row E fz g1]
        exact hj
      · obtain ⟨u, k', q1, q2⟩ := fin _ w' v' hel h8 h9
        subst q1
        exact ⟨_, k', h7, q2⟩

theorem cloneQ_calls {P : Program} {g : FuncId} {e : Ty} {T : TypeId} {b : Nat} (hz : 0 < e.size)
    (c1 : ∀ n c w, Calls P g #[.slice none n c] w fun x w' => x = .returned (.slice none 0 0) ∧ w' = w)
    (c2 : ∀ (blk off n c : Nat) (news : List Value) (w : World), news.length = n * e.size → n ≤ maxLen → n * b ≤ 140737488355328 → (∀ j u, news[j]? = some u → w.cell? ⟨blk, off + j, none⟩ = some u) → (∀ u ∈ news, u.oneCell' = true) →
      Calls P g #[.slice (some ⟨blk, off, none⟩) n c] w fun x w' => ∃ v', x = .returned v' ∧ w'.ownsRow w.heap.size T e.size v' n news ∧ v' ≠ .slice none 0 0 ∧ Below w.heap.size w w')
    {N : Nat} {k : Kx} {avs : List AVal} {vs : Array Value} {x r : (Ty.slice e).den} (hk : HRel N k) (hN : N ≤ k.w.heap.size) (hr : ARels k avs vs.toList)
    (hq : (if (avs.all ownArg && decide (avs.map shapeV = [(false, 1)])) = true then parseAll (hget k.hp) (.slice e) (avs.flatMap cellsOf) else none) = some x) (hf : cloneF b (x : List e.den) = some r) (hfresh : ¬ k.U k.nx) :
    Calls P g vs k.w fun e' w' => ∃ v k', e' = .returned v ∧ k'.w = w' ∧ k'.hp = hput k.hp k.nx (.arr e r) ∧ k'.nx = k.nx + 1 ∧ HRel N k' ∧ Ext k k' ∧ Below N k.w k'.w ∧ ARel k' (.one (.own k.nx e)) v ∧ ∀ n, k'.U n → k.U n ∨ (k.nx ≤ n ∧ n < k'.nx) := by
  unfold cloneF at hf
  split at hf
  · rename_i hroom
    have hf := Option.some.inj hf
    subst hf
    rw [roomFor_iff] at hroom
    split at hq
    · rename_i hg
      simp only [Bool.and_eq_true, decide_eq_true_eq] at hg
      obtain ⟨hall, hsh⟩ := hg
      obtain ⟨v, rfl⟩ : ∃ v, avs = [v] := by
        have : avs.map shapeV = [(false, 1)] := hsh
        cases avs with
        | nil => cases this
        | cons v r =>
          cases r with
          | nil => exact ⟨v, rfl⟩
          | cons _ _ => simp at this
      obtain ⟨u, rr, e1, h1, e2⟩ := hr
      have e2 : rr = [] := e2
      subst e2
      have hvs : vs = #[u] := by
        apply Array.ext'
        rw [e1]
      subst hvs
      have hall : ownArg v = true := by simpa using hall
      cases v with
      | one c =>
        cases c with
        | own n e' =>
          have hq : (cellAs (hget k.hp) (.slice e) (.own n e')).map (·, ([] : List Cell)) = some (x, []) := by
            have hq' : parseAll (hget k.hp) (.slice e) [.own n e'] = some x := hq
            unfold parseAll at hq'
            split at hq'
            · rename_i y hy
              simp only [Option.some.injEq] at hq'
              subst hq'
              exact hy
            · cases hq'
          have h1 : CRel k (.own n e') u := by
            rcases h1 with h1 | h1
            · cases h1
            · exact h1
          simp only [cellAs] at hq
          split at hq
          · rename_i hee
            subst hee
            obtain ⟨y, hy, hyx⟩ := Option.map_eq_some_iff.1 hq
            simp only [Prod.mk.injEq, and_true] at hyx
            subst hyx
            have hbl := arrAs_eq hy
            exact clone_own hz c1 c2 hk hN hfresh hbl h1 hroom.1
          · cases hq
        | nilS =>
          have hx0 : x = [] := by
            have hq' : parseAll (hget k.hp) (.slice e) [.nilS] = some x := hq
            simp [parseAll, parse, cellAs] at hq'
            exact hq'
          have h1 : u = .slice none 0 0 := by
            rcases h1 with h1 | h1
            · cases h1
            · exact h1
          subst h1; subst hx0
          refine (c1 0 0 k.w).mono fun y w' ⟨h5, h6⟩ => ?_
          subst h6
          obtain ⟨k', q⟩ := cloned hk hN hfresh hz (ERel.nil _ _ _) (World.ownsRow_nil _ _ T _) (Below.refl _ k.w)
          exact ⟨_, k', h5, q⟩
        | _ => cases hall
      | _ => cases hall
    · cases hq
  · cases hf

theorem cloneQ_sound {P : Program} {g : FuncId} (he : Enters P g) {e : Ty} {T : TypeId} {b : Nat} (hz : 0 < e.size)
    (c1 : ∀ n c w, Calls P g #[.slice none n c] w fun x w' => x = .returned (.slice none 0 0) ∧ w' = w)
    (c2 : ∀ (blk off n c : Nat) (news : List Value) (w : World), news.length = n * e.size → n ≤ maxLen → n * b ≤ 140737488355328 → (∀ j u, news[j]? = some u → w.cell? ⟨blk, off + j, none⟩ = some u) → (∀ u ∈ news, u.oneCell' = true) →
      Calls P g #[.slice (some ⟨blk, off, none⟩) n c] w fun x w' => ∃ v', x = .returned v' ∧ w'.ownsRow w.heap.size T e.size v' n news ∧ v' ≠ .slice none 0 0 ∧ Below w.heap.size w w') : SoundQ P g (cloneQ e b) where
  enters := he
  calls := fun N k avs vs x r hk hN hr hq hf hu => cloneQ_calls hz c1 c2 hk hN hr hq hf (fun h => hu _ h ⟨Nat.le_refl _, Nat.lt_succ_self _⟩)

end Go.Ab
