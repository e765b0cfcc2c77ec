/-
  FUNCTIONS: what is handed back; the theorems.
-/
import Derived.Test.YteekijpcdcpjkaaAbFun
set_option linter.unusedVariables false
set_option linter.unusedSimpArgs false
namespace Go.Ab
open Go.RowKit (Below)

/-- the template of what is handed back -/
def tcsOf (own : List Nat) : Nat → Nat → List Cell → List TC
  | _, _, [] => []
  | k, nx, c :: r =>
    if own.contains k then
      match c with
      | .val (.slice e) xs => .own nx :: tcsOf own (k + 1) (nx + 1) r
      | c => .hole :: tcsOf own (k + 1) nx r
    else .hole :: tcsOf own (k + 1) nx r

def putsOf (hp : Hp) : List HAct := hp.map fun p => .put p.1 p.2

theorem ownize_fill : ∀ (own : List Nat) (cs : List Cell) (k nx : Nat), (fillCs (tcsOf own k nx cs) cs).1 = (ownize own k nx cs).1 ∧ putsOf (fillCs (tcsOf own k nx cs) cs).2.1 = (ownize own k nx cs).2.1 ∧
    (tcsOf own k nx cs).flatMap TC.owns = List.range' nx (ownize own k nx cs).2.2 ∧ (tcsOf own k nx cs).flatMap TC.refs = [] := by
  intro own cs
  induction cs with
  | nil => intro k nx; exact ⟨rfl, rfl, rfl, rfl⟩
  | cons c r ih =>
    intro k nx
    have plain : (fillCs (.hole :: tcsOf own (k + 1) nx r) (c :: r)).1 = c :: (ownize own (k + 1) nx r).1 ∧ putsOf (fillCs (.hole :: tcsOf own (k + 1) nx r) (c :: r)).2.1 = (ownize own (k + 1) nx r).2.1 ∧
        (TC.hole :: tcsOf own (k + 1) nx r).flatMap TC.owns = List.range' nx (ownize own (k + 1) nx r).2.2 ∧ (TC.hole :: tcsOf own (k + 1) nx r).flatMap TC.refs = [] := by
      obtain ⟨h1, h2, h3, h4⟩ := ih (k + 1) nx
      refine ⟨?_, ?_, ?_, ?_⟩
      · simp only [fillCs, fillC, h1]
      · simp only [fillCs, fillC, List.nil_append, h2]
      · simp only [List.flatMap_cons, TC.owns, List.nil_append, h3]
      · simp only [List.flatMap_cons, TC.refs, List.nil_append, h4]
    simp only [tcsOf, ownize]
    split
    · cases c with
      | val t x =>
       cases t with
       | slice e =>
        obtain ⟨h1, h2, h3, h4⟩ := ih (k + 1) (nx + 1)
        refine ⟨?_, ?_, ?_, ?_⟩
        · simp only [fillCs, fillC, h1]
        · simp only [fillCs, fillC, putsOf, List.map_append, List.map_cons, List.map_nil] at h2 ⊢
          rw [h2]; rfl
        · simp only [List.flatMap_cons, TC.owns, h3, List.range'_succ]; rfl
        · simp only [List.flatMap_cons, TC.refs, List.nil_append, h4]
       | _ => exact plain
      | _ => exact plain
    · exact plain

theorem acts_puts : ∀ (l hp : Hp), ((hp ++ l).map (·.1)).Nodup → acts hp (putsOf l) = hp ++ l := by
  intro l
  induction l with
  | nil => intro hp _; simp [putsOf, acts]
  | cons p r ih =>
    intro hp h
    obtain ⟨n, b⟩ := p
    have hput' : hput hp n b = hp ++ [(n, b)] := by
      have key : ∀ (hp : Hp), n ∉ hp.map (·.1) → hput hp n b = hp ++ [(n, b)] := by
        intro hp
        induction hp with
        | nil => intro _; rfl
        | cons q t iht =>
          intro hn
          obtain ⟨m, c⟩ := q
          simp only [List.map_cons, List.mem_cons, not_or] at hn
          simp only [hput, if_neg (Ne.symm hn.1), iht hn.2]
          rfl
      refine key hp fun hm => ?_
      simp only [List.map_append, List.map_cons] at h
      exact (List.nodup_append.1 h).2.2 n hm n (by simp) rfl
    show acts (hput hp n b) (putsOf r) = _
    rw [hput', ih _ (by simpa using h)]
    simp

theorem parse_its {look : Nat → Option Blk} : ∀ (t : Ty) (cs rest : List Cell) (x : t.den), parse look t cs = some (x, rest) → ∃ cs1, cs = cs1 ++ rest ∧ ∀ is ds, Its look is ds → Its look (cs1.map (fun c => (false, [c])) ++ is) (flat t x ++ ds) := by
  intro t
  induction t with
  | unit =>
    intro cs rest x h
    simp only [parse, Option.some.injEq, Prod.mk.injEq] at h
    exact ⟨[], h.2, fun is ds h => h⟩
  | pair a b iha ihb =>
    intro cs rest x h
    simp only [parse] at h
    cases h1 : parse look a cs with
    | none => rw [h1] at h; cases h
    | some p =>
      obtain ⟨y, r1⟩ := p
      rw [h1] at h
      simp only at h
      cases h2 : parse look b r1 with
      | none => rw [h2] at h; cases h
      | some q =>
        obtain ⟨z, r2⟩ := q
        rw [h2] at h
        simp only [Option.some.injEq, Prod.mk.injEq] at h
        obtain ⟨rfl, rfl⟩ := h
        obtain ⟨c1, e1, f1⟩ := iha _ _ _ h1
        obtain ⟨c2, e2, f2⟩ := ihb _ _ _ h2
        refine ⟨c1 ++ c2, by rw [e1, e2, List.append_assoc], fun is ds hi => ?_⟩
        rw [List.map_append, List.append_assoc]
        simp only [flat, List.append_assoc]
        exact f1 _ _ (f2 _ _ hi)
  | int k =>
    intro cs rest x h
    cases cs with
    | nil => simp [parse] at h
    | cons c r =>
      simp only [parse, Option.map_eq_some_iff, Prod.mk.injEq] at h
      obtain ⟨y, hy, rfl, rfl⟩ := h
      exact ⟨[c], rfl, fun is ds hi => Its.one rfl hy hi⟩
  | bool =>
    intro cs rest x h
    cases cs with
    | nil => simp [parse] at h
    | cons c r =>
      simp only [parse, Option.map_eq_some_iff, Prod.mk.injEq] at h
      obtain ⟨y, hy, rfl, rfl⟩ := h
      exact ⟨[c], rfl, fun is ds hi => Its.one rfl hy hi⟩
  | str =>
    intro cs rest x h
    cases cs with
    | nil => simp [parse] at h
    | cons c r =>
      simp only [parse, Option.map_eq_some_iff, Prod.mk.injEq] at h
      obtain ⟨y, hy, rfl, rfl⟩ := h
      exact ⟨[c], rfl, fun is ds hi => Its.one rfl hy hi⟩
  | slice e _ =>
    intro cs rest x h
    cases cs with
    | nil => simp [parse] at h
    | cons c r =>
      simp only [parse, Option.map_eq_some_iff, Prod.mk.injEq] at h
      obtain ⟨y, hy, rfl, rfl⟩ := h
      exact ⟨[c], rfl, fun is ds hi => Its.one rfl hy hi⟩

theorem coll_tcs {own : List Nat} : ∀ (cs fs : List Cell) (k nx : Nat), ownOK own k cs = true → cs.length = fs.length → collCs [] (tcsOf own k nx fs) cs = some ([], cs.map fun c => (false, [c])) := by
  intro cs
  induction cs with
  | nil =>
    intro fs k nx _ hl
    cases fs with
    | nil => rfl
    | cons f r => simp at hl
  | cons c cs ih =>
    intro fs k nx ho hl
    cases fs with
    | nil => simp at hl
    | cons f fs =>
      simp only [ownOK, Bool.and_eq_true] at ho
      obtain ⟨h1, h2⟩ := ho
      have hl' : cs.length = fs.length := by simpa using hl
      have plain : ∀ nx, collCs [] (.hole :: tcsOf own (k + 1) nx fs) (c :: cs) = some ([], (c :: cs).map fun c => (false, [c])) := by
        intro nx
        simp only [collCs, collC, ih fs (k + 1) nx h2 hl']
        rfl
      simp only [tcsOf]
      split
      · rename_i hc
        rw [if_pos hc] at h1
        split
        · rename_i e xs
          have : collC [] (.own nx) c = some ([], [(false, [c])]) := by
            cases c <;> first | rfl | (simp at h1)
          simp only [collCs, this, ih fs (k + 1) (nx + 1) h2 hl']
          rfl
        · exact plain nx
      · exact plain nx

end Go.Ab
