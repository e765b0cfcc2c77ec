/-
  CODE: what denC comes to is what the code does.
-/
import Derived.Test.YtnklmlnkiepdiaaGreatDoorAbPack
import Derived.LoopN
set_option linter.unusedVariables false
set_option linter.unusedSectionVars false
set_option linter.unusedSimpArgs false
namespace Go.Ab
variable [Tabs]
open Go.RowKit (Below)

/-! ### frames that hang on no block of the call's own -/
structure SolidFr (keep : List Nat) (fr : Fr) : Prop where
  solid : ∀ i, namesOfV (rdT fr i) = []
  only : ∀ i, i ∉ keep → rdT fr i = .one .undef

theorem cell_later {k k' : Kx} (hW : WExtO k k') {c : Cell} {v : Value} (hn : namesOfCell c = []) (h : CRel k c v) : CRel k' c v := by
  cases c with
  | undef => exact h
  | val t x => exact hW.v h
  | nilS => exact h
  | pptr t x off =>
    obtain ⟨B, o, row, E, fz, e1, hO, hb, hs, hv⟩ := h
    exact ⟨B, o, row, E, fz, e1, fun h' => hO (hW.own B h' (heap_lt hb)), (hW.same B hO (heap_lt hb)).trans hb, hs, hW.v hv⟩
  | fn f caps =>
    obtain ⟨vs, e1, hl, hp⟩ := h
    cases caps with
    | nil => exact ⟨vs, e1, hl, fun j h => absurd h (by simp)⟩
    | cons c r => simp [namesOfCell] at hn
  | clip e xs => obtain ⟨a, e1, hv⟩ := h; exact ⟨a, e1, hW.v hv⟩
  | nq b e xs => exact ⟨hW.v h.1, h.2⟩
  | ifc b => exact h
  | _ => simp [namesOfCell] at hn

theorem cells_later {k k' : Kx} (hW : WExtO k k') {cs : List Cell} {vs : List Value} (hn : cs.flatMap namesOfCell = []) (h : CRels k cs vs) : CRels k' cs vs :=
  h.map fun c hc v hv => cell_later hW (List.flatMap_eq_nil_iff.1 hn c hc) hv

theorem solid_later1 {k k' : Kx} (hW : WExtO k k') {v : AVal} {u : Value} (hn : namesOfV v = []) (h : ARel k v u) : ARel k' v u := by
  cases v with
  | one c => exact h.imp id (cell_later hW hn)
  | pure t x => obtain ⟨ht, vs, e, hv⟩ := h; exact ⟨ht, vs, e, hW.v hv⟩
  | agg cs => obtain ⟨vs, e, hv⟩ := h; exact ⟨vs, e, cells_later hW hn hv⟩
  | tup ps =>
    obtain ⟨vs, e, hv⟩ := h
    refine ⟨vs, e, PRels.map (fun p hp c hc v hv => cell_later hW ?_ hv) hv⟩
    exact List.flatMap_eq_nil_iff.1 (List.flatMap_eq_nil_iff.1 hn p hp) c hc

theorem solid_later {k k' : Kx} {keep : List Nat} {fr : Fr} {tmps tmps' : Array Value} (hS : SolidFr keep fr) (h : FRel k fr tmps) (hW : WExtO k k') (hsz : tmps'.size = tmps.size) (hsame : ∀ i ∈ keep, tmps'.getD i undef = tmps.getD i undef) : FRel k' fr tmps' := by
  refine ⟨by rw [h.1, hsz], fun i => ?_⟩
  by_cases hi : i ∈ keep
  · rw [hsame i hi]
    exact solid_later1 hW (hS.solid i) (h.2 i)
  · rw [hS.only i hi]
    exact Or.inl rfl

theorem undefs_rd (n i : Nat) : rdT (List.replicate n (.one .undef)) i = .one .undef := by
  simp only [rdT, List.getD_eq_getElem?_getD, List.getElem?_replicate]
  split <;> rfl

theorem undefs_rel (k : Kx) (tmps : Array Value) : FRel k (List.replicate tmps.size (.one .undef)) tmps := ⟨by simp, fun i => by rw [undefs_rd]; exact Or.inl rfl⟩

theorem solidV_ok {k : Kx} {v : AVal} {u : Value} (h : ARel k v u) : ARel k (solidV v) u ∧ namesOfV (solidV v) = [] := by
  cases v with
  | one c =>
    cases c with
    | val t x => exact ⟨h, rfl⟩
    | pptr t x off => exact ⟨h, rfl⟩
    | fn f caps =>
      cases caps with
      | nil => exact ⟨h, rfl⟩
      | cons c r => exact ⟨Or.inl rfl, rfl⟩
    | _ => exact ⟨Or.inl rfl, rfl⟩
  | pure t x => exact ⟨h, rfl⟩
  | _ => exact ⟨Or.inl rfl, rfl⟩

theorem keepFr_ok {k : Kx} {fr : Fr} {tmps : Array Value} (h : FRel k fr tmps) (keep : List Nat) : FRel k (keepFr keep fr) tmps ∧ SolidFr keep (keepFr keep fr) := by
  have key : ∀ (ks : List Nat) (b : Fr), FRel k b tmps → SolidFr keep b → (∀ i ∈ ks, i ∈ keep) → FRel k (baseOf fr ks b) tmps ∧ SolidFr keep (baseOf fr ks b) := by
    intro ks
    induction ks with
    | nil => intro b h1 h2 _; exact ⟨h1, h2⟩
    | cons i r ih =>
      intro b h1 h2 h3
      obtain ⟨g1, g2⟩ := solidV_ok (h.2 i)
      refine ih (b.set i (solidV (rdT fr i))) (h1.set g1) ⟨fun j => ?_, fun j hj => ?_⟩ (fun j hj => h3 j (by simp [hj]))
      · simp only [rdT, List.getD_eq_getElem?_getD, List.getElem?_set]
        by_cases he : i = j
        · subst he
          rw [if_pos rfl]
          split
          · exact g2
          · rfl
        · rw [if_neg he]
          have := h2.solid j
          simpa [rdT, List.getD_eq_getElem?_getD] using this
      · rw [rdT_set (fun e => hj (by rw [e]; exact h3 i (by simp)))]
        exact h2.only j hj
  unfold keepFr
  have hl : fr.length = tmps.size := h.1
  rw [hl]
  exact key keep _ (undefs_rel k tmps) ⟨fun i => by rw [undefs_rd]; rfl, fun i _ => undefs_rd _ i⟩ (fun _ h => h)

/-! ### the kept slots of a loop -/
def plainCells (ds : List Cell) : Prop := ∀ d ∈ ds, namesOfCell d = []

theorem chain_plain : ∀ (t : Ty) (v : t.den), plainCells (chain t v) := by
  intro t
  induction t with
  | pair a b _ ihb =>
    intro v d hd
    simp only [chain] at hd
    rcases List.mem_cons.1 hd with h | h
    · subst h; split <;> rfl
    · exact ihb _ d h
  | _ => intro v d hd; simp [chain] at hd

theorem fillC_plain {t : TC} {ds : List Cell} (ho : t.owns = []) (hr : t.refs = []) (h : plainCells ds) : namesOfCell (fillC t ds).1 = [] ∧ plainCells (fillC t ds).2.2 := by
  cases t with
  | hole =>
    cases ds with
    | nil => exact ⟨rfl, h⟩
    | cons d r => exact ⟨h d (by simp), fun x hx => h x (List.mem_cons_of_mem _ hx)⟩
  | own n => simp [TC.owns] at ho
  | ptr n off => simp [TC.refs] at hr
  | self n t => simp [TC.refs] at hr
  | ref n e => simp [TC.refs] at hr
  | cut n e => simp [TC.refs] at hr
  | fn f caps =>
    simp only [TC.refs] at hr
    refine ⟨?_, h⟩
    simp only [fillC, namesOfCell]; exact hr
  | nil => exact ⟨rfl, h⟩
  | any => exact ⟨rfl, h⟩

theorem fillCs_plain : ∀ (ts : List TC) (ds : List Cell), (∀ t ∈ ts, t.owns = [] ∧ t.refs = []) → plainCells ds → (fillCs ts ds).1.flatMap namesOfCell = [] ∧ plainCells (fillCs ts ds).2.2 := by
  intro ts
  induction ts with
  | nil => intro ds _ h; exact ⟨rfl, h⟩
  | cons t ts ih =>
    intro ds ht h
    obtain ⟨h1, h2⟩ := fillC_plain (ht t (by simp)).1 (ht t (by simp)).2 h
    obtain ⟨h3, h4⟩ := ih _ (fun t' h' => ht t' (by simp [h'])) h2
    simp only [fillCs]
    exact ⟨by rw [List.flatMap_cons, h1, h3]; rfl, h4⟩

theorem fillV_plain {t : TV} {ds : List Cell} (ht : ∀ c ∈ t.cells, c.owns = [] ∧ c.refs = []) (h : plainCells ds) : namesOfV (fillV t ds).1 = [] ∧ plainCells (fillV t ds).2.2 := by
  cases t with
  | one c => exact fillC_plain (ht c (by simp [TV.cells])).1 (ht c (by simp [TV.cells])).2 h
  | agg cs => exact fillCs_plain cs ds (fun c hc => ht c hc) h
  | pure =>
    cases ds with
    | nil => exact ⟨rfl, h⟩
    | cons d r =>
      cases d with
      | pptr ty x off => exact ⟨rfl, fun y hy => h y (List.mem_cons_of_mem _ hy)⟩
      | _ => exact ⟨rfl, h⟩

theorem fillFr_solid {keep : List Nat} : ∀ (ts : List (Nat × TV)) (b : Fr) (ds : List Cell), (∀ p ∈ ts, p.1 ∈ keep ∧ ∀ c ∈ p.2.cells, c.owns = [] ∧ c.refs = []) → plainCells ds → SolidFr keep b → SolidFr keep (fillFr b ts ds).1 := by
  intro ts
  induction ts with
  | nil => intro b ds _ _ h; exact h
  | cons p ts ih =>
    intro b ds hp h hS
    obtain ⟨i, t⟩ := p
    obtain ⟨h1, h2⟩ := fillV_plain (t := t) (hp (i, t) (by simp)).2 h
    simp only [fillFr]
    refine ih _ _ (fun q hq => hp q (by simp [hq])) h2 ⟨fun j => ?_, fun j hj => ?_⟩
    · simp only [rdT, List.getD_eq_getElem?_getD, List.getElem?_set]
      by_cases he : i = j
      · subst he
        rw [if_pos rfl]
        split
        · exact h1
        · rfl
      · rw [if_neg he]
        have := hS.solid j
        simpa [rdT, List.getD_eq_getElem?_getD] using this
    · rw [rdT_set (fun e => hj (by rw [e]; exact (hp (i, t) (by simp)).1))]
      exact hS.only j hj

theorem packK_ok {N : Nat} {k0 : Kx} {T : Tmpl} {σ : St} {k : Kx} {a : Act} {c : T.ty.den} (hR : Rel N k0 σ k a) (h : T.packK σ = some c) : FRel k (T.base c) a.tmps ∧ SolidFr T.slots (T.base c) := by
  unfold Tmpl.packK at h
  cases h1 : collFr σ.fr [] T.live with
  | none => rw [h1] at h; cases h
  | some p =>
    obtain ⟨ρ, l⟩ := p
    rw [h1] at h
    simp only at h
    split at h
    · rename_i hg
      simp only [Bool.and_eq_true, decide_eq_true_eq, List.isEmpty_iff] at hg
      obtain ⟨⟨hlen, hnm⟩, hts⟩ := hg
      rw [← hR.hp] at h
      have hits := its_of T.ty l c h
      have hcells : ∀ p ∈ T.live, p.1 ∈ T.slots ∧ ∀ t ∈ p.2.cells, t.owns = [] ∧ t.refs = [] := by
        intro p hp
        refine ⟨List.mem_map.2 ⟨p, hp, rfl⟩, fun t ht => ?_⟩
        have := List.flatMap_eq_nil_iff.1 (List.flatMap_eq_nil_iff.1 hts p hp) t ht
        exact List.append_eq_nil_iff.1 this
      obtain ⟨es, hs, P, _, f1⟩ := fillFr_ok hR.h hR.f T.live (List.replicate T.len (.one .undef)) [] ρ l [] (chain T.ty c) h1 (by simpa using hits)
      have hlen' : T.len = a.tmps.size := by rw [hlen]; exact hR.f.1
      refine ⟨?_, fillFr_solid T.live _ _ hcells (chain_plain T.ty c) ⟨fun i => by rw [undefs_rd]; rfl, fun i _ => undefs_rd _ i⟩⟩
      have hes : es = [] := by
        have hn : es.map Ent.name = [] := by
          rw [P.names]
          exact List.flatMap_eq_nil_iff.2 fun p hp => List.flatMap_eq_nil_iff.2 fun t ht => ((hcells p hp).2 t ht).1
        cases es with
        | nil => rfl
        | cons x r => simp at hn
      have hren : ∀ n m, renOf ρ n = some m → False := by
        intro n m hn
        rcases P.grow.new n m hn with h | h
        · simp [renOf] at h
        · 
          obtain ⟨p, hp, h⟩ := List.mem_flatMap.1 h
          obtain ⟨t, ht, h⟩ := List.mem_flatMap.1 h
          rw [((hcells p hp).2 t ht).2] at h
          cases h
      refine f1 k ⟨rfl, fun B h => h, fun x hx => (by rw [hes] at hx; cases hx), fun n m hn => (hren n m hn).elim, fun n m hn => (hren n m hn).elim, fun x hx n hn => ?_⟩ (by rw [hlen']; exact undefs_rel k a.tmps)
      · exfalso
        -- no cell names a block
        have h0 : ownItems l = [] := by
          unfold ownItems
          refine List.flatMap_eq_nil_iff.2 fun i hi => List.flatMap_eq_nil_iff.2 fun c hc => ?_
          have := List.flatMap_eq_nil_iff.1 (List.flatMap_eq_nil_iff.1 hnm i hi) c hc
          cases ho : ownOf c with
          | nil => rfl
          | cons q r =>
            have : q ∈ namesOfCell c := ownOf_names (by rw [ho]; simp)
            rw [List.flatMap_eq_nil_iff.1 (List.flatMap_eq_nil_iff.1 hnm i hi) c hc] at this
            cases this
        have := P.own
        rw [h0] at this
        have := this.nil_eq
        have h2 := (List.append_eq_nil_iff.1 this.symm).2
        rw [List.flatMap_eq_nil_iff.1 h2 x hx] at hn
        cases hn
    · cases h

end Go.Ab
