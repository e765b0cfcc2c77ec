/-
  WHAT A ROW's LIST OF TABLES GIVES: any table of the list holds its numbers.
-/
import Derived.Lib.LaidTab
set_option linter.unusedVariables false
namespace Go.Ab

theorem tabIs_of_mem {P : Program} {W : World} {name : String} {k : IntKind} {zs : List Int} {g : Nat} {t e : TypeId} {n : Nat}
    (hg : P.globalNamed name = some g) (hty : (P.globals[g]?).map (·.type) = some t) (ht : P.underlying t = some (.array n e)) (he : P.underlying e = some (.int k)) (hce : P.cellsOf e = 1) (hct : P.cellsOf t = n) :
    ∀ (laid : List (String × DataW Unit)) (ps : List MemPlace), DataW.LaidVars P W laid ps → (name, Go.Lib.tabData k zs) ∈ laid → Go.Lib.TabIs P W name k zs := by
  intro laid
  induction laid with
  | nil => intro ps _ h; cases h
  | cons x r ih =>
    intro ps hl hm
    obtain ⟨nm, d⟩ := x
    obtain ⟨g', t', cs, fuel, p, q, hg', ht', hvar, hd, hr, _⟩ := hl
    rcases List.mem_cons.1 hm with h | h
    · injection h with h1 h2
      subst h1
      subst h2
      obtain rfl := Option.some.inj (hg.symm.trans hg')
      obtain rfl := Option.some.inj (hty.symm.trans ht')
      unfold Go.Lib.TabIs
      rw [hvar, ← Go.Lib.cells_of_tab ht he hce hct hd]
    · exact ih q hr h

theorem lo_of_cell {w : World} {g m : Nat} {v : Value} (h : w.cell? ⟨g, m, none⟩ = some v) : g + 1 ≤ w.heap.size := by
  unfold World.cell? at h
  simp only at h
  split at h
  · rename_i cs E fz hc
    exact (Array.getElem?_eq_some_iff.1 hc).1
  · cases h

theorem lo_of_tab {P : Program} {W : World} {name : String} {k : IntKind} {zs : List Int} {g : Nat} (hg : P.globalNamed name = some g) (h : Go.Lib.TabIs P W name k zs) : g + 1 ≤ W.heap.size := by
  unfold Go.Lib.TabIs World.var? at h
  rw [hg] at h
  simp only [Option.bind_some] at h
  split at h
  · rename_i cs E fz hc
    exact (Array.getElem?_eq_some_iff.1 hc).1
  · cases h

end Go.Ab
