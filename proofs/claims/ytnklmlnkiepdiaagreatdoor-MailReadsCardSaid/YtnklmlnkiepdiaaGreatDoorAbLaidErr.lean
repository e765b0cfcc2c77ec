/-
  WHAT A ROW's LIST OF TABLES GIVES: a variable of an interface type holds an interface value.
-/
import Derived.Test.YtnklmlnkiepdiaaGreatDoorAbAtoi
import Derived.Test.YtnklmlnkiepdiaaGreatDoorAbLaid
set_option linter.unusedVariables false
namespace Go.Ab

theorem iface_of_trod {P : Program} {W : World} {fuel : Nat} {t : TypeId} {cs : List Value} {nm : String} {d : DataW Unit} {p : List MemPlace} {ms : Array (String × TypeId)} (ht : P.underlying t = some (.interface ms))
    (h : DataW.trod (fun _ => ()) P W 0 (fun _ => true) false fuel t cs = some (.iface nm d, p)) : ∃ u v, cs = [.iface u v] := by
  cases fuel with
  | zero => simp [DataW.trod] at h
  | succ fuel =>
    simp only [DataW.trod, ht] at h
    split at h
    all_goals first | (rename_i e; cases e; done) | skip
    all_goals first | (simp at h; done) | skip
    all_goals rename_i e
    all_goals first | exact ⟨_, _, rfl⟩ | simp_all

def ifcT (P : Program) (t : TypeId) : Bool :=
  match P.underlying t with
  | some (.interface _) => true
  | _ => false

theorem errIs_of_mem {P : Program} {W : World} {name : String} {g : Nat} {t : TypeId} {nm : String} {d : DataW Unit}
    (hg : P.globalNamed name = some g) (hty : (P.globals[g]?).map (·.type) = some t) (ht : ifcT P t = true) :
    ∀ (laid : List (String × DataW Unit)) (ps : List MemPlace), DataW.LaidVars P W laid ps → (name, DataW.iface nm d) ∈ laid → ErrCell W g := by
  obtain ⟨ms, ht⟩ : ∃ ms, P.underlying t = some (.interface ms) := by
    unfold ifcT at ht
    split at ht
    · exact ⟨_, by assumption⟩
    · cases ht
  intro laid
  induction laid with
  | nil => intro ps _ h; cases h
  | cons x r ih =>
    intro ps hl hm
    obtain ⟨nm', d'⟩ := x
    obtain ⟨g', t', cs, fuel, p, q, hg', ht', hvar, hd, hr, _⟩ := hl
    rcases List.mem_cons.1 hm with h | h
    · injection h with h1 h2
      subst h1
      subst h2
      obtain rfl := Option.some.inj (hg.symm.trans hg')
      obtain rfl := Option.some.inj (hty.symm.trans ht')
      obtain ⟨u, v, hcs⟩ := iface_of_trod ht hd
      refine ⟨.iface u v, ?_, Or.inr ⟨u, v, rfl⟩⟩
      unfold World.var? at hvar
      rw [hg] at hvar
      simp only [Option.bind_some] at hvar
      unfold World.cell?
      simp only
      split at hvar
      · rename_i cs' E fz hc
        simp only [Option.some.injEq] at hvar
        subst hvar
        rw [hc]
        simp only
        rw [← Array.getElem?_toList, hcs]
        rfl
      · cases hvar
    · exact ih q hr h

end Go.Ab
