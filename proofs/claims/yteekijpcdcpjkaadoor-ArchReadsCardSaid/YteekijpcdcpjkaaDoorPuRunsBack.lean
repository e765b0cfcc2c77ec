/-
  PLAIN: runs are read back alike by arch.Unpack and by the reference's Unran.
-/
import Derived.Test.YteekijpcdcpjkaaDoorPuRepeat
import Derived.Test.YteekijpcdcpjkaaDoorPuRunsPack
set_option linter.unusedVariables false
set_option linter.unusedSimpArgs false
namespace Go.Proofs.YteekijpcdcpjkaaDoor
open Go Go.Ab

/-! ### runs read back -/
/-- pairs of how many and which byte, at most 'many' bytes -/
def unrun (many : Int) : List Int → List Int → List Int × Int
  | n :: c :: r, out => if n = 0 then ([], 3) else if n > many - out.length then ([], 2) else unrun many r (out ++ List.replicate n.toNat c)
  | _, out => (out, 0)

theorem unpack_eq (N : Nat) (b : List Int) (many : Int) (hb : b.length ≤ 1048576) (hN : 1048576 < N) (hby : ∀ x ∈ b, 0 ≤ x ∧ x < 256) (hm : -9223372036854775808 ≤ many ∧ many ≤ 9223372036854775807) :
    arch_Unpack N b many = some (if b.length % 2 = 1 then ([], 3) else unrun many b []) := by
  unfold arch_Unpack
  rw [gate_pos (by decide)]
  have e0 : Int.tmod (b.length : Int) 2 = ((b.length % 2 : Nat) : Int) := by
    rw [Int.tmod_eq_emod_of_nonneg (by omega)]; omega
  simp only [e0]
  by_cases hod : b.length % 2 = 1
  · rw [if_pos (by simp; omega), if_pos hod]
  · rw [if_neg (by simp; omega), if_neg hod]
    refine iter_rule (fun v => ∃ (i : Nat) (out : List Int), v = (out, (i : Int), ()) ∧ i ≤ b.length ∧ i % 2 = 0 ∧ out.length ≤ 255 * i ∧ ((out.length : Int) ≤ many ∨ out = []) ∧ unrun many b [] = unrun many (b.drop i) out)
      (fun v => b.length - v.2.1.toNat) (fun r => r = some (unrun many b [])) ?_ N _ ⟨0, [], rfl, by omega, by omega, by simp, .inr rfl, by simp⟩ (by simp; omega)
    rintro v again ⟨i, out, rfl, hi, hev, ho, hmo, hr⟩ hag
    unfold arch_Unpack.s0
    simp only [decide_eq_true_eq]
    by_cases hlt : i < b.length
    · have hlt1 : i + 1 < b.length := by omega
      rw [if_pos (by omega), gate_pos (inR_of (by omega) (by omega)), getI_get hlt]
      have hbi := hby b[i] (List.getElem_mem _)
      have hbi1 := hby b[i + 1] (List.getElem_mem _)
      rw [drop_get hlt, drop_get hlt1] at hr
      simp only [unrun] at hr
      by_cases hz : b[i] = 0
      · rw [if_pos hz]
        rw [if_pos hz] at hr
        rw [hr]
      · rw [if_neg hz, gate_pos (inR_of (by omega) (by omega)), w64 (by omega) (by omega)]
        rw [if_neg hz] at hr
        have hw : IntKind.wrap .i64 (many - (out.length : Int)) = many - out.length ∨ out = [] := by
          rcases hmo with h | h
          · left; exact w64 (by omega) (by omega)
          · right; exact h
        have hw : IntKind.wrap .i64 (many - (out.length : Int)) = many - out.length := by
          rcases hw with h | h
          · exact h
          · subst h; simp only [List.length_nil]; exact w64 (by omega) (by omega)
        rw [hw]
        by_cases hg : b[i] > many - out.length
        · rw [if_pos hg]
          rw [if_pos hg] at hr
          rw [hr]
        · rw [if_neg hg]
          rw [if_neg hg] at hr
          have e1 : (i : Int) + 1 = ((i + 1 : Nat) : Int) := by omega
          rw [w64 (x := (i : Int) + 1) (by omega) (by omega), gate_pos (inR_of (by omega) (by omega)), gate_pos (inR_of (by omega) (by omega)), e1, getI_get hlt1]
          have e2 : b[i] = ((b[i].toNat : Nat) : Int) := by omega
          have hrep := repeat_eq N b[i + 1] b[i].toNat (by omega) (by omega)
          rw [← e2] at hrep
          rw [bindO_of hrep, gate_pos (room_of (by simp; omega) (by simp; omega)), w64 (by omega) (by omega)]
          refine hag _ ⟨i + 2, out ++ List.replicate b[i].toNat b[i + 1], by simp, by omega, by omega, by simp; omega, .inl (by simp; omega), hr⟩ (by simp; omega)
    · rw [if_neg (by omega)]
      rw [hr, List.drop_eq_nil_of_le (by omega)]
      rfl

theorem unran_inner {R : Type} (N : Nat) (s : R) (k2 : (List Int × Unit) → R) (kr : (Int × Unit) → R) (b out : List Int) (many : Int) (i : Nat) (hb : b.length ≤ 1048576) (hi : i + 1 < b.length) (c : Nat) (hc : c < 256) (ho : out.length ≤ 255 * i) (Q : R → Prop)
    (h0 : (c : Int) > many - out.length → Q (kr (2, ()))) (h1 : ¬ (c : Int) > many - out.length → Q (k2 (out ++ List.replicate c b[i + 1], ()))) (hm : (out.length : Int) ≤ many ∨ 0 < c) (n : Nat) (hn : 255 < n) :
    Q (iter (wrackref2_Unran.s1 N s k2 kr (b, many, (i : Int), (c : Int), ())) s n (out, (0 : Int), ())) := by
  refine iter_rule (fun v => ∃ j : Nat, v = (out ++ List.replicate j b[i + 1], (j : Int), ()) ∧ j ≤ c ∧ (((out.length + j : Nat) : Int) ≤ many ∨ (j = 0 ∧ 0 < c))) (fun v => c - v.2.1.toNat) Q ?_ n _ ⟨0, by simp, by omega, by omega⟩ (by simp; omega)
  rintro v again ⟨j, rfl, hj, hjm⟩ hag
  unfold wrackref2_Unran.s1
  simp only [decide_eq_true_eq, List.length_append, List.length_replicate]
  by_cases hlt : j < c
  · rw [if_pos (by omega)]
    by_cases hl : (((out.length + j : Nat) : Int)) ≥ many
    · rw [if_pos (by simpa using hl)]
      exact h0 (by omega)
    · rw [if_neg (by simpa using hl)]
      have e1 : (i : Int) + 1 = ((i + 1 : Nat) : Int) := by omega
      rw [w64 (x := (i : Int) + 1) (by omega) (by omega), gate_pos (inR_of (by omega) (by omega)), gate_pos (room_of (by simp; omega) (by simp; omega)), e1, getI_get hi, wu8 (by omega) (by omega)]
      refine hag _ ⟨j + 1, ?_, by omega, .inl (by omega)⟩ (by simp; omega)
      simp [List.replicate_succ']
  · rw [if_neg (by omega)]
    have : j = c := by omega
    subst this
    exact h1 (by omega)

theorem unran_eq (N : Nat) (b : List Int) (many : Int) (hb : b.length ≤ 1048576) (hN : 1048576 < N) (hby : ∀ x ∈ b, 0 ≤ x ∧ x < 256) :
    wrackref2_Unran N b many = some (if b.length % 2 = 1 then ([], 3) else unrun many b []) := by
  unfold wrackref2_Unran
  rw [gate_pos (by decide)]
  have e0 : Int.tmod (b.length : Int) 2 = ((b.length % 2 : Nat) : Int) := by
    rw [Int.tmod_eq_emod_of_nonneg (by omega)]; omega
  simp only [e0, decide_eq_true_eq]
  by_cases hod : b.length % 2 = 1
  · rw [if_pos (by omega), if_pos hod]
  · rw [if_neg (by omega), if_neg hod]
    refine iter_rule (fun v => ∃ (i : Nat) (out : List Int), v = (out, (i : Int), ()) ∧ i ≤ b.length ∧ i % 2 = 0 ∧ out.length ≤ 255 * i ∧ unrun many b [] = unrun many (b.drop i) out)
      (fun v => b.length - v.2.1.toNat) (fun r => r = some (unrun many b [])) ?_ N _ ⟨0, [], rfl, by omega, by omega, by simp, by simp⟩ (by simp; omega)
    rintro v again ⟨i, out, rfl, hi, hev, ho, hr⟩ hag
    unfold wrackref2_Unran.s0
    simp only [decide_eq_true_eq]
    by_cases hlt : i < b.length
    · have hlt1 : i + 1 < b.length := by omega
      rw [if_pos (by omega), gate_pos (inR_of (by omega) (by omega)), getI_get hlt]
      have hbi := hby b[i] (List.getElem_mem _)
      rw [drop_get hlt, drop_get hlt1] at hr
      simp only [unrun] at hr
      by_cases hz : b[i] = 0
      · rw [if_pos hz]
        rw [if_pos hz] at hr
        rw [hr]
      · rw [if_neg hz, gate_pos (inR_of (by omega) (by omega))]
        rw [if_neg hz] at hr
        have e2 : b[i] = ((b[i].toNat : Nat) : Int) := by omega
        rw [e2]
        refine unran_inner N none _ _ b out many i hb hlt1 b[i].toNat (by omega) ho (fun r => r = some (unrun many b [])) (fun h => ?_) (fun h => ?_) (.inr (by omega)) N (by omega)
        · rw [if_pos (by omega)] at hr
          simp only
          rw [hr]
        · rw [if_neg (by omega)] at hr
          simp only
          rw [w64 (by omega) (by omega)]
          exact hag _ ⟨i + 2, out ++ List.replicate b[i].toNat b[i + 1], by simp, by omega, by omega, by simp; omega, hr⟩ (by simp; omega)
    · rw [if_neg (by omega)]
      rw [hr, List.drop_eq_nil_of_le (by omega)]
      rfl

theorem unrun_len (many : Int) : ∀ (k : Nat) (b out : List Int), b.length ≤ k → (∀ x ∈ b, 0 ≤ x ∧ x < 256) → (unrun many b out).1.length ≤ out.length + 255 * b.length := by
  intro k
  induction k using Nat.strongRecOn with
  | _ k ih =>
    intro b out hk hby
    match b, hby with
    | [], _ => simp [unrun]
    | [x], _ => simp [unrun]
    | n :: c :: r, hby =>
      simp only [unrun]
      have hn := hby n (by simp)
      split
      · simp
      · split
        · simp
        · have := ih r.length (by simp at hk; omega) r (out ++ List.replicate n.toNat c) (Nat.le_refl _) fun x hx => hby x (by simp [hx])
          simp only [List.length_append, List.length_replicate, List.length_cons] at this ⊢
          omega

end Go.Proofs.YteekijpcdcpjkaaDoor
