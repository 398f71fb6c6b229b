/- New, Check, and their references. -/
import Derived.Test.YtgimpbcdgfkdmaaRatA
namespace Go.Proofs.Ytgimpbcdgfkdmaa
open Go.RowKit
set_option linter.unusedSimpArgs false
set_option linter.unusedVariables false

/-- the parts of a fraction's making: the greatest common divisor, both quotients -/
theorem parts (num den : Int) (h1 : I64 num) (h2 : I64 den) (hd : den ≠ 0) :
    ∃ G N D : Nat, G = Nat.gcd num.natAbs den.natAbs ∧ 0 < G ∧ N = num.natAbs / G ∧ D = den.natAbs / G ∧ (num.natAbs : Int) / (G : Int) = N ∧ (den.natAbs : Int) / (G : Int) = D ∧ N ≤ 9223372036854775808 ∧ D ≤ 9223372036854775808 := by
  refine ⟨_, _, _, rfl, Nat.gcd_pos_of_pos_right _ (by omega), rfl, rfl, by simp, by simp, ?_, ?_⟩
  · exact Nat.le_trans (Nat.div_le_self _ _) (abs_le h1)
  · exact Nat.le_trans (Nat.div_le_self _ _) (abs_le h2)

theorem cell_set_if (w : World) (a b : Addr) (v : Value) (h : (w.cell? a).isSome = true) : (w.setCell a v).cell? b = if b = a then some v else w.cell? b := by
  by_cases e : b = a
  · subst e; rw [if_pos rfl]; exact World.cell?_setCell_same' _ _ _ h
  · rw [if_neg e]; first | exact World.cell?_setCell_other _ _ _ _ e | exact World.cell?_setCell_other _ _ _ _ (Ne.symm e)
theorem setA {W : World} {b : Nat} {x0 x1 : Value} (h : W.cell? ⟨b, 0, none⟩ = some x0 ∧ W.cell? ⟨b, 1, none⟩ = some x1) (v : Value) : (W.setCell ⟨b, 0, none⟩ v).cell? ⟨b, 0, none⟩ = some v ∧ (W.setCell ⟨b, 0, none⟩ v).cell? ⟨b, 1, none⟩ = some x1 := by
  have e : (W.cell? ⟨b, 0, none⟩).isSome = true := by rw [h.1]; rfl
  refine ⟨by rw [cell_set_if _ _ _ _ e, if_pos rfl], ?_⟩
  rw [cell_set_if _ _ _ _ e, if_neg (by simp)]
  exact h.2
theorem setB {W : World} {b : Nat} {x0 x1 : Value} (h : W.cell? ⟨b, 0, none⟩ = some x0 ∧ W.cell? ⟨b, 1, none⟩ = some x1) (v : Value) : (W.setCell ⟨b, 1, none⟩ v).cell? ⟨b, 0, none⟩ = some x0 ∧ (W.setCell ⟨b, 1, none⟩ v).cell? ⟨b, 1, none⟩ = some v := by
  have e : (W.cell? ⟨b, 1, none⟩).isSome = true := by rw [h.2]; rfl
  refine ⟨?_, by rw [cell_set_if _ _ _ _ e, if_pos rfl]⟩
  rw [cell_set_if _ _ _ _ e, if_neg (by simp)]
  exact h.1
theorem wrap_u64 {n : Nat} (h : n ≤ 9223372036854775808) : IntKind.u64.wrap (n : Int) = n := by
  simp only [IntKind.wrap, IntKind.bits, IntKind.signed, Bool.false_eq_true, Bool.false_and, if_false, Int.reducePow]
  omega
theorem newP_zero (num : Int) : newP num 0 = (⟨0, 0⟩, 1) := by simp [newP]
theorem newP_parts {num den : Int} {G N D : Nat} (hd : den ≠ 0) (hG : G = Nat.gcd num.natAbs den.natAbs) (hN : N = num.natAbs / G) (hD : D = den.natAbs / G) :
    newP num den = if 1073741824 < N ∨ 1073741824 < D then (⟨0, 0⟩, 2) else (⟨if decide (num < 0) = decide (den < 0) then (N : Int) else -(N : Int), (D : Int)⟩, 0) := by
  subst hG hN hD
  simp only [newP, hd, if_false]

end Go.Proofs.Ytgimpbcdgfkdmaa
