/- Read: the reference's. -/
import Derived.Test.YtgbkhmoplocmkaaDskE
namespace Go.Proofs.Ytgbkhmoplocmkaa
open Go.RowKit Go.Shelf
set_option linter.unusedSimpArgs false
set_option linter.unusedVariables false
set_option maxRecDepth 20000

theorem lastW_append (x : Int) (a b : List (Int × List Int)) : lastW x (a ++ b) = match lastW x b with | some v => some v | none => lastW x a := by
  induction a with
  | nil => simp [lastW]; cases lastW x b <;> rfl
  | cons p l ih =>
    simp only [List.cons_append, lastW, ih]
    cases lastW x b <;> rfl
theorem lastW_snoc {x : Int} {xs : List (Int × List Int)} {k : Nat} {p : Int × List Int} (h : xs[k]? = some p) : lastW x (xs.take (k + 1)) = if p.1 = x then some p.2 else lastW x (xs.take k) := by
  rw [List.take_add_one, h, Option.toList_some, lastW_append]
  simp only [lastW]
  by_cases e : p.1 = x <;> simp [e]
theorem readD_no {d : Dk} {x : Int} (h : runsD d = false ∨ hasD d x = false) : readD d x = ([], 450) := by
  unfold readD
  rcases h with h | h <;> simp [h]
theorem readD_yes {d : Dk} {x : Int} (h : runsD d = true) (h2 : hasD d x = true) : readD d x = (sectorD d x, 0) := by simp [readD, h, h2]

end Go.Proofs.Ytgbkhmoplocmkaa
