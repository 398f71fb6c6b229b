/- cmp.Compare at int. -/
import Derived.Test.YtimaealmmjdjkaaLib
import Derived.Test.YtimaealmmjdjkaaRows
import Derived.Handy
namespace Go.Proofs.Ytimaealmmjdjkaa
open Go.RowKit

theorem isNaN_any (a : Int) (w : World) :
    Calls Try.prog 50 #[.int .i64 a] w fun e w' => e = .returned (.bool false) ∧ w = w' := by
  go_enter Try.func50, Try.ntmps50
  go_wp2
  go_ret
  exact ⟨ret_bool (by simp), rfl⟩

def cmpI (a b : Int) : Int := if a < b then -1 else if b < a then 1 else 0

theorem Compare_any (a b : Int) (w : World) :
    Calls Try.prog 38 #[.int .i64 a, .int .i64 b] w fun e w' => e = .returned (.int .i64 (cmpI a b)) ∧ w = w' := by
  go_enter Try.func38, Try.ntmps38
  go_wp2_with (go_at_call 50; refine (isNaN_any _ _).mono ?_; rintro e w' ⟨rfl, rfl⟩)
  all_goals go_ret
  all_goals refine ⟨ret_int ?_, rfl⟩
  all_goals (unfold cmpI; (repeat' split) <;> omega)
end Go.Proofs.Ytimaealmmjdjkaa
