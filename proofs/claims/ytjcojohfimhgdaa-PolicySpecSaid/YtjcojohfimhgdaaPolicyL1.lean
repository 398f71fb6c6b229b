/- PolicySpec and PolicyUntilSpec, walked: program and reference compute one and the same. -/
import Derived.Test.YtjcojohfimhgdaaPolicyT
namespace Go.Proofs.Ytjcojohfimhgdaa
open Go.RowKit

set_option maxHeartbeats 1000000 in
theorem PolicySpec_any {w : World} (xs : List Cl) (A : Option Addr) (c : Nat) (hx0 : Reads w w.heap.size A 4 Cl.enc xs) (hq : ∀ y ∈ xs, y.ok) (hm : xs.length ≤ maxLen)
    (kind : Int) (wk : (Lit.int .i64 kind).wf = true) (b : Int) (wb : (Lit.int .i64 b).wf = true) (a : Int) (wa : (Lit.int .i64 a).wf = true) (term : Int) (wt : (Lit.int .i64 term).wf = true) (now : Int) (wn : (Lit.int .i64 now).wf = true) :
    Calls Try.prog 3 #[.slice A xs.length c, .int .i64 kind, .int .i64 b, .int .i64 a, .int .i64 term, .int .i64 now] w fun e w' => e = .returned (.bool true) ∧ Below w.heap.size w w' := by
  unfold maxLen at hm
  clear hq wk wb wa wt wn
  have HX := Lib.hid hx0
  clear hx0
  go_enter Try.func3, Try.ntmps3
  go_wp2_with fail
  refine (sane_any _).mono ?_
  rintro e w1 ⟨rfl, hb1⟩
  go_wp2_with fail
  refine (few_any xs A c _).mono ?_
  rintro e w1' ⟨rfl, rfl⟩
  by_cases h30 : xs.length ≤ 30
  · have hd : decide (xs.length ≤ 30) = true := by simpa using h30
    rw [hd]
    clear hd
    go_wp2_with fail
    refine (Action_any xs A c kind b a term now _ ((HX.out.below hb1).more hb1.size) hm).mono ?_
    rintro e w2 ⟨rfl, hb2⟩
    have G2 := hb1.trans (hb2.mono hb1.size)
    go_wp2_with fail
    refine (RAction_any xs A c kind b a term now _ ((HX.out.below G2).more G2.size) hm).mono ?_
    rintro e w3 ⟨rfl, hb3⟩
    have G3 := G2.trans (hb3.mono G2.size)
    go_wp2_with fail
    refine (Check_any xs A c _ ((HX.out.below G3).more G3.size) hm).mono ?_
    rintro e w4 ⟨rfl, hb4⟩
    have G4 := G3.trans (hb4.mono G3.size)
    go_wp2_with fail
    refine (RCheck_any xs A c _ ((HX.out.below G4).more G4.size) hm).mono ?_
    rintro e w5 ⟨rfl, hb5⟩
    have G5 := G4.trans (hb5.mono G4.size)
    go_wp2_with fail
    go_ret
    exact ⟨ret_bool (by simp), G5⟩
  · have hd : decide (xs.length ≤ 30) = false := by simpa using h30
    rw [hd]
    clear hd
    go_wp2_with fail
    go_ret
    exact ⟨rfl, hb1⟩
end Go.Proofs.Ytjcojohfimhgdaa
