/- Restart told to the cell; a law's steps that come again. -/
import Derived.Test.YtebbmplbpgilaaaDskS
import Derived.Test.YtebbmplbpgilaaaDskT
import Derived.Test.YtebbmplbpgilaaaOpen
namespace Go.Proofs.Ytebbmplbpgilaaa
open Go.RowKit Go.Shelf
set_option linter.unusedSimpArgs false
set_option linter.unusedVariables false

set_option maxRecDepth 100000 in
theorem Restart_cell {P : Nat → Prop} (d : Dk) (sv pv : Sl) (w : World) (h : Di w P sv pv d) :
    Calls Try.prog 17 #[dkV sv pv d] w fun e w' => e = .returned (dkV sv ⟨none, 0, 0⟩ (restartD d)) ∧ Below w.heap.size w w' := by
  obtain ⟨A, n, c⟩ := sv
  obtain ⟨D, m, c2⟩ := pv
  unfold dkV restartD
  simp only
  go_enter Try.func17, Try.ntmps17
  go_wp2_with fail
  exact bodyPost_ret (v := .agg #[.slice A n c, .slice none 0 0, .int .i64 (-1), .bool false]) (by simp [results, Try.results17, go_sem]) rfl ⟨rfl, ((Below.refl _ _).alloc (Nat.le_refl _) _).alloc (by simp) _⟩
set_option maxRecDepth 100000 in
theorem RRestart_cell {P : Nat → Prop} (d : Dk) (sv pv : Sl) (w : World) (h : Di w P sv pv d) :
    Calls Try.prog 18 #[dkV sv pv d] w fun e w' => e = .returned (dkV sv ⟨none, 0, 0⟩ (restartD d)) ∧ Below w.heap.size w w' := by
  obtain ⟨A, n, c⟩ := sv
  obtain ⟨D, m, c2⟩ := pv
  unfold dkV restartD
  simp only
  go_enter Try.func18, Try.ntmps18
  go_wp2_with fail
  exact bodyPost_ret (v := .agg #[.slice A n c, .slice none 0 0, .int .i64 (-1), .bool false]) (by simp [results, Try.results18, go_sem]) rfl ⟨rfl, ((Below.refl _ _).alloc (Nat.le_refl _) _).alloc (by simp) _⟩
theorem Di.restart {w : World} {P : Nat → Prop} {sv pv : Sl} {d : Dk} (h : Di w P sv pv d) : Di w P sv ⟨none, 0, 0⟩ (restartD d) := ⟨h.1, Pe.nil_ _ _⟩
theorem openV_Dq {H : Type} {enc : TypeId × Value → H} {w : World} {base b0 : Nat} {r : Reach} {spare : Nat → Bool} {held : Bool} {v : Value} {d : DataW H} {p : List MemPlace}
    (hv : Value.okWide Try.prog w r b0 25 v) (h : DataW.Trod enc Try.prog w base spare held 25 v d p) : ∃ y : Sl × Sl × Dk, v = dkV y.1 y.2.1 y.2.2 ∧ Di w everyB y.1 y.2.1 y.2.2 := by
  obtain ⟨sv, pv, x, e, hd⟩ := openV_Dk hv h
  exact ⟨(sv, pv, x), e, hd⟩
theorem openV_Bq {H : Type} {enc : TypeId × Value → H} {w : World} {base b0 : Nat} {r : Reach} {spare : Nat → Bool} {held : Bool} {v : Value} {d : DataW H} {p : List MemPlace}
    (hv : Value.okWide Try.prog w r b0 35 v) (h : DataW.Trod enc Try.prog w base spare held 35 v d p) : ∃ y : Sl × List Int, v = .slice y.1.a y.1.n y.1.c ∧ By w everyB y.1 y.2 := by
  obtain ⟨s, bs, e, hb⟩ := openV_By hv h
  exact ⟨(s, bs), e, hb⟩
def zero_Dq : Value := zero_Dk
def zero_Bq : Value := .slice none 0 0
theorem Di.t {w : World} {P : Nat → Prop} {sv pv : Sl} {d : Dk} (h : Di w P sv pv d) : Di w everyB sv pv d := h.mono (fun _ _ => trivial)
end Go.Proofs.Ytebbmplbpgilaaa
