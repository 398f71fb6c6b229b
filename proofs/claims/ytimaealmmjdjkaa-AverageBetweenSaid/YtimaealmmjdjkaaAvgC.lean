/- The reference's check; Few. -/
import Derived.Test.YtimaealmmjdjkaaAvgB
namespace Go.Proofs.Ytimaealmmjdjkaa
open Go.RowKit Go.Shelf
set_option linter.unusedSimpArgs false
set_option linter.unusedVariables false

theorem few_any {α : Type} (xs : List α) (A : Option Addr) (c : Nat) (w : World) :
    Calls Try.prog 11 #[.slice A xs.length c] w fun e w' => e = .returned (.bool (decide (xs.length ≤ 40))) ∧ w = w' := by
  go_enter Try.func11, Try.ntmps11
  go_wp2
  go_ret
  exact ⟨ret_bool (by simp; omega), rfl⟩

set_option maxHeartbeats 2000000 in
theorem RAvCheck_any (xs : List At) (A : Option Addr) (c : Nat) (w : World) (hx : Reads w w.heap.size A 5 At.enc xs) (hl : xs.length ≤ 9223372036854775807) :
    Calls Try.prog 28 #[.slice A xs.length c] w fun e w' => e = .returned (.int .i64 (checkA xs)) ∧ Below w.heap.size w w' := by
  have HX := Lib.hid hx
  clear hx
  go_enter Try.func28, Try.ntmps28
  go_wp2_with fail
  go_loopw [3] (fun i wr => ∃ k : Nat, k ≤ xs.length ∧ i = .int .i64 k ∧ (∀ j (h : j < xs.length), j < k → (!xs[j].good) = false) ∧ Below w.heap.size w wr) (fun i _ => xs.length - (intOf i).toNat)
  case atStart => exact ⟨0, Nat.zero_le _, rfl, fun _ _ h => absurd h (by omega), Below.refl _ _⟩
  case round =>
    obtain ⟨k, hk, rfl, hno, hB⟩ := hrel
    have HNO := Lib.hid hno
    clear hno
    by_cases hlt : k < xs.length
    · obtain ⟨bb, off, x, rfl, hbl, hxk, hc⟩ := (HX.out.below hB).at_ hlt
      have c0 := hc 0 _ rfl
      have c1 := hc 1 _ rfl
      have c2 := hc 2 _ rfl
      have c3 := hc 3 _ rfl
      have c4 := hc 4 _ rfl
      simp only [Nat.add_zero] at c0
      have HXK := Lib.hid hxk
      have hb2 : bb < wr.heap.size := by have := hB.size; omega
      have HB := Lib.hid hB
      clear hc hxk hB
      cases hp : x.good
      · have HP := Lib.hid hp
        have HA : Hid (checkA xs = 150) := Lib.hid (by unfold checkA; rw [any_true HXK.out (by simp [hp])]; rfl)
        clear hp
        go_wp2_with fail
        refine (Valid_any x _).mono ?_
        rw [HP.out]
        rintro e w1 ⟨rfl, hb1⟩
        go_wp2_with fail
        go_ret
        exact ⟨ret_int HA.out.symm, HB.out.trans (hb1.mono HB.out.size)⟩
      · have HP := Lib.hid hp
        clear hp
        go_wp2_with fail
        refine (Valid_any x _).mono ?_
        rw [HP.out]
        rintro e w1 ⟨rfl, hb1⟩
        go_wp2_with fail
        go_roundw
        case rel => exact ⟨k + 1, by omega, by go_num, step_no (p := fun a => !a.good) HNO.out HXK.out (by simp [HP.out]), HB.out.trans (hb1.mono HB.out.size)⟩
        case measure => simp [intOf]; omega
    · obtain rfl : k = xs.length := by omega
      have HA : Hid (checkA xs = 0) := Lib.hid (by unfold checkA; rw [any_false (fun j hj => HNO.out j hj hj)]; rfl)
      go_wp2_with fail
      go_ret
      exact ⟨ret_int HA.out.symm, hB⟩
end Go.Proofs.Ytimaealmmjdjkaa
