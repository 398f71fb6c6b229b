/- The walks of average's small functions and of their references: within, fits, check; Valid, check. -/
import Derived.Test.YtimaealmmjdjkaaLib
import Derived.Test.YtimaealmmjdjkaaRows
import Derived.Test.YtimaealmmjdjkaaQuiet
import Derived.Test.YtimaealmmjdjkaaSeq
import Derived.BigQuiet
import Derived.BigRegion
import Derived.Deep.QuietTactic
import Derived.StillTailTactics
import Derived.Laws.EntriesVeiled
import Derived.Handy
namespace Go.Proofs.Ytimaealmmjdjkaa
open Go.RowKit Go.Shelf
set_option linter.unusedSimpArgs false
set_option linter.unusedVariables false

structure At where
  course : Int
  term : Int
  grade : Int
  campus : Int
  credits : Int
  deriving DecidableEq
instance : Inhabited At := ⟨⟨0, 0, 0, 0, 0⟩⟩
def At.v (s : At) : Value := .agg #[.int .i64 s.course, .int .i64 s.term, .int .i64 s.grade, .int .i64 s.campus, .int .i64 s.credits]
def At.enc (s : At) : List Value := [.int .i64 s.course, .int .i64 s.term, .int .i64 s.grade, .int .i64 s.campus, .int .i64 s.credits]
def inB (n lo hi : Int) : Bool := decide (lo ≤ n) && decide (n ≤ hi)
def At.good (a : At) : Bool := inB a.course 0 4095 && (inB a.term 0 1023 && (inB a.grade 0 12 && (inB a.campus 0 6 && inB a.credits 0 60)))
def checkA (xs : List At) : Int := if xs.any (fun a => !a.good) then 150 else 0

theorem within_any (n lo hi : Int) (w : World) :
    Calls Try.prog 32 #[.int .i64 n, .int .i64 lo, .int .i64 hi] w fun e w' => e = .returned (.bool (inB n lo hi)) ∧ w = w' := by
  go_enter Try.func32, Try.ntmps32
  go_wp2
  all_goals go_ret
  all_goals refine ⟨ret_bool ?_, rfl⟩
  all_goals (unfold inB; simp_all <;> omega)

set_option maxHeartbeats 2000000 in
theorem fits_any (a : At) (w : World) :
    Calls Try.prog 41 #[a.v] w fun e w' => e = .returned (.bool a.good) ∧ Below w.heap.size w w' := by
  obtain ⟨c, t, g, p, k⟩ := a
  unfold At.v
  go_enter Try.func41, Try.ntmps41
  go_wp2_with (go_at_call 32; refine (within_any _ _ _ _).mono ?_; rintro e w' ⟨rfl, rfl⟩)
  all_goals go_ret
  all_goals refine ⟨ret_bool ?_, by go_grown⟩
  all_goals (simp [At.good, *])

theorem not_fits_any (a : At) (w : World) :
    Calls Try.prog 40 #[a.v] w fun e w' => e = .returned (.bool (!a.good)) ∧ Below w.heap.size w w' := by
  unfold At.v
  go_enter Try.func40, Try.ntmps40
  go_wp2_with fail
  refine (fits_any a _).mono ?_
  rintro e w1 ⟨rfl, hb1⟩
  go_wp2_with fail
  go_ret
  exact ⟨rfl, ((Below.refl _ _).alloc (Nat.le_refl _) _).trans (hb1.mono (by simp))⟩

set_option maxHeartbeats 2000000 in
theorem index_any (p : At → Bool) (g : Nat) (fr : Array Value) (xs : List At) (A : Option Addr) (c : Nat) (w : World)
    (hf : ∀ (x : At) (W : World), Below w.heap.size w W → Calls Try.prog g (#[.agg #[.int .i64 x.course, .int .i64 x.term, .int .i64 x.grade, .int .i64 x.campus, .int .i64 x.credits]] ++ fr) W fun e W' => e = .returned (.bool (p x)) ∧ Below W.heap.size W W')
    (hg : ∀ (args : Array Value) (W : World), Sem.run Try.prog (callFunc g args) W = .ok (.enter g args) W)
    (hx : Reads w w.heap.size A 5 At.enc xs) (hl : xs.length ≤ 9223372036854775807) :
    Calls Try.prog 51 #[.slice A xs.length c, .func (.func g) #[] fr] w fun e w' => (∃ m : Int, e = .returned (.int .i64 m) ∧ decide (0 ≤ m) = xs.any p) ∧ Below w.heap.size w w' := by
  have HF := Lib.hid hf
  have HX := Lib.hid hx
  clear hf hx
  go_enter Try.func51, Try.ntmps51
  go_wp2_with fail
  go_loopw [8] (fun i wr => ∃ k : Nat, k ≤ xs.length ∧ i = .int .i64 k ∧ (∀ j (h : j < xs.length), j < k → p xs[j] = false) ∧ Below w.heap.size w wr) (fun i _ => xs.length - (intOf i).toNat)
  case atStart => exact ⟨0, Nat.zero_le _, rfl, fun _ _ h => absurd h (by omega), Below.refl _ _⟩
  case round =>
    obtain ⟨k, hk, rfl, hno, hB⟩ := hrel
    have HNO := Lib.hid hno
    clear hno
    by_cases hlt : k < xs.length
    · obtain ⟨bb, off, x, rfl, hbl, hxk, hc⟩ := (HX.out.below hB).at_ hlt
      have c0 := hc 0 _ rfl
      have c1 := hc 1 _ rfl
      have c2 := hc 2 _ rfl
      have c3 := hc 3 _ rfl
      have c4 := hc 4 _ rfl
      simp only [Nat.add_zero] at c0
      have HXK := Lib.hid hxk
      have hb2 : bb < wr.heap.size := by have := hB.size; omega
      have HB := Lib.hid hB
      clear hc hxk hB
      cases hp : p x
      · have HP := Lib.hid hp
        clear hp
        go_wp2_with fail
        refine (HF.out x _ HB.out).mono ?_
        rw [HP.out]
        rintro e w1 ⟨rfl, hb1⟩
        go_wp2_with fail
        go_roundw
        case rel => exact ⟨k + 1, by omega, by go_num, step_no HNO.out HXK.out HP.out, HB.out.trans (hb1.mono HB.out.size)⟩
        case measure => simp [intOf]; omega
      · have HP := Lib.hid hp
        clear hp
        go_wp2_with fail
        refine (HF.out x _ HB.out).mono ?_
        rw [HP.out]
        rintro e w1 ⟨rfl, hb1⟩
        go_wp2_with fail
        go_ret
        exact ⟨⟨_, rfl, by rw [any_true HXK.out HP.out]; simp⟩, HB.out.trans (hb1.mono HB.out.size)⟩
    · obtain rfl : k = xs.length := by omega
      have HA : Hid (xs.any p = false) := Lib.hid (any_false (fun j hj => HNO.out j hj hj))
      go_wp2_with fail
      go_ret
      exact ⟨⟨_, rfl, by rw [HA.out]; decide⟩, hB⟩

theorem contains_any (p : At → Bool) (g : Nat) (fr : Array Value) (xs : List At) (A : Option Addr) (c : Nat) (w : World)
    (hf : ∀ (x : At) (W : World), Below w.heap.size w W → Calls Try.prog g (#[.agg #[.int .i64 x.course, .int .i64 x.term, .int .i64 x.grade, .int .i64 x.campus, .int .i64 x.credits]] ++ fr) W fun e W' => e = .returned (.bool (p x)) ∧ Below W.heap.size W W')
    (hg : ∀ (args : Array Value) (W : World), Sem.run Try.prog (callFunc g args) W = .ok (.enter g args) W)
    (hx : Reads w w.heap.size A 5 At.enc xs) (hl : xs.length ≤ 9223372036854775807) :
    Calls Try.prog 39 #[.slice A xs.length c, .func (.func g) #[] fr] w fun e w' => e = .returned (.bool (xs.any p)) ∧ Below w.heap.size w w' := by
  go_enter Try.func39, Try.ntmps39
  go_wp2_with fail
  refine (index_any p g fr xs A c _ hf hg hx hl).mono ?_
  rintro e w1 ⟨⟨m, rfl, hm⟩, hb1⟩
  have HM := Lib.hid hm
  clear hm
  go_wp2_with fail
  go_ret
  exact ⟨ret_bool HM.out, hb1⟩

theorem check_any (xs : List At) (A : Option Addr) (c : Nat) (w : World) (hx : Reads w w.heap.size A 5 At.enc xs) (hl : xs.length ≤ 9223372036854775807) :
    Calls Try.prog 26 #[.slice A xs.length c] w fun e w' => e = .returned (.int .i64 (checkA xs)) ∧ Below w.heap.size w w' := by
  have HX := Lib.hid hx
  clear hx
  cases hb : xs.any (fun a => !a.good)
  all_goals
    unfold checkA
    rw [hb]
    simp only [if_true, if_false, Bool.false_eq_true]
    have HB := Lib.hid hb
    clear hb
    go_enter Try.func26, Try.ntmps26
    go_wp2_with fail
    refine (contains_any (fun a => !a.good) 40 #[] xs A c _ (fun x W _ => not_fits_any x W) (enters_of Try.func40 (by kernel_rfl) rfl) HX.out hl).mono ?_
    rw [HB.out]
    rintro e w1 ⟨rfl, hb1⟩
    go_wp2_with fail
    go_ret
    exact ⟨rfl, hb1⟩

set_option maxHeartbeats 2000000 in
theorem Valid_any (a : At) (w : World) :
    Calls Try.prog 43 #[a.v] w fun e w' => e = .returned (.bool a.good) ∧ Below w.heap.size w w' := by
  obtain ⟨c, t, g, p, k⟩ := a
  unfold At.v
  go_enter Try.func43, Try.ntmps43
  go_wp2_with fail
  all_goals go_ret
  all_goals refine ⟨ret_bool ?_, by go_grown⟩
  all_goals simp only [At.good, inB]
  all_goals first
    | (simp_all; done)
    | (simp_all <;> omega)
    | (have e1 : c ≤ 4095 := (by omega); have e2 : t ≤ 1023 := (by omega); have e3 : p ≤ 6 := (by omega); simp [*]; done)
end Go.Proofs.Ytimaealmmjdjkaa
