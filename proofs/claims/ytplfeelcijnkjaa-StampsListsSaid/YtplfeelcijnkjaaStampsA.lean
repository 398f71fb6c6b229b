/- The walks of the small functions of stamps and of its reference. -/
import Derived.Test.YtplfeelcijnkjaaCmp
import Derived.BigQuiet
import Derived.Deep.QuietTactic
import Derived.StillTailTactics
namespace Go.Proofs.Ytplfeelcijnkjaa
open Go.RowKit

structure St where
  time : Int
  campus : Int
  no : Int
  deriving DecidableEq
instance : Inhabited St := ⟨⟨0, 0, 0⟩⟩
def St.v (s : St) : Value := .agg #[.int .i64 s.time, .int .i64 s.campus, .int .i64 s.no]
def St.enc (s : St) : List Value := [.int .i64 s.time, .int .i64 s.campus, .int .i64 s.no]
def St.good (s : St) : Bool := decide (1 ≤ s.time) && decide (s.time ≤ 1048576) && decide (0 ≤ s.campus) && decide (s.campus ≤ 6) && decide (1 ≤ s.no) && decide (s.no ≤ 1048576)
def checkS (s : St) : Int := if s.good then 0 else 80

theorem within_any (n lo hi : Int) (w : World) :
    Calls Try.prog 26 #[.int .i64 n, .int .i64 lo, .int .i64 hi] w fun e w' => e = .returned (.bool (decide (lo ≤ n) && decide (n ≤ hi))) ∧ w = w' := by
  go_enter Try.func26, Try.ntmps26
  go_wp2
  all_goals go_ret
  all_goals refine ⟨ret_bool ?_, rfl⟩
  all_goals (simp_all <;> omega)

set_option maxHeartbeats 1000000 in
theorem Check_any (s : St) (w : World) :
    Calls Try.prog 15 #[s.v] w fun e w' => e = .returned (.int .i64 (checkS s)) ∧ Below w.heap.size w w' := by
  unfold St.v
  go_enter Try.func15, Try.ntmps15
  go_wp2_with (go_at_call 26; refine (within_any _ _ _ _).mono ?_; rintro e w' ⟨rfl, rfl⟩)
  all_goals go_ret
  all_goals refine ⟨ret_int ?_, by go_grown⟩
  all_goals (simp only [checkS, St.good]; simp_all <;> omega)

set_option maxHeartbeats 1000000 in
theorem RCheck_any (s : St) (w : World) :
    Calls Try.prog 16 #[s.v] w fun e w' => e = .returned (.int .i64 (checkS s)) ∧ Below w.heap.size w w' := by
  unfold St.v
  go_enter Try.func16, Try.ntmps16
  go_wp2_with fail
  all_goals go_ret
  all_goals refine ⟨ret_int ?_, by go_grown⟩
  all_goals (simp only [checkS, St.good]; simp_all <;> omega)

def firstNZ : List Int → Int
  | [] => 0
  | n :: l => if n = 0 then firstNZ l else n
theorem firstNZ_drop (l : List Int) (k : Nat) (n : Int) (h : l[k]? = some n) : firstNZ (l.drop k) = if n = 0 then firstNZ (l.drop (k + 1)) else n := by
  have hl := (List.getElem?_eq_some_iff.1 h).1
  rw [List.drop_eq_getElem_cons hl, (List.getElem?_eq_some_iff.1 h).2]
  rfl

set_option maxHeartbeats 1000000 in
theorem first_any (l : List Int) (A : Option Addr) (c : Nat) (w : World) (hx : Reads w w.heap.size A 1 intE l) (hl : l.length ≤ 9223372036854775807) :
    Calls Try.prog 27 #[.slice A l.length c] w fun e w' => e = .returned (.int .i64 (firstNZ l)) ∧ w = w' := by
  have HX := Lib.hid hx
  clear hx
  go_enter Try.func27, Try.ntmps27
  go_wp2_with fail
  go_loop [7] (fun i => ∃ k : Nat, k ≤ l.length ∧ i = .int .i64 k ∧ firstNZ l = firstNZ (l.drop k)) (fun i => l.length - (intOf i).toNat)
  case atStart => exact ⟨0, Nat.zero_le _, rfl, rfl⟩
  case round =>
    obtain ⟨k, hk, rfl, hf⟩ := hrel
    have HF := Lib.hid hf
    clear hf
    by_cases hlt : k < l.length
    · obtain ⟨bb, off, n, rfl, hbl, hxk, hc⟩ := HX.out.at_ hlt
      have c0 := hc 0 _ rfl
      simp only [Nat.add_zero, Nat.mul_one] at c0
      have hd := firstNZ_drop l k n hxk
      have HD := Lib.hid hd
      clear hc hxk hd
      cases hn : n == 0
      · go_wp2_with fail
        go_ret
        exact ⟨ret_int (by rw [HF.out, HD.out, if_neg (by simpa using hn)]), rfl⟩
      · have HN := Lib.hid hn
        go_wp2_with fail
        go_round
        case rel => exact ⟨k + 1, by omega, by go_num, by rw [HF.out, HD.out, if_pos (by simpa using HN.out)]⟩
        case measure => simp [intOf]; omega
    · obtain rfl : k = l.length := by omega
      go_wp2_with fail
      go_ret
      exact ⟨ret_int (by rw [HF.out]; simp [firstNZ]), rfl⟩

def cmpS (a b : St) : Int := firstNZ [cmpI a.time b.time, cmpI a.campus b.campus, cmpI a.no b.no]
set_option maxHeartbeats 1000000 in
theorem SCompare_any (a b : St) (w : World) :
    Calls Try.prog 17 #[a.v, b.v] w fun e w' => e = .returned (.int .i64 (cmpS a b)) ∧ Below w.heap.size w w' := by
  obtain ⟨ta, ca, na⟩ := a
  obtain ⟨tb, cb, nb⟩ := b
  by_cases heq : ta = tb ∧ ca = cb ∧ na = nb
  · obtain ⟨rfl, rfl, rfl⟩ := heq
    have hz : cmpS ⟨ta, ca, na⟩ ⟨ta, ca, na⟩ = 0 := by simp [cmpS, cmpI, firstNZ]
    rw [hz]
    clear hz
    unfold St.v
    go_enter Try.func17, Try.ntmps17
    go_wp2_with fail
    go_ret
    exact ⟨rfl, by go_grown⟩
  · have HE := Lib.hid heq
    clear heq
    unfold St.v
    go_enter Try.func17, Try.ntmps17
    go_wp2_with fail
    · exfalso
      have e1 : ta = tb := by assumption
      have e2 : ca = cb := by assumption
      have e3 : na = nb := by assumption
      exact HE.out ⟨e1, e2, e3⟩
    all_goals
      refine wp_region_tail 15 (by kernel_rfl) (by kernel_rfl) ?_
      simp only [List.take_succ_cons, List.take_zero, List.drop_succ_cons, List.drop_zero]
      repeat still_step
      still_call ((Compare_any _ _ _).mono fun _ _ h => ⟨h.1, h.2.symm⟩)
      repeat still_step
      still_call ((Compare_any _ _ _).mono fun _ _ h => ⟨h.1, h.2.symm⟩)
      repeat still_step
      still_call ((Compare_any _ _ _).mono fun _ _ h => ⟨h.1, h.2.symm⟩)
      refine wpStill_nil ?_
      go_wp2_with fail
      refine (first_any [_, _, _] _ _ _ ((reads_ints ((w.alloc _).alloc _) (w.heap.size + 1 + 1) (by simp) [_, _, _] _ _ rfl).drew.more (by simp)) (by simp)).mono ?_
      rintro e w1 ⟨rfl, rfl⟩
      go_wp2_with fail
      go_ret
      refine ⟨ret_int ?_, by go_grown⟩
      simp [cmpS, *]
end Go.Proofs.Ytplfeelcijnkjaa
