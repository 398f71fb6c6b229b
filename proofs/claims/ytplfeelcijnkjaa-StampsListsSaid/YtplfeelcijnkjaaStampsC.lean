/- The walk of the reference's Next. -/
import Derived.Test.YtplfeelcijnkjaaStampsB
namespace Go.Proofs.Ytplfeelcijnkjaa
open Go.RowKit

set_option maxHeartbeats 2000000 in
theorem RNext_any (l : St) (seen : Int) (w : World) :
    Calls Try.prog 21 #[l.v, .int .i64 seen] w fun e w' => e = .returned (.tuple #[(nextS l seen).1.v, .int .i64 (nextS l seen).2]) ∧ Below w.heap.size w w' := by
  obtain ⟨t, c, n⟩ := l
  cases hok : okN ⟨t, c, n⟩ seen
  · have h2 : nextS ⟨t, c, n⟩ seen = (⟨0, 0, 0⟩, 80) := by simp [nextS, hok]
    rw [h2]
    have HO := Lib.hid hok
    clear hok h2
    unfold St.v
    go_enter Try.func21, Try.ntmps21
    go_wp2_with fail
    all_goals first
      | (exfalso; have ho := HO.out; simp [okN] at ho; omega)
      | (refine bodyPost_ret (v := .tuple #[.agg #[.int .i64 0, .int .i64 0, .int .i64 0], .int .i64 80]) (by simp [results, Try.results21, go_sem]) rfl ⟨rfl, by go_grown⟩)
  · have hb := hok
    simp [okN] at hb
    obtain ⟨⟨⟨⟨⟨⟨⟨b1, b2⟩, b3⟩, b4⟩, b5⟩, b6⟩, b7⟩, b8⟩ := hb
    have e0 : nextS ⟨t, c, n⟩ seen = if t = 1048576 ∨ seen = 1048576 ∨ n = 1048576 then (⟨0, 0, 0⟩, 2) else (⟨max t seen + 1, c, n + 1⟩, 0) := by
      simp only [nextS, hok, if_true]
      rw [Int.add_comm 1, Int.add_comm 1]
    have E0 := Lib.hid e0
    clear hok e0
    have hm : t < seen ∨ ¬ t < seen := by omega
    rcases hm with hm | hm
    · have hmx : max t seen = seen := by omega
      rw [E0.out, hmx]
      clear hmx E0
      by_cases q1 : seen = 1048576
      · rw [if_pos (by omega)]
        have d1 : (seen == 1048576) = true := by simpa using q1
        unfold St.v
        go_enter Try.func21, Try.ntmps21
        go_wp2_with fail
        exact bodyPost_ret (v := .tuple #[.agg #[.int .i64 0, .int .i64 0, .int .i64 0], .int .i64 2]) (by simp [results, Try.results21, go_sem]) rfl ⟨rfl, by go_grown⟩
      · have d1 : (seen == 1048576) = false := by simpa using q1
        by_cases q2 : n = 1048576
        · rw [if_pos (by omega)]
          have d2 : (n == 1048576) = true := by simpa using q2
          clear q1 q2
          unfold St.v
          go_enter Try.func21, Try.ntmps21
          go_wp2_with fail
          exact bodyPost_ret (v := .tuple #[.agg #[.int .i64 0, .int .i64 0, .int .i64 0], .int .i64 2]) (by simp [results, Try.results21, go_sem]) rfl ⟨rfl, by go_grown⟩
        · rw [if_neg (by omega)]
          have d2 : (n == 1048576) = false := by simpa using q2
          clear q1 q2
          unfold St.v
          go_enter Try.func21, Try.ntmps21
          go_wp2_with fail
          exact bodyPost_ret (v := .tuple #[.agg #[.int .i64 (seen + 1), .int .i64 c, .int .i64 (n + 1)], .int .i64 0]) (by simp [results, Try.results21, go_sem]) rfl ⟨rfl, by go_grown⟩
    · have hmx : max t seen = t := by omega
      rw [E0.out, hmx]
      clear hmx E0
      by_cases q1 : t = 1048576
      · rw [if_pos (by omega)]
        have d1 : (t == 1048576) = true := by simpa using q1
        clear q1
        unfold St.v
        go_enter Try.func21, Try.ntmps21
        go_wp2_with fail
        exact bodyPost_ret (v := .tuple #[.agg #[.int .i64 0, .int .i64 0, .int .i64 0], .int .i64 2]) (by simp [results, Try.results21, go_sem]) rfl ⟨rfl, by go_grown⟩
      · have d1 : (t == 1048576) = false := by simpa using q1
        by_cases q2 : n = 1048576
        · rw [if_pos (by omega)]
          have d2 : (n == 1048576) = true := by simpa using q2
          clear q1 q2
          unfold St.v
          go_enter Try.func21, Try.ntmps21
          go_wp2_with fail
          exact bodyPost_ret (v := .tuple #[.agg #[.int .i64 0, .int .i64 0, .int .i64 0], .int .i64 2]) (by simp [results, Try.results21, go_sem]) rfl ⟨rfl, by go_grown⟩
        · rw [if_neg (by omega)]
          have d2 : (n == 1048576) = false := by simpa using q2
          clear q1 q2
          unfold St.v
          go_enter Try.func21, Try.ntmps21
          go_wp2_with fail
          exact bodyPost_ret (v := .tuple #[.agg #[.int .i64 (t + 1), .int .i64 c, .int .i64 (n + 1)], .int .i64 0]) (by simp [results, Try.results21, go_sem]) rfl ⟨rfl, by go_grown⟩

end Go.Proofs.Ytplfeelcijnkjaa
