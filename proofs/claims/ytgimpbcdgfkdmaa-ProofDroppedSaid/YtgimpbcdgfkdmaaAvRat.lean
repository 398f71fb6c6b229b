/- Of chapter 5: Check, Compare, the reference's New and Check. -/
import Derived.Test.YtgimpbcdgfkdmaaRatB
import Derived.LoopN
import Derived.Test.YtgimpbcdgfkdmaaSeq
namespace Go.Proofs.Ytgimpbcdgfkdmaa
open Go.RowKit Go.Shelf
set_option linter.unusedSimpArgs false
set_option linter.unusedVariables false

theorem two_boxes {w w' : World} {cs ds : Array Value} {t t' : TypeId} (h : Below (w.heap.size + 2) ((w.alloc (.cells cs t)).alloc (.cells ds t')) w') :
    (∀ i, w'.cell? ⟨w.heap.size, i, none⟩ = cs[i]?) ∧ (∀ i, w'.cell? ⟨w.heap.size + 1, i, none⟩ = ds[i]?) := by
  have h1 : Below (w.heap.size + 1) (w.alloc (.cells cs t)) w' := ((Below.refl _ _).alloc (by simp) _).trans (h.mono (by omega))
  exact ⟨(below_at w.heap.size rfl h1 (by omega)).1, (below_at (w.heap.size + 1) (by simp) h (by omega)).1⟩
theorem ab_cells {w w' : World} {a b : Ra} {t t' : TypeId} (h : Below (w.heap.size + 2) ((w.alloc (.cells #[.int .i64 a.num, .int .i64 a.den] t)).alloc (.cells #[.int .i64 b.num, .int .i64 b.den] t')) w') :
    w'.cell? ⟨w.heap.size, 0, none⟩ = some (.int .i64 a.num) ∧ w'.cell? ⟨w.heap.size, 1, none⟩ = some (.int .i64 a.den) ∧
    w'.cell? ⟨w.heap.size + 1, 0, none⟩ = some (.int .i64 b.num) ∧ w'.cell? ⟨w.heap.size + 1, 1, none⟩ = some (.int .i64 b.den) ∧
    w.heap.size < w'.heap.size ∧ w.heap.size + 1 < w'.heap.size := by
  obtain ⟨ca, cb⟩ := two_boxes h
  have hs := h.size
  simp only [World.size_alloc] at hs
  exact ⟨ca 0, ca 1, cb 0, cb 1, by omega, by omega⟩
theorem ab_size {w w' : World} {o o' : Obj} (h : Below (w.heap.size + 2) ((w.alloc o).alloc o') w') : w.heap.size + 2 ≤ w'.heap.size := by
  have hs := h.size
  simpa using hs
theorem ab_end {w w' : World} {o o' : Obj} (h : Below (w.heap.size + 2) ((w.alloc o).alloc o') w') : Below w.heap.size w w' := (((Below.refl _ _).alloc (Nat.le_refl _) _).alloc (by simp) _).trans (h.mono (by omega))

def Ra.i64 (r : Ra) : Prop := I64 r.num ∧ I64 r.den
theorem checkR_ok {r : Ra} (h : okR r) : checkR r = 0 := by simp [checkR, h]
theorem checkR_no {r : Ra} (h : ¬ okR r) : checkR r = 50 := by simp [checkR, h]
theorem checkR_zero {r : Ra} (h : checkR r = 0) : okR r := by
  unfold checkR at h
  split at h
  · assumption
  · simp at h

set_option maxHeartbeats 2000000 in
theorem Check_any (r : Ra) (hi : r.i64) (w : World) :
    Calls Try.prog 42 #[r.v] w fun e w' => e = .returned (.int .i64 (checkR r)) ∧ Below w.heap.size w w' := by
  obtain ⟨h1, h2⟩ := hi
  have H1 := Lib.hid h1
  have H2 := Lib.hid h2
  clear h1 h2
  cases b1 : decide (r.den < 1)
  rotate_left
  · rw [checkR_no (r := r) (fun h => by simp at b1; obtain ⟨p1, p2, p3, p4, p5⟩ := h; omega)]
    obtain ⟨n, d⟩ := r
    unfold Ra.v
    simp only at *
    go_enter Try.func42, Try.ntmps42
    go_wp2_with fail
    all_goals go_ret
    all_goals exact ⟨rfl, by go_grown⟩
  cases b2 : decide ((1073741824 : Int) < r.den)
  rotate_left
  · rw [checkR_no (r := r) (fun h => by simp at b2; obtain ⟨p1, p2, p3, p4, p5⟩ := h; omega)]
    obtain ⟨n, d⟩ := r
    unfold Ra.v
    simp only at *
    go_enter Try.func42, Try.ntmps42
    go_wp2_with fail
    all_goals go_ret
    all_goals exact ⟨rfl, by go_grown⟩
  cases b3 : decide (r.num < -1073741824)
  rotate_left
  · rw [checkR_no (r := r) (fun h => by simp at b3; obtain ⟨p1, p2, p3, p4, p5⟩ := h; omega)]
    obtain ⟨n, d⟩ := r
    unfold Ra.v
    simp only at *
    go_enter Try.func42, Try.ntmps42
    go_wp2_with fail
    all_goals go_ret
    all_goals exact ⟨rfl, by go_grown⟩
  cases b4 : decide ((1073741824 : Int) < r.num)
  rotate_left
  · rw [checkR_no (r := r) (fun h => by simp at b4; obtain ⟨p1, p2, p3, p4, p5⟩ := h; omega)]
    obtain ⟨n, d⟩ := r
    unfold Ra.v
    simp only at *
    go_enter Try.func42, Try.ntmps42
    go_wp2_with fail
    all_goals go_ret
    all_goals exact ⟨rfl, by go_grown⟩
  have c0 : Hid (r.num.natAbs.gcd r.den.natAbs = r.num.natAbs.gcd r.den.natAbs) := Lib.hid rfl
  obtain ⟨g, hg⟩ : ∃ g, g = r.num.natAbs.gcd r.den.natAbs := ⟨_, rfl⟩
  have HG := Lib.hid hg.symm
  by_cases hg1 : g = 1
  · rw [checkR_ok (r := r) (by simp at b1 b2 b3 b4; exact ⟨by omega, by omega, by omega, by omega, by rw [← hg, hg1]⟩)]
    have q : ((g : Int) == 1) = true := by simp [hg1]
    clear hg hg1
    obtain ⟨n, d⟩ := r
    unfold Ra.v
    simp only at *
    go_enter Try.func42, Try.ntmps42
    go_wp2_with fail
    refine (common_any n d H1.out H2.out _).mono ?_
    rw [HG.out]
    rintro e w1 ⟨rfl, hb1⟩
    go_wp2_with fail
    go_ret
    exact ⟨rfl, ((Below.refl _ _).alloc (Nat.le_refl _) _).trans (hb1.mono (by simp))⟩
  · rw [checkR_no (r := r) (fun h => hg1 (by rw [hg]; exact h.2.2.2.2))]
    have q : ((g : Int) == 1) = false := by simp; omega
    clear hg hg1
    obtain ⟨n, d⟩ := r
    unfold Ra.v
    simp only at *
    go_enter Try.func42, Try.ntmps42
    go_wp2_with fail
    refine (common_any n d H1.out H2.out _).mono ?_
    rw [HG.out]
    rintro e w1 ⟨rfl, hb1⟩
    go_wp2_with fail
    go_ret
    exact ⟨rfl, ((Below.refl _ _).alloc (Nat.le_refl _) _).trans (hb1.mono (by simp))⟩

set_option maxHeartbeats 2000000 in
theorem RRaCheck_any (r : Ra) (hi : r.i64) (w : World) :
    Calls Try.prog 43 #[r.v] w fun e w' => e = .returned (.int .i64 (checkR r)) ∧ Below w.heap.size w w' := by
  obtain ⟨h1, h2⟩ := hi
  have H1 := Lib.hid h1
  have H2 := Lib.hid h2
  clear h1 h2
  cases b1 : decide (r.den < 1)
  rotate_left
  · rw [checkR_no (r := r) (fun h => by simp at b1; obtain ⟨p1, p2, p3, p4, p5⟩ := h; omega)]
    obtain ⟨n, d⟩ := r
    unfold Ra.v
    simp only at *
    go_enter Try.func43, Try.ntmps43
    go_wp2_with fail
    refine abs_wp ?_
    intro W hW
    have z0 : w.heap.size < W.heap.size := by rw [hW]; simp
    have c0 : W.cell? ⟨w.heap.size, 0, none⟩ = some (.int .i64 n) := by rw [hW]; simp [go_sem]
    have c1 : W.cell? ⟨w.heap.size, 1, none⟩ = some (.int .i64 d) := by rw [hW]; simp [go_sem]
    have B0 : Below w.heap.size w W := by rw [hW]; go_grown
    clear hW
    refine wp_region_below (by kernel_rfl) (by kernel_rfl) ?_
    repeat (first
      | go_big_quiet_skip
      | (go_big_quiet_want
         first
           | (apply quiet_val
              focus (
                intro WC hWC
                obtain ⟨hcc0, hff0⟩ := bcell hWC
                go_simp
                all_goals rfl
                done)
              go_simp
              go_big_quiet_on)
           | (apply quiet_call
              focus (
                intro WC hWC
                go_simp
                all_goals (first | rfl | exact ⟨rfl, rfl⟩)
                done)
              focus (
                intro WC hWC
                (refine (RSize_any _ ?_ WC).mono fun e w' h => ⟨h.1, h.2 ▸ hWC⟩; first | exact H1.out | exact H2.out)
                done)
              go_simp
              go_big_quiet_on)
           | (apply quiet_call
              focus (
                intro WC hWC
                go_simp
                all_goals (first | rfl | exact ⟨rfl, rfl⟩)
                done)
              focus (
                intro WC hWC
                exact (RCommon_any n.natAbs d.natAbs (abs_le H1.out) (abs_le H2.out) WC).mono fun e w' h => ⟨by first | rw [h.1, HG.out] | exact h.1, hWC.trans (h.2.mono hWC.size)⟩
                done)
              go_simp
              go_big_quiet_on)))
    refine wpQuiet_nil ?_
    intro w5 hw5
    go_wp2_with fail
    go_ret
    exact ⟨rfl, B0.trans (hw5.mono (by omega))⟩
  cases b2 : decide ((1073741824 : Int) < r.den)
  rotate_left
  · rw [checkR_no (r := r) (fun h => by simp at b2; obtain ⟨p1, p2, p3, p4, p5⟩ := h; omega)]
    obtain ⟨n, d⟩ := r
    unfold Ra.v
    simp only at *
    go_enter Try.func43, Try.ntmps43
    go_wp2_with fail
    refine abs_wp ?_
    intro W hW
    have z0 : w.heap.size < W.heap.size := by rw [hW]; simp
    have c0 : W.cell? ⟨w.heap.size, 0, none⟩ = some (.int .i64 n) := by rw [hW]; simp [go_sem]
    have c1 : W.cell? ⟨w.heap.size, 1, none⟩ = some (.int .i64 d) := by rw [hW]; simp [go_sem]
    have B0 : Below w.heap.size w W := by rw [hW]; go_grown
    clear hW
    refine wp_region_below (by kernel_rfl) (by kernel_rfl) ?_
    repeat (first
      | go_big_quiet_skip
      | (go_big_quiet_want
         first
           | (apply quiet_val
              focus (
                intro WC hWC
                obtain ⟨hcc0, hff0⟩ := bcell hWC
                go_simp
                all_goals rfl
                done)
              go_simp
              go_big_quiet_on)
           | (apply quiet_call
              focus (
                intro WC hWC
                go_simp
                all_goals (first | rfl | exact ⟨rfl, rfl⟩)
                done)
              focus (
                intro WC hWC
                (refine (RSize_any _ ?_ WC).mono fun e w' h => ⟨h.1, h.2 ▸ hWC⟩; first | exact H1.out | exact H2.out)
                done)
              go_simp
              go_big_quiet_on)
           | (apply quiet_call
              focus (
                intro WC hWC
                go_simp
                all_goals (first | rfl | exact ⟨rfl, rfl⟩)
                done)
              focus (
                intro WC hWC
                exact (RCommon_any n.natAbs d.natAbs (abs_le H1.out) (abs_le H2.out) WC).mono fun e w' h => ⟨by first | rw [h.1, HG.out] | exact h.1, hWC.trans (h.2.mono hWC.size)⟩
                done)
              go_simp
              go_big_quiet_on)))
    refine wpQuiet_nil ?_
    intro w5 hw5
    go_wp2_with fail
    go_ret
    exact ⟨rfl, B0.trans (hw5.mono (by omega))⟩
  cases b3 : decide (r.num < -1073741824)
  rotate_left
  · rw [checkR_no (r := r) (fun h => by simp at b3; obtain ⟨p1, p2, p3, p4, p5⟩ := h; omega)]
    obtain ⟨n, d⟩ := r
    unfold Ra.v
    simp only at *
    go_enter Try.func43, Try.ntmps43
    go_wp2_with fail
    refine abs_wp ?_
    intro W hW
    have z0 : w.heap.size < W.heap.size := by rw [hW]; simp
    have c0 : W.cell? ⟨w.heap.size, 0, none⟩ = some (.int .i64 n) := by rw [hW]; simp [go_sem]
    have c1 : W.cell? ⟨w.heap.size, 1, none⟩ = some (.int .i64 d) := by rw [hW]; simp [go_sem]
    have B0 : Below w.heap.size w W := by rw [hW]; go_grown
    clear hW
    refine wp_region_below (by kernel_rfl) (by kernel_rfl) ?_
    repeat (first
      | go_big_quiet_skip
      | (go_big_quiet_want
         first
           | (apply quiet_val
              focus (
                intro WC hWC
                obtain ⟨hcc0, hff0⟩ := bcell hWC
                go_simp
                all_goals rfl
                done)
              go_simp
              go_big_quiet_on)
           | (apply quiet_call
              focus (
                intro WC hWC
                go_simp
                all_goals (first | rfl | exact ⟨rfl, rfl⟩)
                done)
              focus (
                intro WC hWC
                (refine (RSize_any _ ?_ WC).mono fun e w' h => ⟨h.1, h.2 ▸ hWC⟩; first | exact H1.out | exact H2.out)
                done)
              go_simp
              go_big_quiet_on)
           | (apply quiet_call
              focus (
                intro WC hWC
                go_simp
                all_goals (first | rfl | exact ⟨rfl, rfl⟩)
                done)
              focus (
                intro WC hWC
                exact (RCommon_any n.natAbs d.natAbs (abs_le H1.out) (abs_le H2.out) WC).mono fun e w' h => ⟨by first | rw [h.1, HG.out] | exact h.1, hWC.trans (h.2.mono hWC.size)⟩
                done)
              go_simp
              go_big_quiet_on)))
    refine wpQuiet_nil ?_
    intro w5 hw5
    go_wp2_with fail
    go_ret
    exact ⟨rfl, B0.trans (hw5.mono (by omega))⟩
  cases b4 : decide ((1073741824 : Int) < r.num)
  rotate_left
  · rw [checkR_no (r := r) (fun h => by simp at b4; obtain ⟨p1, p2, p3, p4, p5⟩ := h; omega)]
    obtain ⟨n, d⟩ := r
    unfold Ra.v
    simp only at *
    go_enter Try.func43, Try.ntmps43
    go_wp2_with fail
    refine abs_wp ?_
    intro W hW
    have z0 : w.heap.size < W.heap.size := by rw [hW]; simp
    have c0 : W.cell? ⟨w.heap.size, 0, none⟩ = some (.int .i64 n) := by rw [hW]; simp [go_sem]
    have c1 : W.cell? ⟨w.heap.size, 1, none⟩ = some (.int .i64 d) := by rw [hW]; simp [go_sem]
    have B0 : Below w.heap.size w W := by rw [hW]; go_grown
    clear hW
    refine wp_region_below (by kernel_rfl) (by kernel_rfl) ?_
    repeat (first
      | go_big_quiet_skip
      | (go_big_quiet_want
         first
           | (apply quiet_val
              focus (
                intro WC hWC
                obtain ⟨hcc0, hff0⟩ := bcell hWC
                go_simp
                all_goals rfl
                done)
              go_simp
              go_big_quiet_on)
           | (apply quiet_call
              focus (
                intro WC hWC
                go_simp
                all_goals (first | rfl | exact ⟨rfl, rfl⟩)
                done)
              focus (
                intro WC hWC
                (refine (RSize_any _ ?_ WC).mono fun e w' h => ⟨h.1, h.2 ▸ hWC⟩; first | exact H1.out | exact H2.out)
                done)
              go_simp
              go_big_quiet_on)
           | (apply quiet_call
              focus (
                intro WC hWC
                go_simp
                all_goals (first | rfl | exact ⟨rfl, rfl⟩)
                done)
              focus (
                intro WC hWC
                exact (RCommon_any n.natAbs d.natAbs (abs_le H1.out) (abs_le H2.out) WC).mono fun e w' h => ⟨by first | rw [h.1, HG.out] | exact h.1, hWC.trans (h.2.mono hWC.size)⟩
                done)
              go_simp
              go_big_quiet_on)))
    refine wpQuiet_nil ?_
    intro w5 hw5
    go_wp2_with fail
    go_ret
    exact ⟨rfl, B0.trans (hw5.mono (by omega))⟩
  have c0 : Hid (r.num.natAbs.gcd r.den.natAbs = r.num.natAbs.gcd r.den.natAbs) := Lib.hid rfl
  obtain ⟨g, hg⟩ : ∃ g, g = r.num.natAbs.gcd r.den.natAbs := ⟨_, rfl⟩
  have HG := Lib.hid hg.symm
  by_cases hg1 : g = 1
  · rw [checkR_ok (r := r) (by simp at b1 b2 b3 b4; exact ⟨by omega, by omega, by omega, by omega, by rw [← hg, hg1]⟩)]
    have q : ((g : Int) == 1) = true := by simp [hg1]
    clear hg hg1
    obtain ⟨n, d⟩ := r
    unfold Ra.v
    simp only at *
    go_enter Try.func43, Try.ntmps43
    go_wp2_with fail
    refine abs_wp ?_
    intro W hW
    have z0 : w.heap.size < W.heap.size := by rw [hW]; simp
    have c0 : W.cell? ⟨w.heap.size, 0, none⟩ = some (.int .i64 n) := by rw [hW]; simp [go_sem]
    have c1 : W.cell? ⟨w.heap.size, 1, none⟩ = some (.int .i64 d) := by rw [hW]; simp [go_sem]
    have B0 : Below w.heap.size w W := by rw [hW]; go_grown
    clear hW
    refine wp_region_below (by kernel_rfl) (by kernel_rfl) ?_
    repeat (first
      | go_big_quiet_skip
      | (go_big_quiet_want
         first
           | (apply quiet_val
              focus (
                intro WC hWC
                obtain ⟨hcc0, hff0⟩ := bcell hWC
                go_simp
                all_goals rfl
                done)
              go_simp
              go_big_quiet_on)
           | (apply quiet_call
              focus (
                intro WC hWC
                go_simp
                all_goals (first | rfl | exact ⟨rfl, rfl⟩)
                done)
              focus (
                intro WC hWC
                (refine (RSize_any _ ?_ WC).mono fun e w' h => ⟨h.1, h.2 ▸ hWC⟩; first | exact H1.out | exact H2.out)
                done)
              go_simp
              go_big_quiet_on)
           | (apply quiet_call
              focus (
                intro WC hWC
                go_simp
                all_goals (first | rfl | exact ⟨rfl, rfl⟩)
                done)
              focus (
                intro WC hWC
                exact (RCommon_any n.natAbs d.natAbs (abs_le H1.out) (abs_le H2.out) WC).mono fun e w' h => ⟨by first | rw [h.1, HG.out] | exact h.1, hWC.trans (h.2.mono hWC.size)⟩
                done)
              go_simp
              go_big_quiet_on)))
    refine wpQuiet_nil ?_
    intro w5 hw5
    go_wp2_with fail
    go_ret
    exact ⟨rfl, B0.trans (hw5.mono (by omega))⟩
  · rw [checkR_no (r := r) (fun h => hg1 (by rw [hg]; exact h.2.2.2.2))]
    have q : ((g : Int) == 1) = false := by simp; omega
    clear hg hg1
    obtain ⟨n, d⟩ := r
    unfold Ra.v
    simp only at *
    go_enter Try.func43, Try.ntmps43
    go_wp2_with fail
    refine abs_wp ?_
    intro W hW
    have z0 : w.heap.size < W.heap.size := by rw [hW]; simp
    have c0 : W.cell? ⟨w.heap.size, 0, none⟩ = some (.int .i64 n) := by rw [hW]; simp [go_sem]
    have c1 : W.cell? ⟨w.heap.size, 1, none⟩ = some (.int .i64 d) := by rw [hW]; simp [go_sem]
    have B0 : Below w.heap.size w W := by rw [hW]; go_grown
    clear hW
    refine wp_region_below (by kernel_rfl) (by kernel_rfl) ?_
    repeat (first
      | go_big_quiet_skip
      | (go_big_quiet_want
         first
           | (apply quiet_val
              focus (
                intro WC hWC
                obtain ⟨hcc0, hff0⟩ := bcell hWC
                go_simp
                all_goals rfl
                done)
              go_simp
              go_big_quiet_on)
           | (apply quiet_call
              focus (
                intro WC hWC
                go_simp
                all_goals (first | rfl | exact ⟨rfl, rfl⟩)
                done)
              focus (
                intro WC hWC
                (refine (RSize_any _ ?_ WC).mono fun e w' h => ⟨h.1, h.2 ▸ hWC⟩; first | exact H1.out | exact H2.out)
                done)
              go_simp
              go_big_quiet_on)
           | (apply quiet_call
              focus (
                intro WC hWC
                go_simp
                all_goals (first | rfl | exact ⟨rfl, rfl⟩)
                done)
              focus (
                intro WC hWC
                exact (RCommon_any n.natAbs d.natAbs (abs_le H1.out) (abs_le H2.out) WC).mono fun e w' h => ⟨by first | rw [h.1, HG.out] | exact h.1, hWC.trans (h.2.mono hWC.size)⟩
                done)
              go_simp
              go_big_quiet_on)))
    refine wpQuiet_nil ?_
    intro w5 hw5
    go_wp2_with fail
    go_ret
    exact ⟨rfl, B0.trans (hw5.mono (by omega))⟩



theorem mul_le {x y : Int} (h1 : -1073741824 ≤ x) (h2 : x ≤ 1073741824) (h3 : -1073741824 ≤ y) (h4 : y ≤ 1073741824) : -1152921504606846976 ≤ x * y ∧ x * y ≤ 1152921504606846976 := by
  have hx : x.natAbs ≤ 1073741824 := by omega
  have hy : y.natAbs ≤ 1073741824 := by omega
  have h : (x * y).natAbs ≤ 1073741824 * 1073741824 := by rw [Int.natAbs_mul]; exact Nat.mul_le_mul hx hy
  omega

theorem I64_of {x : Int} (h1 : -9000000000000000000 ≤ x) (h2 : x ≤ 9000000000000000000) : I64 x := by unfold I64; omega

theorem prods {a b : Ra} (ha : okR a) (hb : okR b) : ∃ P Q R T : Int, a.num * b.den = P ∧ b.num * a.den = Q ∧ a.den * b.den = R ∧ a.num * b.num = T ∧
    -1152921504606846976 ≤ P ∧ P ≤ 1152921504606846976 ∧ -1152921504606846976 ≤ Q ∧ Q ≤ 1152921504606846976 ∧ -1152921504606846976 ≤ R ∧ R ≤ 1152921504606846976 ∧ -1152921504606846976 ≤ T ∧ T ≤ 1152921504606846976 := by
  obtain ⟨a1, a2, a3, a4, _⟩ := ha
  obtain ⟨b1, b2, b3, b4, _⟩ := hb
  have h1 := mul_le (x := a.num) (y := b.den) a3 a4 (by omega) b2
  have h2 := mul_le (x := b.num) (y := a.den) b3 b4 (by omega) a2
  have h3 := mul_le (x := a.den) (y := b.den) (by omega) a2 (by omega) b2
  have h4 := mul_le (x := a.num) (y := b.num) a3 a4 b3 b4
  exact ⟨_, _, _, _, rfl, rfl, rfl, rfl, h1.1, h1.2, h2.1, h2.2, h3.1, h3.2, h4.1, h4.2⟩

def cmpP (a b : Ra) : Int × Int := if okR a ∧ okR b then (cmpI (a.num * b.den) (b.num * a.den), 0) else (0, 50)

end Go.Proofs.Ytgimpbcdgfkdmaa
