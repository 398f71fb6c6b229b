/- Check; the reference's New, Check, check. -/
import Derived.Test.YtaogcmgbmomilaaRatB
namespace Go.Proofs.Ytaogcmgbmomilaa
open Go.RowKit
set_option linter.unusedSimpArgs false
set_option linter.unusedVariables false

theorem two_boxes {w w' : World} {cs ds : Array Value} {t t' : TypeId} (h : Below (w.heap.size + 2) ((w.alloc (.cells cs t)).alloc (.cells ds t')) w') :
    (∀ i, w'.cell? ⟨w.heap.size, i, none⟩ = cs[i]?) ∧ (∀ i, w'.cell? ⟨w.heap.size + 1, i, none⟩ = ds[i]?) := by
  have h1 : Below (w.heap.size + 1) (w.alloc (.cells cs t)) w' := ((Below.refl _ _).alloc (by simp) _).trans (h.mono (by omega))
  exact ⟨(below_at w.heap.size rfl h1 (by omega)).1, (below_at (w.heap.size + 1) (by simp) h (by omega)).1⟩
theorem ab_cells {w w' : World} {a b : Ra} {t t' : TypeId} (h : Below (w.heap.size + 2) ((w.alloc (.cells #[.int .i64 a.num, .int .i64 a.den] t)).alloc (.cells #[.int .i64 b.num, .int .i64 b.den] t')) w') :
    w'.cell? ⟨w.heap.size, 0, none⟩ = some (.int .i64 a.num) ∧ w'.cell? ⟨w.heap.size, 1, none⟩ = some (.int .i64 a.den) ∧
    w'.cell? ⟨w.heap.size + 1, 0, none⟩ = some (.int .i64 b.num) ∧ w'.cell? ⟨w.heap.size + 1, 1, none⟩ = some (.int .i64 b.den) ∧
    w.heap.size < w'.heap.size ∧ w.heap.size + 1 < w'.heap.size := by
  obtain ⟨ca, cb⟩ := two_boxes h
  have hs := h.size
  simp only [World.size_alloc] at hs
  exact ⟨ca 0, ca 1, cb 0, cb 1, by omega, by omega⟩
theorem ab_size {w w' : World} {o o' : Obj} (h : Below (w.heap.size + 2) ((w.alloc o).alloc o') w') : w.heap.size + 2 ≤ w'.heap.size := by
  have hs := h.size
  simpa using hs
theorem ab_end {w w' : World} {o o' : Obj} (h : Below (w.heap.size + 2) ((w.alloc o).alloc o') w') : Below w.heap.size w w' := (((Below.refl _ _).alloc (Nat.le_refl _) _).alloc (by simp) _).trans (h.mono (by omega))

def Ra.i64 (r : Ra) : Prop := I64 r.num ∧ I64 r.den
theorem checkR_ok {r : Ra} (h : okR r) : checkR r = 0 := by simp [checkR, h]
theorem checkR_no {r : Ra} (h : ¬ okR r) : checkR r = 50 := by simp [checkR, h]
theorem checkR_zero {r : Ra} (h : checkR r = 0) : okR r := by
  unfold checkR at h
  split at h
  · assumption
  · simp at h

set_option maxHeartbeats 2000000 in
theorem Check_any (r : Ra) (hi : r.i64) (w : World) :
    Calls Try.prog 14 #[r.v] w fun e w' => e = .returned (.int .i64 (checkR r)) ∧ Below w.heap.size w w' := by
  obtain ⟨h1, h2⟩ := hi
  have H1 := Lib.hid h1
  have H2 := Lib.hid h2
  clear h1 h2
  cases b1 : decide (r.den < 1)
  rotate_left
  · rw [checkR_no (r := r) (fun h => by simp at b1; obtain ⟨p1, p2, p3, p4, p5⟩ := h; omega)]
    obtain ⟨n, d⟩ := r
    unfold Ra.v
    simp only at *
    go_enter Try.func14, Try.ntmps14
    go_wp2_with fail
    all_goals go_ret
    all_goals exact ⟨rfl, by go_grown⟩
  cases b2 : decide ((1073741824 : Int) < r.den)
  rotate_left
  · rw [checkR_no (r := r) (fun h => by simp at b2; obtain ⟨p1, p2, p3, p4, p5⟩ := h; omega)]
    obtain ⟨n, d⟩ := r
    unfold Ra.v
    simp only at *
    go_enter Try.func14, Try.ntmps14
    go_wp2_with fail
    all_goals go_ret
    all_goals exact ⟨rfl, by go_grown⟩
  cases b3 : decide (r.num < -1073741824)
  rotate_left
  · rw [checkR_no (r := r) (fun h => by simp at b3; obtain ⟨p1, p2, p3, p4, p5⟩ := h; omega)]
    obtain ⟨n, d⟩ := r
    unfold Ra.v
    simp only at *
    go_enter Try.func14, Try.ntmps14
    go_wp2_with fail
    all_goals go_ret
    all_goals exact ⟨rfl, by go_grown⟩
  cases b4 : decide ((1073741824 : Int) < r.num)
  rotate_left
  · rw [checkR_no (r := r) (fun h => by simp at b4; obtain ⟨p1, p2, p3, p4, p5⟩ := h; omega)]
    obtain ⟨n, d⟩ := r
    unfold Ra.v
    simp only at *
    go_enter Try.func14, Try.ntmps14
    go_wp2_with fail
    all_goals go_ret
    all_goals exact ⟨rfl, by go_grown⟩
  have c0 : Hid (r.num.natAbs.gcd r.den.natAbs = r.num.natAbs.gcd r.den.natAbs) := Lib.hid rfl
  obtain ⟨g, hg⟩ : ∃ g, g = r.num.natAbs.gcd r.den.natAbs := ⟨_, rfl⟩
  have HG := Lib.hid hg.symm
  by_cases hg1 : g = 1
  · rw [checkR_ok (r := r) (by simp at b1 b2 b3 b4; exact ⟨by omega, by omega, by omega, by omega, by rw [← hg, hg1]⟩)]
    have q : ((g : Int) == 1) = true := by simp [hg1]
    clear hg hg1
    obtain ⟨n, d⟩ := r
    unfold Ra.v
    simp only at *
    go_enter Try.func14, Try.ntmps14
    go_wp2_with fail
    refine (common_any n d H1.out H2.out _).mono ?_
    rw [HG.out]
    rintro e w1 ⟨rfl, hb1⟩
    go_wp2_with fail
    go_ret
    exact ⟨rfl, ((Below.refl _ _).alloc (Nat.le_refl _) _).trans (hb1.mono (by simp))⟩
  · rw [checkR_no (r := r) (fun h => hg1 (by rw [hg]; exact h.2.2.2.2))]
    have q : ((g : Int) == 1) = false := by simp; omega
    clear hg hg1
    obtain ⟨n, d⟩ := r
    unfold Ra.v
    simp only at *
    go_enter Try.func14, Try.ntmps14
    go_wp2_with fail
    refine (common_any n d H1.out H2.out _).mono ?_
    rw [HG.out]
    rintro e w1 ⟨rfl, hb1⟩
    go_wp2_with fail
    go_ret
    exact ⟨rfl, ((Below.refl _ _).alloc (Nat.le_refl _) _).trans (hb1.mono (by simp))⟩

set_option maxHeartbeats 2000000 in
theorem RCheck_any (r : Ra) (hi : r.i64) (w : World) :
    Calls Try.prog 15 #[r.v] w fun e w' => e = .returned (.int .i64 (checkR r)) ∧ Below w.heap.size w w' := by
  obtain ⟨h1, h2⟩ := hi
  have H1 := Lib.hid h1
  have H2 := Lib.hid h2
  clear h1 h2
  cases b1 : decide (r.den < 1)
  rotate_left
  · rw [checkR_no (r := r) (fun h => by simp at b1; obtain ⟨p1, p2, p3, p4, p5⟩ := h; omega)]
    obtain ⟨n, d⟩ := r
    unfold Ra.v
    simp only at *
    go_enter Try.func15, Try.ntmps15
    go_wp2_with fail
    refine abs_wp ?_
    intro W hW
    have z0 : w.heap.size < W.heap.size := by rw [hW]; simp
    have c0 : W.cell? ⟨w.heap.size, 0, none⟩ = some (.int .i64 n) := by rw [hW]; simp [go_sem]
    have c1 : W.cell? ⟨w.heap.size, 1, none⟩ = some (.int .i64 d) := by rw [hW]; simp [go_sem]
    have B0 : Below w.heap.size w W := by rw [hW]; go_grown
    clear hW
    refine wp_region_below (by kernel_rfl) (by kernel_rfl) ?_
    repeat (first
      | go_big_quiet_skip
      | (go_big_quiet_want
         first
           | (apply quiet_val
              focus (
                intro WC hWC
                obtain ⟨hcc0, hff0⟩ := bcell hWC
                go_simp
                all_goals rfl
                done)
              go_simp
              go_big_quiet_on)
           | (apply quiet_call
              focus (
                intro WC hWC
                go_simp
                all_goals (first | rfl | exact ⟨rfl, rfl⟩)
                done)
              focus (
                intro WC hWC
                (refine (RSize_any _ ?_ WC).mono fun e w' h => ⟨h.1, h.2 ▸ hWC⟩; first | exact H1.out | exact H2.out)
                done)
              go_simp
              go_big_quiet_on)
           | (apply quiet_call
              focus (
                intro WC hWC
                go_simp
                all_goals (first | rfl | exact ⟨rfl, rfl⟩)
                done)
              focus (
                intro WC hWC
                exact (RCommon_any n.natAbs d.natAbs (abs_le H1.out) (abs_le H2.out) WC).mono fun e w' h => ⟨by first | rw [h.1, HG.out] | exact h.1, hWC.trans (h.2.mono hWC.size)⟩
                done)
              go_simp
              go_big_quiet_on)))
    refine wpQuiet_nil ?_
    intro w5 hw5
    go_wp2_with fail
    go_ret
    exact ⟨rfl, B0.trans (hw5.mono (by omega))⟩
  cases b2 : decide ((1073741824 : Int) < r.den)
  rotate_left
  · rw [checkR_no (r := r) (fun h => by simp at b2; obtain ⟨p1, p2, p3, p4, p5⟩ := h; omega)]
    obtain ⟨n, d⟩ := r
    unfold Ra.v
    simp only at *
    go_enter Try.func15, Try.ntmps15
    go_wp2_with fail
    refine abs_wp ?_
    intro W hW
    have z0 : w.heap.size < W.heap.size := by rw [hW]; simp
    have c0 : W.cell? ⟨w.heap.size, 0, none⟩ = some (.int .i64 n) := by rw [hW]; simp [go_sem]
    have c1 : W.cell? ⟨w.heap.size, 1, none⟩ = some (.int .i64 d) := by rw [hW]; simp [go_sem]
    have B0 : Below w.heap.size w W := by rw [hW]; go_grown
    clear hW
    refine wp_region_below (by kernel_rfl) (by kernel_rfl) ?_
    repeat (first
      | go_big_quiet_skip
      | (go_big_quiet_want
         first
           | (apply quiet_val
              focus (
                intro WC hWC
                obtain ⟨hcc0, hff0⟩ := bcell hWC
                go_simp
                all_goals rfl
                done)
              go_simp
              go_big_quiet_on)
           | (apply quiet_call
              focus (
                intro WC hWC
                go_simp
                all_goals (first | rfl | exact ⟨rfl, rfl⟩)
                done)
              focus (
                intro WC hWC
                (refine (RSize_any _ ?_ WC).mono fun e w' h => ⟨h.1, h.2 ▸ hWC⟩; first | exact H1.out | exact H2.out)
                done)
              go_simp
              go_big_quiet_on)
           | (apply quiet_call
              focus (
                intro WC hWC
                go_simp
                all_goals (first | rfl | exact ⟨rfl, rfl⟩)
                done)
              focus (
                intro WC hWC
                exact (RCommon_any n.natAbs d.natAbs (abs_le H1.out) (abs_le H2.out) WC).mono fun e w' h => ⟨by first | rw [h.1, HG.out] | exact h.1, hWC.trans (h.2.mono hWC.size)⟩
                done)
              go_simp
              go_big_quiet_on)))
    refine wpQuiet_nil ?_
    intro w5 hw5
    go_wp2_with fail
    go_ret
    exact ⟨rfl, B0.trans (hw5.mono (by omega))⟩
  cases b3 : decide (r.num < -1073741824)
  rotate_left
  · rw [checkR_no (r := r) (fun h => by simp at b3; obtain ⟨p1, p2, p3, p4, p5⟩ := h; omega)]
    obtain ⟨n, d⟩ := r
    unfold Ra.v
    simp only at *
    go_enter Try.func15, Try.ntmps15
    go_wp2_with fail
    refine abs_wp ?_
    intro W hW
    have z0 : w.heap.size < W.heap.size := by rw [hW]; simp
    have c0 : W.cell? ⟨w.heap.size, 0, none⟩ = some (.int .i64 n) := by rw [hW]; simp [go_sem]
    have c1 : W.cell? ⟨w.heap.size, 1, none⟩ = some (.int .i64 d) := by rw [hW]; simp [go_sem]
    have B0 : Below w.heap.size w W := by rw [hW]; go_grown
    clear hW
    refine wp_region_below (by kernel_rfl) (by kernel_rfl) ?_
    repeat (first
      | go_big_quiet_skip
      | (go_big_quiet_want
         first
           | (apply quiet_val
              focus (
                intro WC hWC
                obtain ⟨hcc0, hff0⟩ := bcell hWC
                go_simp
                all_goals rfl
                done)
              go_simp
              go_big_quiet_on)
           | (apply quiet_call
              focus (
                intro WC hWC
                go_simp
                all_goals (first | rfl | exact ⟨rfl, rfl⟩)
                done)
              focus (
                intro WC hWC
                (refine (RSize_any _ ?_ WC).mono fun e w' h => ⟨h.1, h.2 ▸ hWC⟩; first | exact H1.out | exact H2.out)
                done)
              go_simp
              go_big_quiet_on)
           | (apply quiet_call
              focus (
                intro WC hWC
                go_simp
                all_goals (first | rfl | exact ⟨rfl, rfl⟩)
                done)
              focus (
                intro WC hWC
                exact (RCommon_any n.natAbs d.natAbs (abs_le H1.out) (abs_le H2.out) WC).mono fun e w' h => ⟨by first | rw [h.1, HG.out] | exact h.1, hWC.trans (h.2.mono hWC.size)⟩
                done)
              go_simp
              go_big_quiet_on)))
    refine wpQuiet_nil ?_
    intro w5 hw5
    go_wp2_with fail
    go_ret
    exact ⟨rfl, B0.trans (hw5.mono (by omega))⟩
  cases b4 : decide ((1073741824 : Int) < r.num)
  rotate_left
  · rw [checkR_no (r := r) (fun h => by simp at b4; obtain ⟨p1, p2, p3, p4, p5⟩ := h; omega)]
    obtain ⟨n, d⟩ := r
    unfold Ra.v
    simp only at *
    go_enter Try.func15, Try.ntmps15
    go_wp2_with fail
    refine abs_wp ?_
    intro W hW
    have z0 : w.heap.size < W.heap.size := by rw [hW]; simp
    have c0 : W.cell? ⟨w.heap.size, 0, none⟩ = some (.int .i64 n) := by rw [hW]; simp [go_sem]
    have c1 : W.cell? ⟨w.heap.size, 1, none⟩ = some (.int .i64 d) := by rw [hW]; simp [go_sem]
    have B0 : Below w.heap.size w W := by rw [hW]; go_grown
    clear hW
    refine wp_region_below (by kernel_rfl) (by kernel_rfl) ?_
    repeat (first
      | go_big_quiet_skip
      | (go_big_quiet_want
         first
           | (apply quiet_val
              focus (
                intro WC hWC
                obtain ⟨hcc0, hff0⟩ := bcell hWC
                go_simp
                all_goals rfl
                done)
              go_simp
              go_big_quiet_on)
           | (apply quiet_call
              focus (
                intro WC hWC
                go_simp
                all_goals (first | rfl | exact ⟨rfl, rfl⟩)
                done)
              focus (
                intro WC hWC
                (refine (RSize_any _ ?_ WC).mono fun e w' h => ⟨h.1, h.2 ▸ hWC⟩; first | exact H1.out | exact H2.out)
                done)
              go_simp
              go_big_quiet_on)
           | (apply quiet_call
              focus (
                intro WC hWC
                go_simp
                all_goals (first | rfl | exact ⟨rfl, rfl⟩)
                done)
              focus (
                intro WC hWC
                exact (RCommon_any n.natAbs d.natAbs (abs_le H1.out) (abs_le H2.out) WC).mono fun e w' h => ⟨by first | rw [h.1, HG.out] | exact h.1, hWC.trans (h.2.mono hWC.size)⟩
                done)
              go_simp
              go_big_quiet_on)))
    refine wpQuiet_nil ?_
    intro w5 hw5
    go_wp2_with fail
    go_ret
    exact ⟨rfl, B0.trans (hw5.mono (by omega))⟩
  have c0 : Hid (r.num.natAbs.gcd r.den.natAbs = r.num.natAbs.gcd r.den.natAbs) := Lib.hid rfl
  obtain ⟨g, hg⟩ : ∃ g, g = r.num.natAbs.gcd r.den.natAbs := ⟨_, rfl⟩
  have HG := Lib.hid hg.symm
  by_cases hg1 : g = 1
  · rw [checkR_ok (r := r) (by simp at b1 b2 b3 b4; exact ⟨by omega, by omega, by omega, by omega, by rw [← hg, hg1]⟩)]
    have q : ((g : Int) == 1) = true := by simp [hg1]
    clear hg hg1
    obtain ⟨n, d⟩ := r
    unfold Ra.v
    simp only at *
    go_enter Try.func15, Try.ntmps15
    go_wp2_with fail
    refine abs_wp ?_
    intro W hW
    have z0 : w.heap.size < W.heap.size := by rw [hW]; simp
    have c0 : W.cell? ⟨w.heap.size, 0, none⟩ = some (.int .i64 n) := by rw [hW]; simp [go_sem]
    have c1 : W.cell? ⟨w.heap.size, 1, none⟩ = some (.int .i64 d) := by rw [hW]; simp [go_sem]
    have B0 : Below w.heap.size w W := by rw [hW]; go_grown
    clear hW
    refine wp_region_below (by kernel_rfl) (by kernel_rfl) ?_
    repeat (first
      | go_big_quiet_skip
      | (go_big_quiet_want
         first
           | (apply quiet_val
              focus (
                intro WC hWC
                obtain ⟨hcc0, hff0⟩ := bcell hWC
                go_simp
                all_goals rfl
                done)
              go_simp
              go_big_quiet_on)
           | (apply quiet_call
              focus (
                intro WC hWC
                go_simp
                all_goals (first | rfl | exact ⟨rfl, rfl⟩)
                done)
              focus (
                intro WC hWC
                (refine (RSize_any _ ?_ WC).mono fun e w' h => ⟨h.1, h.2 ▸ hWC⟩; first | exact H1.out | exact H2.out)
                done)
              go_simp
              go_big_quiet_on)
           | (apply quiet_call
              focus (
                intro WC hWC
                go_simp
                all_goals (first | rfl | exact ⟨rfl, rfl⟩)
                done)
              focus (
                intro WC hWC
                exact (RCommon_any n.natAbs d.natAbs (abs_le H1.out) (abs_le H2.out) WC).mono fun e w' h => ⟨by first | rw [h.1, HG.out] | exact h.1, hWC.trans (h.2.mono hWC.size)⟩
                done)
              go_simp
              go_big_quiet_on)))
    refine wpQuiet_nil ?_
    intro w5 hw5
    go_wp2_with fail
    go_ret
    exact ⟨rfl, B0.trans (hw5.mono (by omega))⟩
  · rw [checkR_no (r := r) (fun h => hg1 (by rw [hg]; exact h.2.2.2.2))]
    have q : ((g : Int) == 1) = false := by simp; omega
    clear hg hg1
    obtain ⟨n, d⟩ := r
    unfold Ra.v
    simp only at *
    go_enter Try.func15, Try.ntmps15
    go_wp2_with fail
    refine abs_wp ?_
    intro W hW
    have z0 : w.heap.size < W.heap.size := by rw [hW]; simp
    have c0 : W.cell? ⟨w.heap.size, 0, none⟩ = some (.int .i64 n) := by rw [hW]; simp [go_sem]
    have c1 : W.cell? ⟨w.heap.size, 1, none⟩ = some (.int .i64 d) := by rw [hW]; simp [go_sem]
    have B0 : Below w.heap.size w W := by rw [hW]; go_grown
    clear hW
    refine wp_region_below (by kernel_rfl) (by kernel_rfl) ?_
    repeat (first
      | go_big_quiet_skip
      | (go_big_quiet_want
         first
           | (apply quiet_val
              focus (
                intro WC hWC
                obtain ⟨hcc0, hff0⟩ := bcell hWC
                go_simp
                all_goals rfl
                done)
              go_simp
              go_big_quiet_on)
           | (apply quiet_call
              focus (
                intro WC hWC
                go_simp
                all_goals (first | rfl | exact ⟨rfl, rfl⟩)
                done)
              focus (
                intro WC hWC
                (refine (RSize_any _ ?_ WC).mono fun e w' h => ⟨h.1, h.2 ▸ hWC⟩; first | exact H1.out | exact H2.out)
                done)
              go_simp
              go_big_quiet_on)
           | (apply quiet_call
              focus (
                intro WC hWC
                go_simp
                all_goals (first | rfl | exact ⟨rfl, rfl⟩)
                done)
              focus (
                intro WC hWC
                exact (RCommon_any n.natAbs d.natAbs (abs_le H1.out) (abs_le H2.out) WC).mono fun e w' h => ⟨by first | rw [h.1, HG.out] | exact h.1, hWC.trans (h.2.mono hWC.size)⟩
                done)
              go_simp
              go_big_quiet_on)))
    refine wpQuiet_nil ?_
    intro w5 hw5
    go_wp2_with fail
    go_ret
    exact ⟨rfl, B0.trans (hw5.mono (by omega))⟩


set_option maxHeartbeats 2000000 in
theorem rcheck_any (a b : Ra) (ha : a.i64) (hb : b.i64) (w : World) :
    Calls Try.prog 31 #[a.v, b.v] w fun e w' => e = .returned (.int .i64 (if checkR a = 0 then checkR b else checkR a)) ∧ Below w.heap.size w w' := by
  have HA := Lib.hid ha
  have HB := Lib.hid hb
  clear ha hb
  by_cases h0 : checkR a = 0
  · rw [if_pos h0]
    have H0 := Lib.hid h0
    clear h0
    unfold Ra.v
    go_enter Try.func31, Try.ntmps31
    go_wp2_with fail
    refine (RCheck_any a HA.out _).mono ?_
    rw [H0.out]
    rintro e w1 ⟨rfl, hb1⟩
    have G1 : Below (w.heap.size + 2) _ w1 := hb1.mono (by simp)
    clear hb1
    obtain ⟨a0, a1, b0, b1, r0, r1⟩ := ab_cells (a := a) (b := b) G1
    go_wp2_with fail
    refine (RCheck_any b HB.out _).mono ?_
    rintro e w2 ⟨rfl, hb2⟩
    go_wp2_with fail
    go_ret
    exact ⟨rfl, ab_end (G1.trans (hb2.mono (ab_size G1)))⟩
  · rw [if_neg h0]
    have q : (checkR a == 0) = false := by simpa using h0
    clear h0
    unfold Ra.v
    go_enter Try.func31, Try.ntmps31
    go_wp2_with fail
    refine (RCheck_any a HA.out _).mono ?_
    rintro e w1 ⟨rfl, hb1⟩
    have G1 : Below (w.heap.size + 2) _ w1 := hb1.mono (by simp)
    go_wp2_with fail
    go_ret
    exact ⟨rfl, ab_end G1⟩

set_option maxHeartbeats 2000000 in
theorem RNew_any (num den : Int) (h1 : I64 num) (h2 : I64 den) (w : World) :
    Calls Try.prog 13 #[.int .i64 num, .int .i64 den] w fun e w' => e = .returned (.tuple #[(newP num den).1.v, .int .i64 (newP num den).2]) ∧ Below w.heap.size w w' := by
  have H1 := Lib.hid h1
  have H2 := Lib.hid h2
  clear h1 h2
  by_cases hd : den = 0
  · subst hd
    rw [newP_zero]
    clear H1 H2
    go_enter Try.func13, Try.ntmps13
    go_wp2_with fail
    exact bodyPost_ret (v := .tuple #[.agg #[.int .i64 0, .int .i64 0], .int .i64 1]) (by simp [results, Try.results13, go_sem]) rfl ⟨rfl, by go_grown⟩
  · obtain ⟨G, N, D, hG, hG0, hN, hD, qN, qD, bN, bD⟩ := parts num den H1.out H2.out hd
    rw [newP_parts hd hG hN hD]
    have HG := Lib.hid hG
    have hd0 : (den == 0) = false := by simpa using hd
    have hG1 : ¬ G = 0 := by omega
    have wN : IntKind.u64.wrap (N : Int) = N := wrap_u64 bN
    have wD : IntKind.u64.wrap (D : Int) = D := wrap_u64 bD
    clear hG hN hD hd
    by_cases hl : 1073741824 < N ∨ 1073741824 < D
    · rw [if_pos hl]
      have hs4 : (¬ (1073741824 : Int) < (N : Int) ∧ (1073741824 : Int) < (D : Int)) ∨ (1073741824 : Int) < (N : Int) := by omega
      rcases hs4 with ⟨s1, s2⟩ | s1
      · have d1 : decide ((1073741824 : Int) < (N : Int)) = false := by simp; omega
        have d2 : decide ((1073741824 : Int) < (D : Int)) = true := by simp; omega
        clear s1 s2 hl
        go_enter Try.func13, Try.ntmps13
        go_wp2_with fail
        refine (RSize_any num H1.out _).mono ?_
        rintro e w9 ⟨rfl, rfl⟩
        go_wp2_with fail
        refine (RSize_any den H2.out _).mono ?_
        rintro e w9 ⟨rfl, rfl⟩
        go_wp2_with fail
        refine (RCommon_any num.natAbs den.natAbs (abs_le H1.out) (abs_le H2.out) _).mono ?_
        rw [← HG.out]
        rintro e w1 ⟨rfl, hb1⟩
        obtain ⟨lc, lf, hlt1⟩ := below_at w.heap.size rfl hb1 (by simp)
        have l0 := lc 0
        have l1 := lc 1
        have lf0 := lf 0
        have lf1 := lf 1
        simp at l0 l1
        have B1 : Below w.heap.size w w1 := ((Below.refl _ _).alloc (Nat.le_refl _) _).trans (hb1.mono (by simp))
        clear hb1 lc lf
        go_wp2_with fail
        refine (RSize_any num H1.out _).mono ?_
        rintro e w9 ⟨rfl, rfl⟩
        go_wp2_with fail
        refine (RSize_any den H2.out _).mono ?_
        rintro e w9 ⟨rfl, rfl⟩
        go_wp2_with fail
        exact bodyPost_ret (v := .tuple #[.agg #[.int .i64 0, .int .i64 0], .int .i64 2]) (by simp [results, Try.results13, go_sem, l0, l1, hlt1]) rfl ⟨rfl, by go_grown⟩
      · have d1 : decide ((1073741824 : Int) < (N : Int)) = true := by simp; omega
        clear s1 hl
        go_enter Try.func13, Try.ntmps13
        go_wp2_with fail
        refine (RSize_any num H1.out _).mono ?_
        rintro e w9 ⟨rfl, rfl⟩
        go_wp2_with fail
        refine (RSize_any den H2.out _).mono ?_
        rintro e w9 ⟨rfl, rfl⟩
        go_wp2_with fail
        refine (RCommon_any num.natAbs den.natAbs (abs_le H1.out) (abs_le H2.out) _).mono ?_
        rw [← HG.out]
        rintro e w1 ⟨rfl, hb1⟩
        obtain ⟨lc, lf, hlt1⟩ := below_at w.heap.size rfl hb1 (by simp)
        have l0 := lc 0
        have l1 := lc 1
        have lf0 := lf 0
        have lf1 := lf 1
        simp at l0 l1
        have B1 : Below w.heap.size w w1 := ((Below.refl _ _).alloc (Nat.le_refl _) _).trans (hb1.mono (by simp))
        clear hb1 lc lf
        go_wp2_with fail
        refine (RSize_any num H1.out _).mono ?_
        rintro e w9 ⟨rfl, rfl⟩
        go_wp2_with fail
        refine (RSize_any den H2.out _).mono ?_
        rintro e w9 ⟨rfl, rfl⟩
        go_wp2_with fail
        exact bodyPost_ret (v := .tuple #[.agg #[.int .i64 0, .int .i64 0], .int .i64 2]) (by simp [results, Try.results13, go_sem, l0, l1, hlt1]) rfl ⟨rfl, by go_grown⟩
    · rw [if_neg hl]
      have bN2 : N ≤ 1073741824 := by omega
      have bD2 : D ≤ 1073741824 := by omega
      have d1 : decide ((1073741824 : Int) < (N : Int)) = false := by simp; omega
      have d2 : decide ((1073741824 : Int) < (D : Int)) = false := by simp; omega
      clear hl
      have hs4 : (num < 0 ∧ den < 0) ∨ (¬ num < 0 ∧ ¬ den < 0) ∨ (num < 0 ∧ ¬ den < 0) ∨ (¬ num < 0 ∧ den < 0) := by omega
      rcases hs4 with ⟨s1, s2⟩ | ⟨s1, s2⟩ | ⟨s1, s2⟩ | ⟨s1, s2⟩
      · simp only [s1, s2, decide_true, decide_false, if_true, if_false, reduceCtorEq]
        have d3 : decide (num < 0) = true := by simp [s1]
        have d4 : decide (den < 0) = true := by simp [s2]
        clear s1 s2
        go_enter Try.func13, Try.ntmps13
        go_wp2_with fail
        refine (RSize_any num H1.out _).mono ?_
        rintro e w9 ⟨rfl, rfl⟩
        go_wp2_with fail
        refine (RSize_any den H2.out _).mono ?_
        rintro e w9 ⟨rfl, rfl⟩
        go_wp2_with fail
        refine (RCommon_any num.natAbs den.natAbs (abs_le H1.out) (abs_le H2.out) _).mono ?_
        rw [← HG.out]
        rintro e w1 ⟨rfl, hb1⟩
        obtain ⟨lc, lf, hlt1⟩ := below_at w.heap.size rfl hb1 (by simp)
        have l0 := lc 0
        have l1 := lc 1
        have lf0 := lf 0
        have lf1 := lf 1
        simp at l0 l1
        have B1 : Below w.heap.size w w1 := ((Below.refl _ _).alloc (Nat.le_refl _) _).trans (hb1.mono (by simp))
        clear hb1 lc lf
        go_wp2_with fail
        refine (RSize_any num H1.out _).mono ?_
        rintro e w9 ⟨rfl, rfl⟩
        go_wp2_with fail
        refine (RSize_any den H2.out _).mono ?_
        rintro e w9 ⟨rfl, rfl⟩
        go_wp2_with fail
        have hc := setB (setA ⟨l0, l1⟩ (.int .i64 (N : Int))) (.int .i64 (D : Int))
        exact bodyPost_ret (v := .tuple #[.agg #[.int .i64 (N : Int), .int .i64 (D : Int)], .int .i64 0]) (by simp [results, Try.results13, go_sem, hc.1, hc.2, hlt1]) rfl ⟨rfl, by go_grown⟩
      · simp only [s1, s2, decide_true, decide_false, if_true, if_false, reduceCtorEq]
        have d3 : decide (num < 0) = false := by simp [s1]
        have d4 : decide (den < 0) = false := by simp [s2]
        clear s1 s2
        go_enter Try.func13, Try.ntmps13
        go_wp2_with fail
        refine (RSize_any num H1.out _).mono ?_
        rintro e w9 ⟨rfl, rfl⟩
        go_wp2_with fail
        refine (RSize_any den H2.out _).mono ?_
        rintro e w9 ⟨rfl, rfl⟩
        go_wp2_with fail
        refine (RCommon_any num.natAbs den.natAbs (abs_le H1.out) (abs_le H2.out) _).mono ?_
        rw [← HG.out]
        rintro e w1 ⟨rfl, hb1⟩
        obtain ⟨lc, lf, hlt1⟩ := below_at w.heap.size rfl hb1 (by simp)
        have l0 := lc 0
        have l1 := lc 1
        have lf0 := lf 0
        have lf1 := lf 1
        simp at l0 l1
        have B1 : Below w.heap.size w w1 := ((Below.refl _ _).alloc (Nat.le_refl _) _).trans (hb1.mono (by simp))
        clear hb1 lc lf
        go_wp2_with fail
        refine (RSize_any num H1.out _).mono ?_
        rintro e w9 ⟨rfl, rfl⟩
        go_wp2_with fail
        refine (RSize_any den H2.out _).mono ?_
        rintro e w9 ⟨rfl, rfl⟩
        go_wp2_with fail
        have hc := setB (setA ⟨l0, l1⟩ (.int .i64 (N : Int))) (.int .i64 (D : Int))
        exact bodyPost_ret (v := .tuple #[.agg #[.int .i64 (N : Int), .int .i64 (D : Int)], .int .i64 0]) (by simp [results, Try.results13, go_sem, hc.1, hc.2, hlt1]) rfl ⟨rfl, by go_grown⟩
      · simp only [s1, s2, decide_true, decide_false, if_true, if_false, reduceCtorEq]
        have d3 : decide (num < 0) = true := by simp [s1]
        have d4 : decide (den < 0) = false := by simp [s2]
        clear s1 s2
        go_enter Try.func13, Try.ntmps13
        go_wp2_with fail
        refine (RSize_any num H1.out _).mono ?_
        rintro e w9 ⟨rfl, rfl⟩
        go_wp2_with fail
        refine (RSize_any den H2.out _).mono ?_
        rintro e w9 ⟨rfl, rfl⟩
        go_wp2_with fail
        refine (RCommon_any num.natAbs den.natAbs (abs_le H1.out) (abs_le H2.out) _).mono ?_
        rw [← HG.out]
        rintro e w1 ⟨rfl, hb1⟩
        obtain ⟨lc, lf, hlt1⟩ := below_at w.heap.size rfl hb1 (by simp)
        have l0 := lc 0
        have l1 := lc 1
        have lf0 := lf 0
        have lf1 := lf 1
        simp at l0 l1
        have B1 : Below w.heap.size w w1 := ((Below.refl _ _).alloc (Nat.le_refl _) _).trans (hb1.mono (by simp))
        clear hb1 lc lf
        go_wp2_with fail
        refine (RSize_any num H1.out _).mono ?_
        rintro e w9 ⟨rfl, rfl⟩
        go_wp2_with fail
        refine (RSize_any den H2.out _).mono ?_
        rintro e w9 ⟨rfl, rfl⟩
        go_wp2_with fail
        have hc := setB (setA ⟨l0, l1⟩ (.int .i64 (-(N : Int)))) (.int .i64 (D : Int))
        exact bodyPost_ret (v := .tuple #[.agg #[.int .i64 (-(N : Int)), .int .i64 (D : Int)], .int .i64 0]) (by simp [results, Try.results13, go_sem, hc.1, hc.2, hlt1]) rfl ⟨rfl, by go_grown⟩
      · simp only [s1, s2, decide_true, decide_false, if_true, if_false, reduceCtorEq]
        have d3 : decide (num < 0) = false := by simp [s1]
        have d4 : decide (den < 0) = true := by simp [s2]
        clear s1 s2
        go_enter Try.func13, Try.ntmps13
        go_wp2_with fail
        refine (RSize_any num H1.out _).mono ?_
        rintro e w9 ⟨rfl, rfl⟩
        go_wp2_with fail
        refine (RSize_any den H2.out _).mono ?_
        rintro e w9 ⟨rfl, rfl⟩
        go_wp2_with fail
        refine (RCommon_any num.natAbs den.natAbs (abs_le H1.out) (abs_le H2.out) _).mono ?_
        rw [← HG.out]
        rintro e w1 ⟨rfl, hb1⟩
        obtain ⟨lc, lf, hlt1⟩ := below_at w.heap.size rfl hb1 (by simp)
        have l0 := lc 0
        have l1 := lc 1
        have lf0 := lf 0
        have lf1 := lf 1
        simp at l0 l1
        have B1 : Below w.heap.size w w1 := ((Below.refl _ _).alloc (Nat.le_refl _) _).trans (hb1.mono (by simp))
        clear hb1 lc lf
        go_wp2_with fail
        refine (RSize_any num H1.out _).mono ?_
        rintro e w9 ⟨rfl, rfl⟩
        go_wp2_with fail
        refine (RSize_any den H2.out _).mono ?_
        rintro e w9 ⟨rfl, rfl⟩
        go_wp2_with fail
        have hc := setB (setA ⟨l0, l1⟩ (.int .i64 (-(N : Int)))) (.int .i64 (D : Int))
        exact bodyPost_ret (v := .tuple #[.agg #[.int .i64 (-(N : Int)), .int .i64 (D : Int)], .int .i64 0]) (by simp [results, Try.results13, go_sem, hc.1, hc.2, hlt1]) rfl ⟨rfl, by go_grown⟩
end Go.Proofs.Ytaogcmgbmomilaa
