/- Of chapter 5: Check, Compare, the reference's New and Check. -/
import Derived.Test.YtimaealmmjdjkaaRatB
import Derived.LoopN
import Derived.Test.YtimaealmmjdjkaaSeq
namespace Go.Proofs.Ytimaealmmjdjkaa
open Go.RowKit Go.Shelf
set_option linter.unusedSimpArgs false
set_option linter.unusedVariables false

theorem two_boxes {w w' : World} {cs ds : Array Value} {t t' : TypeId} (h : Below (w.heap.size + 2) ((w.alloc (.cells cs t)).alloc (.cells ds t')) w') :
    (∀ i, w'.cell? ⟨w.heap.size, i, none⟩ = cs[i]?) ∧ (∀ i, w'.cell? ⟨w.heap.size + 1, i, none⟩ = ds[i]?) := by
  have h1 : Below (w.heap.size + 1) (w.alloc (.cells cs t)) w' := ((Below.refl _ _).alloc (by simp) _).trans (h.mono (by omega))
  exact ⟨(below_at w.heap.size rfl h1 (by omega)).1, (below_at (w.heap.size + 1) (by simp) h (by omega)).1⟩
theorem ab_cells {w w' : World} {a b : Ra} {t t' : TypeId} (h : Below (w.heap.size + 2) ((w.alloc (.cells #[.int .i64 a.num, .int .i64 a.den] t)).alloc (.cells #[.int .i64 b.num, .int .i64 b.den] t')) w') :
    w'.cell? ⟨w.heap.size, 0, none⟩ = some (.int .i64 a.num) ∧ w'.cell? ⟨w.heap.size, 1, none⟩ = some (.int .i64 a.den) ∧
    w'.cell? ⟨w.heap.size + 1, 0, none⟩ = some (.int .i64 b.num) ∧ w'.cell? ⟨w.heap.size + 1, 1, none⟩ = some (.int .i64 b.den) ∧
    w.heap.size < w'.heap.size ∧ w.heap.size + 1 < w'.heap.size := by
  obtain ⟨ca, cb⟩ := two_boxes h
  have hs := h.size
  simp only [World.size_alloc] at hs
  exact ⟨ca 0, ca 1, cb 0, cb 1, by omega, by omega⟩
theorem ab_size {w w' : World} {o o' : Obj} (h : Below (w.heap.size + 2) ((w.alloc o).alloc o') w') : w.heap.size + 2 ≤ w'.heap.size := by
  have hs := h.size
  simpa using hs
theorem ab_end {w w' : World} {o o' : Obj} (h : Below (w.heap.size + 2) ((w.alloc o).alloc o') w') : Below w.heap.size w w' := (((Below.refl _ _).alloc (Nat.le_refl _) _).alloc (by simp) _).trans (h.mono (by omega))

def Ra.i64 (r : Ra) : Prop := I64 r.num ∧ I64 r.den
theorem checkR_ok {r : Ra} (h : okR r) : checkR r = 0 := by simp [checkR, h]
theorem checkR_no {r : Ra} (h : ¬ okR r) : checkR r = 50 := by simp [checkR, h]
theorem checkR_zero {r : Ra} (h : checkR r = 0) : okR r := by
  unfold checkR at h
  split at h
  · assumption
  · simp at h

set_option maxHeartbeats 2000000 in
theorem Check_any (r : Ra) (hi : r.i64) (w : World) :
    Calls Try.prog 34 #[r.v] w fun e w' => e = .returned (.int .i64 (checkR r)) ∧ Below w.heap.size w w' := by
  obtain ⟨h1, h2⟩ := hi
  have H1 := Lib.hid h1
  have H2 := Lib.hid h2
  clear h1 h2
  cases b1 : decide (r.den < 1)
  rotate_left
  · rw [checkR_no (r := r) (fun h => by simp at b1; obtain ⟨p1, p2, p3, p4, p5⟩ := h; omega)]
    obtain ⟨n, d⟩ := r
    unfold Ra.v
    simp only at *
    go_enter Try.func34, Try.ntmps34
    go_wp2_with fail
    all_goals go_ret
    all_goals exact ⟨rfl, by go_grown⟩
  cases b2 : decide ((1073741824 : Int) < r.den)
  rotate_left
  · rw [checkR_no (r := r) (fun h => by simp at b2; obtain ⟨p1, p2, p3, p4, p5⟩ := h; omega)]
    obtain ⟨n, d⟩ := r
    unfold Ra.v
    simp only at *
    go_enter Try.func34, Try.ntmps34
    go_wp2_with fail
    all_goals go_ret
    all_goals exact ⟨rfl, by go_grown⟩
  cases b3 : decide (r.num < -1073741824)
  rotate_left
  · rw [checkR_no (r := r) (fun h => by simp at b3; obtain ⟨p1, p2, p3, p4, p5⟩ := h; omega)]
    obtain ⟨n, d⟩ := r
    unfold Ra.v
    simp only at *
    go_enter Try.func34, Try.ntmps34
    go_wp2_with fail
    all_goals go_ret
    all_goals exact ⟨rfl, by go_grown⟩
  cases b4 : decide ((1073741824 : Int) < r.num)
  rotate_left
  · rw [checkR_no (r := r) (fun h => by simp at b4; obtain ⟨p1, p2, p3, p4, p5⟩ := h; omega)]
    obtain ⟨n, d⟩ := r
    unfold Ra.v
    simp only at *
    go_enter Try.func34, Try.ntmps34
    go_wp2_with fail
    all_goals go_ret
    all_goals exact ⟨rfl, by go_grown⟩
  have c0 : Hid (r.num.natAbs.gcd r.den.natAbs = r.num.natAbs.gcd r.den.natAbs) := Lib.hid rfl
  obtain ⟨g, hg⟩ : ∃ g, g = r.num.natAbs.gcd r.den.natAbs := ⟨_, rfl⟩
  have HG := Lib.hid hg.symm
  by_cases hg1 : g = 1
  · rw [checkR_ok (r := r) (by simp at b1 b2 b3 b4; exact ⟨by omega, by omega, by omega, by omega, by rw [← hg, hg1]⟩)]
    have q : ((g : Int) == 1) = true := by simp [hg1]
    clear hg hg1
    obtain ⟨n, d⟩ := r
    unfold Ra.v
    simp only at *
    go_enter Try.func34, Try.ntmps34
    go_wp2_with fail
    refine (common_any n d H1.out H2.out _).mono ?_
    rw [HG.out]
    rintro e w1 ⟨rfl, hb1⟩
    go_wp2_with fail
    go_ret
    exact ⟨rfl, ((Below.refl _ _).alloc (Nat.le_refl _) _).trans (hb1.mono (by simp))⟩
  · rw [checkR_no (r := r) (fun h => hg1 (by rw [hg]; exact h.2.2.2.2))]
    have q : ((g : Int) == 1) = false := by simp; omega
    clear hg hg1
    obtain ⟨n, d⟩ := r
    unfold Ra.v
    simp only at *
    go_enter Try.func34, Try.ntmps34
    go_wp2_with fail
    refine (common_any n d H1.out H2.out _).mono ?_
    rw [HG.out]
    rintro e w1 ⟨rfl, hb1⟩
    go_wp2_with fail
    go_ret
    exact ⟨rfl, ((Below.refl _ _).alloc (Nat.le_refl _) _).trans (hb1.mono (by simp))⟩

set_option maxHeartbeats 2000000 in
theorem RRaCheck_any (r : Ra) (hi : r.i64) (w : World) :
    Calls Try.prog 35 #[r.v] w fun e w' => e = .returned (.int .i64 (checkR r)) ∧ Below w.heap.size w w' := by
  obtain ⟨h1, h2⟩ := hi
  have H1 := Lib.hid h1
  have H2 := Lib.hid h2
  clear h1 h2
  cases b1 : decide (r.den < 1)
  rotate_left
  · rw [checkR_no (r := r) (fun h => by simp at b1; obtain ⟨p1, p2, p3, p4, p5⟩ := h; omega)]
    obtain ⟨n, d⟩ := r
    unfold Ra.v
    simp only at *
    go_enter Try.func35, Try.ntmps35
    go_wp2_with fail
    refine abs_wp ?_
    intro W hW
    have z0 : w.heap.size < W.heap.size := by rw [hW]; simp
    have c0 : W.cell? ⟨w.heap.size, 0, none⟩ = some (.int .i64 n) := by rw [hW]; simp [go_sem]
    have c1 : W.cell? ⟨w.heap.size, 1, none⟩ = some (.int .i64 d) := by rw [hW]; simp [go_sem]
    have B0 : Below w.heap.size w W := by rw [hW]; go_grown
    clear hW
    refine wp_region_below (by kernel_rfl) (by kernel_rfl) ?_
    repeat (first
      | go_big_quiet_skip
      | (go_big_quiet_want
         first
           | (apply quiet_val
              focus (
                intro WC hWC
                obtain ⟨hcc0, hff0⟩ := bcell hWC
                go_simp
                all_goals rfl
                done)
              go_simp
              go_big_quiet_on)
           | (apply quiet_call
              focus (
                intro WC hWC
                go_simp
                all_goals (first | rfl | exact ⟨rfl, rfl⟩)
                done)
              focus (
                intro WC hWC
                (refine (RSize_any _ ?_ WC).mono fun e w' h => ⟨h.1, h.2 ▸ hWC⟩; first | exact H1.out | exact H2.out)
                done)
              go_simp
              go_big_quiet_on)
           | (apply quiet_call
              focus (
                intro WC hWC
                go_simp
                all_goals (first | rfl | exact ⟨rfl, rfl⟩)
                done)
              focus (
                intro WC hWC
                exact (RCommon_any n.natAbs d.natAbs (abs_le H1.out) (abs_le H2.out) WC).mono fun e w' h => ⟨by first | rw [h.1, HG.out] | exact h.1, hWC.trans (h.2.mono hWC.size)⟩
                done)
              go_simp
              go_big_quiet_on)))
    refine wpQuiet_nil ?_
    intro w5 hw5
    go_wp2_with fail
    go_ret
    exact ⟨rfl, B0.trans (hw5.mono (by omega))⟩
  cases b2 : decide ((1073741824 : Int) < r.den)
  rotate_left
  · rw [checkR_no (r := r) (fun h => by simp at b2; obtain ⟨p1, p2, p3, p4, p5⟩ := h; omega)]
    obtain ⟨n, d⟩ := r
    unfold Ra.v
    simp only at *
    go_enter Try.func35, Try.ntmps35
    go_wp2_with fail
    refine abs_wp ?_
    intro W hW
    have z0 : w.heap.size < W.heap.size := by rw [hW]; simp
    have c0 : W.cell? ⟨w.heap.size, 0, none⟩ = some (.int .i64 n) := by rw [hW]; simp [go_sem]
    have c1 : W.cell? ⟨w.heap.size, 1, none⟩ = some (.int .i64 d) := by rw [hW]; simp [go_sem]
    have B0 : Below w.heap.size w W := by rw [hW]; go_grown
    clear hW
    refine wp_region_below (by kernel_rfl) (by kernel_rfl) ?_
    repeat (first
      | go_big_quiet_skip
      | (go_big_quiet_want
         first
           | (apply quiet_val
              focus (
                intro WC hWC
                obtain ⟨hcc0, hff0⟩ := bcell hWC
                go_simp
                all_goals rfl
                done)
              go_simp
              go_big_quiet_on)
           | (apply quiet_call
              focus (
                intro WC hWC
                go_simp
                all_goals (first | rfl | exact ⟨rfl, rfl⟩)
                done)
              focus (
                intro WC hWC
                (refine (RSize_any _ ?_ WC).mono fun e w' h => ⟨h.1, h.2 ▸ hWC⟩; first | exact H1.out | exact H2.out)
                done)
              go_simp
              go_big_quiet_on)
           | (apply quiet_call
              focus (
                intro WC hWC
                go_simp
                all_goals (first | rfl | exact ⟨rfl, rfl⟩)
                done)
              focus (
                intro WC hWC
                exact (RCommon_any n.natAbs d.natAbs (abs_le H1.out) (abs_le H2.out) WC).mono fun e w' h => ⟨by first | rw [h.1, HG.out] | exact h.1, hWC.trans (h.2.mono hWC.size)⟩
                done)
              go_simp
              go_big_quiet_on)))
    refine wpQuiet_nil ?_
    intro w5 hw5
    go_wp2_with fail
    go_ret
    exact ⟨rfl, B0.trans (hw5.mono (by omega))⟩
  cases b3 : decide (r.num < -1073741824)
  rotate_left
  · rw [checkR_no (r := r) (fun h => by simp at b3; obtain ⟨p1, p2, p3, p4, p5⟩ := h; omega)]
    obtain ⟨n, d⟩ := r
    unfold Ra.v
    simp only at *
    go_enter Try.func35, Try.ntmps35
    go_wp2_with fail
    refine abs_wp ?_
    intro W hW
    have z0 : w.heap.size < W.heap.size := by rw [hW]; simp
    have c0 : W.cell? ⟨w.heap.size, 0, none⟩ = some (.int .i64 n) := by rw [hW]; simp [go_sem]
    have c1 : W.cell? ⟨w.heap.size, 1, none⟩ = some (.int .i64 d) := by rw [hW]; simp [go_sem]
    have B0 : Below w.heap.size w W := by rw [hW]; go_grown
    clear hW
    refine wp_region_below (by kernel_rfl) (by kernel_rfl) ?_
    repeat (first
      | go_big_quiet_skip
      | (go_big_quiet_want
         first
           | (apply quiet_val
              focus (
                intro WC hWC
                obtain ⟨hcc0, hff0⟩ := bcell hWC
                go_simp
                all_goals rfl
                done)
              go_simp
              go_big_quiet_on)
           | (apply quiet_call
              focus (
                intro WC hWC
                go_simp
                all_goals (first | rfl | exact ⟨rfl, rfl⟩)
                done)
              focus (
                intro WC hWC
                (refine (RSize_any _ ?_ WC).mono fun e w' h => ⟨h.1, h.2 ▸ hWC⟩; first | exact H1.out | exact H2.out)
                done)
              go_simp
              go_big_quiet_on)
           | (apply quiet_call
              focus (
                intro WC hWC
                go_simp
                all_goals (first | rfl | exact ⟨rfl, rfl⟩)
                done)
              focus (
                intro WC hWC
                exact (RCommon_any n.natAbs d.natAbs (abs_le H1.out) (abs_le H2.out) WC).mono fun e w' h => ⟨by first | rw [h.1, HG.out] | exact h.1, hWC.trans (h.2.mono hWC.size)⟩
                done)
              go_simp
              go_big_quiet_on)))
    refine wpQuiet_nil ?_
    intro w5 hw5
    go_wp2_with fail
    go_ret
    exact ⟨rfl, B0.trans (hw5.mono (by omega))⟩
  cases b4 : decide ((1073741824 : Int) < r.num)
  rotate_left
  · rw [checkR_no (r := r) (fun h => by simp at b4; obtain ⟨p1, p2, p3, p4, p5⟩ := h; omega)]
    obtain ⟨n, d⟩ := r
    unfold Ra.v
    simp only at *
    go_enter Try.func35, Try.ntmps35
    go_wp2_with fail
    refine abs_wp ?_
    intro W hW
    have z0 : w.heap.size < W.heap.size := by rw [hW]; simp
    have c0 : W.cell? ⟨w.heap.size, 0, none⟩ = some (.int .i64 n) := by rw [hW]; simp [go_sem]
    have c1 : W.cell? ⟨w.heap.size, 1, none⟩ = some (.int .i64 d) := by rw [hW]; simp [go_sem]
    have B0 : Below w.heap.size w W := by rw [hW]; go_grown
    clear hW
    refine wp_region_below (by kernel_rfl) (by kernel_rfl) ?_
    repeat (first
      | go_big_quiet_skip
      | (go_big_quiet_want
         first
           | (apply quiet_val
              focus (
                intro WC hWC
                obtain ⟨hcc0, hff0⟩ := bcell hWC
                go_simp
                all_goals rfl
                done)
              go_simp
              go_big_quiet_on)
           | (apply quiet_call
              focus (
                intro WC hWC
                go_simp
                all_goals (first | rfl | exact ⟨rfl, rfl⟩)
                done)
              focus (
                intro WC hWC
                (refine (RSize_any _ ?_ WC).mono fun e w' h => ⟨h.1, h.2 ▸ hWC⟩; first | exact H1.out | exact H2.out)
                done)
              go_simp
              go_big_quiet_on)
           | (apply quiet_call
              focus (
                intro WC hWC
                go_simp
                all_goals (first | rfl | exact ⟨rfl, rfl⟩)
                done)
              focus (
                intro WC hWC
                exact (RCommon_any n.natAbs d.natAbs (abs_le H1.out) (abs_le H2.out) WC).mono fun e w' h => ⟨by first | rw [h.1, HG.out] | exact h.1, hWC.trans (h.2.mono hWC.size)⟩
                done)
              go_simp
              go_big_quiet_on)))
    refine wpQuiet_nil ?_
    intro w5 hw5
    go_wp2_with fail
    go_ret
    exact ⟨rfl, B0.trans (hw5.mono (by omega))⟩
  have c0 : Hid (r.num.natAbs.gcd r.den.natAbs = r.num.natAbs.gcd r.den.natAbs) := Lib.hid rfl
  obtain ⟨g, hg⟩ : ∃ g, g = r.num.natAbs.gcd r.den.natAbs := ⟨_, rfl⟩
  have HG := Lib.hid hg.symm
  by_cases hg1 : g = 1
  · rw [checkR_ok (r := r) (by simp at b1 b2 b3 b4; exact ⟨by omega, by omega, by omega, by omega, by rw [← hg, hg1]⟩)]
    have q : ((g : Int) == 1) = true := by simp [hg1]
    clear hg hg1
    obtain ⟨n, d⟩ := r
    unfold Ra.v
    simp only at *
    go_enter Try.func35, Try.ntmps35
    go_wp2_with fail
    refine abs_wp ?_
    intro W hW
    have z0 : w.heap.size < W.heap.size := by rw [hW]; simp
    have c0 : W.cell? ⟨w.heap.size, 0, none⟩ = some (.int .i64 n) := by rw [hW]; simp [go_sem]
    have c1 : W.cell? ⟨w.heap.size, 1, none⟩ = some (.int .i64 d) := by rw [hW]; simp [go_sem]
    have B0 : Below w.heap.size w W := by rw [hW]; go_grown
    clear hW
    refine wp_region_below (by kernel_rfl) (by kernel_rfl) ?_
    repeat (first
      | go_big_quiet_skip
      | (go_big_quiet_want
         first
           | (apply quiet_val
              focus (
                intro WC hWC
                obtain ⟨hcc0, hff0⟩ := bcell hWC
                go_simp
                all_goals rfl
                done)
              go_simp
              go_big_quiet_on)
           | (apply quiet_call
              focus (
                intro WC hWC
                go_simp
                all_goals (first | rfl | exact ⟨rfl, rfl⟩)
                done)
              focus (
                intro WC hWC
                (refine (RSize_any _ ?_ WC).mono fun e w' h => ⟨h.1, h.2 ▸ hWC⟩; first | exact H1.out | exact H2.out)
                done)
              go_simp
              go_big_quiet_on)
           | (apply quiet_call
              focus (
                intro WC hWC
                go_simp
                all_goals (first | rfl | exact ⟨rfl, rfl⟩)
                done)
              focus (
                intro WC hWC
                exact (RCommon_any n.natAbs d.natAbs (abs_le H1.out) (abs_le H2.out) WC).mono fun e w' h => ⟨by first | rw [h.1, HG.out] | exact h.1, hWC.trans (h.2.mono hWC.size)⟩
                done)
              go_simp
              go_big_quiet_on)))
    refine wpQuiet_nil ?_
    intro w5 hw5
    go_wp2_with fail
    go_ret
    exact ⟨rfl, B0.trans (hw5.mono (by omega))⟩
  · rw [checkR_no (r := r) (fun h => hg1 (by rw [hg]; exact h.2.2.2.2))]
    have q : ((g : Int) == 1) = false := by simp; omega
    clear hg hg1
    obtain ⟨n, d⟩ := r
    unfold Ra.v
    simp only at *
    go_enter Try.func35, Try.ntmps35
    go_wp2_with fail
    refine abs_wp ?_
    intro W hW
    have z0 : w.heap.size < W.heap.size := by rw [hW]; simp
    have c0 : W.cell? ⟨w.heap.size, 0, none⟩ = some (.int .i64 n) := by rw [hW]; simp [go_sem]
    have c1 : W.cell? ⟨w.heap.size, 1, none⟩ = some (.int .i64 d) := by rw [hW]; simp [go_sem]
    have B0 : Below w.heap.size w W := by rw [hW]; go_grown
    clear hW
    refine wp_region_below (by kernel_rfl) (by kernel_rfl) ?_
    repeat (first
      | go_big_quiet_skip
      | (go_big_quiet_want
         first
           | (apply quiet_val
              focus (
                intro WC hWC
                obtain ⟨hcc0, hff0⟩ := bcell hWC
                go_simp
                all_goals rfl
                done)
              go_simp
              go_big_quiet_on)
           | (apply quiet_call
              focus (
                intro WC hWC
                go_simp
                all_goals (first | rfl | exact ⟨rfl, rfl⟩)
                done)
              focus (
                intro WC hWC
                (refine (RSize_any _ ?_ WC).mono fun e w' h => ⟨h.1, h.2 ▸ hWC⟩; first | exact H1.out | exact H2.out)
                done)
              go_simp
              go_big_quiet_on)
           | (apply quiet_call
              focus (
                intro WC hWC
                go_simp
                all_goals (first | rfl | exact ⟨rfl, rfl⟩)
                done)
              focus (
                intro WC hWC
                exact (RCommon_any n.natAbs d.natAbs (abs_le H1.out) (abs_le H2.out) WC).mono fun e w' h => ⟨by first | rw [h.1, HG.out] | exact h.1, hWC.trans (h.2.mono hWC.size)⟩
                done)
              go_simp
              go_big_quiet_on)))
    refine wpQuiet_nil ?_
    intro w5 hw5
    go_wp2_with fail
    go_ret
    exact ⟨rfl, B0.trans (hw5.mono (by omega))⟩



set_option maxHeartbeats 2000000 in
theorem RNew_any (num den : Int) (h1 : I64 num) (h2 : I64 den) (w : World) :
    Calls Try.prog 30 #[.int .i64 num, .int .i64 den] w fun e w' => e = .returned (.tuple #[(newP num den).1.v, .int .i64 (newP num den).2]) ∧ Below w.heap.size w w' := by
  have H1 := Lib.hid h1
  have H2 := Lib.hid h2
  clear h1 h2
  by_cases hd : den = 0
  · subst hd
    rw [newP_zero]
    clear H1 H2
    go_enter Try.func30, Try.ntmps30
    go_wp2_with fail
    exact bodyPost_ret (v := .tuple #[.agg #[.int .i64 0, .int .i64 0], .int .i64 1]) (by simp [results, Try.results30, go_sem]) rfl ⟨rfl, by go_grown⟩
  · obtain ⟨G, N, D, hG, hG0, hN, hD, qN, qD, bN, bD⟩ := parts num den H1.out H2.out hd
    rw [newP_parts hd hG hN hD]
    have HG := Lib.hid hG
    have hd0 : (den == 0) = false := by simpa using hd
    have hG1 : ¬ G = 0 := by omega
    have wN : IntKind.u64.wrap (N : Int) = N := wrap_u64 bN
    have wD : IntKind.u64.wrap (D : Int) = D := wrap_u64 bD
    clear hG hN hD hd
    by_cases hl : 1073741824 < N ∨ 1073741824 < D
    · rw [if_pos hl]
      have hs4 : (¬ (1073741824 : Int) < (N : Int) ∧ (1073741824 : Int) < (D : Int)) ∨ (1073741824 : Int) < (N : Int) := by omega
      rcases hs4 with ⟨s1, s2⟩ | s1
      · have d1 : decide ((1073741824 : Int) < (N : Int)) = false := by simp; omega
        have d2 : decide ((1073741824 : Int) < (D : Int)) = true := by simp; omega
        clear s1 s2 hl
        go_enter Try.func30, Try.ntmps30
        go_wp2_with fail
        refine (RSize_any num H1.out _).mono ?_
        rintro e w9 ⟨rfl, rfl⟩
        go_wp2_with fail
        refine (RSize_any den H2.out _).mono ?_
        rintro e w9 ⟨rfl, rfl⟩
        go_wp2_with fail
        refine (RCommon_any num.natAbs den.natAbs (abs_le H1.out) (abs_le H2.out) _).mono ?_
        rw [← HG.out]
        rintro e w1 ⟨rfl, hb1⟩
        obtain ⟨lc, lf, hlt1⟩ := below_at w.heap.size rfl hb1 (by simp)
        have l0 := lc 0
        have l1 := lc 1
        have lf0 := lf 0
        have lf1 := lf 1
        simp at l0 l1
        have B1 : Below w.heap.size w w1 := ((Below.refl _ _).alloc (Nat.le_refl _) _).trans (hb1.mono (by simp))
        clear hb1 lc lf
        go_wp2_with fail
        refine (RSize_any num H1.out _).mono ?_
        rintro e w9 ⟨rfl, rfl⟩
        go_wp2_with fail
        refine (RSize_any den H2.out _).mono ?_
        rintro e w9 ⟨rfl, rfl⟩
        go_wp2_with fail
        exact bodyPost_ret (v := .tuple #[.agg #[.int .i64 0, .int .i64 0], .int .i64 2]) (by simp [results, Try.results30, go_sem, l0, l1, hlt1]) rfl ⟨rfl, by go_grown⟩
      · have d1 : decide ((1073741824 : Int) < (N : Int)) = true := by simp; omega
        clear s1 hl
        go_enter Try.func30, Try.ntmps30
        go_wp2_with fail
        refine (RSize_any num H1.out _).mono ?_
        rintro e w9 ⟨rfl, rfl⟩
        go_wp2_with fail
        refine (RSize_any den H2.out _).mono ?_
        rintro e w9 ⟨rfl, rfl⟩
        go_wp2_with fail
        refine (RCommon_any num.natAbs den.natAbs (abs_le H1.out) (abs_le H2.out) _).mono ?_
        rw [← HG.out]
        rintro e w1 ⟨rfl, hb1⟩
        obtain ⟨lc, lf, hlt1⟩ := below_at w.heap.size rfl hb1 (by simp)
        have l0 := lc 0
        have l1 := lc 1
        have lf0 := lf 0
        have lf1 := lf 1
        simp at l0 l1
        have B1 : Below w.heap.size w w1 := ((Below.refl _ _).alloc (Nat.le_refl _) _).trans (hb1.mono (by simp))
        clear hb1 lc lf
        go_wp2_with fail
        refine (RSize_any num H1.out _).mono ?_
        rintro e w9 ⟨rfl, rfl⟩
        go_wp2_with fail
        refine (RSize_any den H2.out _).mono ?_
        rintro e w9 ⟨rfl, rfl⟩
        go_wp2_with fail
        exact bodyPost_ret (v := .tuple #[.agg #[.int .i64 0, .int .i64 0], .int .i64 2]) (by simp [results, Try.results30, go_sem, l0, l1, hlt1]) rfl ⟨rfl, by go_grown⟩
    · rw [if_neg hl]
      have bN2 : N ≤ 1073741824 := by omega
      have bD2 : D ≤ 1073741824 := by omega
      have d1 : decide ((1073741824 : Int) < (N : Int)) = false := by simp; omega
      have d2 : decide ((1073741824 : Int) < (D : Int)) = false := by simp; omega
      clear hl
      have hs4 : (num < 0 ∧ den < 0) ∨ (¬ num < 0 ∧ ¬ den < 0) ∨ (num < 0 ∧ ¬ den < 0) ∨ (¬ num < 0 ∧ den < 0) := by omega
      rcases hs4 with ⟨s1, s2⟩ | ⟨s1, s2⟩ | ⟨s1, s2⟩ | ⟨s1, s2⟩
      · simp only [s1, s2, decide_true, decide_false, if_true, if_false, reduceCtorEq]
        have d3 : decide (num < 0) = true := by simp [s1]
        have d4 : decide (den < 0) = true := by simp [s2]
        clear s1 s2
        go_enter Try.func30, Try.ntmps30
        go_wp2_with fail
        refine (RSize_any num H1.out _).mono ?_
        rintro e w9 ⟨rfl, rfl⟩
        go_wp2_with fail
        refine (RSize_any den H2.out _).mono ?_
        rintro e w9 ⟨rfl, rfl⟩
        go_wp2_with fail
        refine (RCommon_any num.natAbs den.natAbs (abs_le H1.out) (abs_le H2.out) _).mono ?_
        rw [← HG.out]
        rintro e w1 ⟨rfl, hb1⟩
        obtain ⟨lc, lf, hlt1⟩ := below_at w.heap.size rfl hb1 (by simp)
        have l0 := lc 0
        have l1 := lc 1
        have lf0 := lf 0
        have lf1 := lf 1
        simp at l0 l1
        have B1 : Below w.heap.size w w1 := ((Below.refl _ _).alloc (Nat.le_refl _) _).trans (hb1.mono (by simp))
        clear hb1 lc lf
        go_wp2_with fail
        refine (RSize_any num H1.out _).mono ?_
        rintro e w9 ⟨rfl, rfl⟩
        go_wp2_with fail
        refine (RSize_any den H2.out _).mono ?_
        rintro e w9 ⟨rfl, rfl⟩
        go_wp2_with fail
        have hc := setB (setA ⟨l0, l1⟩ (.int .i64 (N : Int))) (.int .i64 (D : Int))
        exact bodyPost_ret (v := .tuple #[.agg #[.int .i64 (N : Int), .int .i64 (D : Int)], .int .i64 0]) (by simp [results, Try.results30, go_sem, hc.1, hc.2, hlt1]) rfl ⟨rfl, by go_grown⟩
      · simp only [s1, s2, decide_true, decide_false, if_true, if_false, reduceCtorEq]
        have d3 : decide (num < 0) = false := by simp [s1]
        have d4 : decide (den < 0) = false := by simp [s2]
        clear s1 s2
        go_enter Try.func30, Try.ntmps30
        go_wp2_with fail
        refine (RSize_any num H1.out _).mono ?_
        rintro e w9 ⟨rfl, rfl⟩
        go_wp2_with fail
        refine (RSize_any den H2.out _).mono ?_
        rintro e w9 ⟨rfl, rfl⟩
        go_wp2_with fail
        refine (RCommon_any num.natAbs den.natAbs (abs_le H1.out) (abs_le H2.out) _).mono ?_
        rw [← HG.out]
        rintro e w1 ⟨rfl, hb1⟩
        obtain ⟨lc, lf, hlt1⟩ := below_at w.heap.size rfl hb1 (by simp)
        have l0 := lc 0
        have l1 := lc 1
        have lf0 := lf 0
        have lf1 := lf 1
        simp at l0 l1
        have B1 : Below w.heap.size w w1 := ((Below.refl _ _).alloc (Nat.le_refl _) _).trans (hb1.mono (by simp))
        clear hb1 lc lf
        go_wp2_with fail
        refine (RSize_any num H1.out _).mono ?_
        rintro e w9 ⟨rfl, rfl⟩
        go_wp2_with fail
        refine (RSize_any den H2.out _).mono ?_
        rintro e w9 ⟨rfl, rfl⟩
        go_wp2_with fail
        have hc := setB (setA ⟨l0, l1⟩ (.int .i64 (N : Int))) (.int .i64 (D : Int))
        exact bodyPost_ret (v := .tuple #[.agg #[.int .i64 (N : Int), .int .i64 (D : Int)], .int .i64 0]) (by simp [results, Try.results30, go_sem, hc.1, hc.2, hlt1]) rfl ⟨rfl, by go_grown⟩
      · simp only [s1, s2, decide_true, decide_false, if_true, if_false, reduceCtorEq]
        have d3 : decide (num < 0) = true := by simp [s1]
        have d4 : decide (den < 0) = false := by simp [s2]
        clear s1 s2
        go_enter Try.func30, Try.ntmps30
        go_wp2_with fail
        refine (RSize_any num H1.out _).mono ?_
        rintro e w9 ⟨rfl, rfl⟩
        go_wp2_with fail
        refine (RSize_any den H2.out _).mono ?_
        rintro e w9 ⟨rfl, rfl⟩
        go_wp2_with fail
        refine (RCommon_any num.natAbs den.natAbs (abs_le H1.out) (abs_le H2.out) _).mono ?_
        rw [← HG.out]
        rintro e w1 ⟨rfl, hb1⟩
        obtain ⟨lc, lf, hlt1⟩ := below_at w.heap.size rfl hb1 (by simp)
        have l0 := lc 0
        have l1 := lc 1
        have lf0 := lf 0
        have lf1 := lf 1
        simp at l0 l1
        have B1 : Below w.heap.size w w1 := ((Below.refl _ _).alloc (Nat.le_refl _) _).trans (hb1.mono (by simp))
        clear hb1 lc lf
        go_wp2_with fail
        refine (RSize_any num H1.out _).mono ?_
        rintro e w9 ⟨rfl, rfl⟩
        go_wp2_with fail
        refine (RSize_any den H2.out _).mono ?_
        rintro e w9 ⟨rfl, rfl⟩
        go_wp2_with fail
        have hc := setB (setA ⟨l0, l1⟩ (.int .i64 (-(N : Int)))) (.int .i64 (D : Int))
        exact bodyPost_ret (v := .tuple #[.agg #[.int .i64 (-(N : Int)), .int .i64 (D : Int)], .int .i64 0]) (by simp [results, Try.results30, go_sem, hc.1, hc.2, hlt1]) rfl ⟨rfl, by go_grown⟩
      · simp only [s1, s2, decide_true, decide_false, if_true, if_false, reduceCtorEq]
        have d3 : decide (num < 0) = false := by simp [s1]
        have d4 : decide (den < 0) = true := by simp [s2]
        clear s1 s2
        go_enter Try.func30, Try.ntmps30
        go_wp2_with fail
        refine (RSize_any num H1.out _).mono ?_
        rintro e w9 ⟨rfl, rfl⟩
        go_wp2_with fail
        refine (RSize_any den H2.out _).mono ?_
        rintro e w9 ⟨rfl, rfl⟩
        go_wp2_with fail
        refine (RCommon_any num.natAbs den.natAbs (abs_le H1.out) (abs_le H2.out) _).mono ?_
        rw [← HG.out]
        rintro e w1 ⟨rfl, hb1⟩
        obtain ⟨lc, lf, hlt1⟩ := below_at w.heap.size rfl hb1 (by simp)
        have l0 := lc 0
        have l1 := lc 1
        have lf0 := lf 0
        have lf1 := lf 1
        simp at l0 l1
        have B1 : Below w.heap.size w w1 := ((Below.refl _ _).alloc (Nat.le_refl _) _).trans (hb1.mono (by simp))
        clear hb1 lc lf
        go_wp2_with fail
        refine (RSize_any num H1.out _).mono ?_
        rintro e w9 ⟨rfl, rfl⟩
        go_wp2_with fail
        refine (RSize_any den H2.out _).mono ?_
        rintro e w9 ⟨rfl, rfl⟩
        go_wp2_with fail
        have hc := setB (setA ⟨l0, l1⟩ (.int .i64 (-(N : Int)))) (.int .i64 (D : Int))
        exact bodyPost_ret (v := .tuple #[.agg #[.int .i64 (-(N : Int)), .int .i64 (D : Int)], .int .i64 0]) (by simp [results, Try.results30, go_sem, hc.1, hc.2, hlt1]) rfl ⟨rfl, by go_grown⟩
theorem mul_le {x y : Int} (h1 : -1073741824 ≤ x) (h2 : x ≤ 1073741824) (h3 : -1073741824 ≤ y) (h4 : y ≤ 1073741824) : -1152921504606846976 ≤ x * y ∧ x * y ≤ 1152921504606846976 := by
  have hx : x.natAbs ≤ 1073741824 := by omega
  have hy : y.natAbs ≤ 1073741824 := by omega
  have h : (x * y).natAbs ≤ 1073741824 * 1073741824 := by rw [Int.natAbs_mul]; exact Nat.mul_le_mul hx hy
  omega

theorem I64_of {x : Int} (h1 : -9000000000000000000 ≤ x) (h2 : x ≤ 9000000000000000000) : I64 x := by unfold I64; omega

theorem prods {a b : Ra} (ha : okR a) (hb : okR b) : ∃ P Q R T : Int, a.num * b.den = P ∧ b.num * a.den = Q ∧ a.den * b.den = R ∧ a.num * b.num = T ∧
    -1152921504606846976 ≤ P ∧ P ≤ 1152921504606846976 ∧ -1152921504606846976 ≤ Q ∧ Q ≤ 1152921504606846976 ∧ -1152921504606846976 ≤ R ∧ R ≤ 1152921504606846976 ∧ -1152921504606846976 ≤ T ∧ T ≤ 1152921504606846976 := by
  obtain ⟨a1, a2, a3, a4, _⟩ := ha
  obtain ⟨b1, b2, b3, b4, _⟩ := hb
  have h1 := mul_le (x := a.num) (y := b.den) a3 a4 (by omega) b2
  have h2 := mul_le (x := b.num) (y := a.den) b3 b4 (by omega) a2
  have h3 := mul_le (x := a.den) (y := b.den) (by omega) a2 (by omega) b2
  have h4 := mul_le (x := a.num) (y := b.num) a3 a4 b3 b4
  exact ⟨_, _, _, _, rfl, rfl, rfl, rfl, h1.1, h1.2, h2.1, h2.2, h3.1, h3.2, h4.1, h4.2⟩

set_option maxHeartbeats 4000000 in
theorem bothI_any (X : Int) (E : Int) (a b : Ra) (ha : a.i64) (hb : b.i64) (gf : Nat) (lb : Array Value) (w : World)
    (hg : ∀ (args : Array Value) (W : World), Sem.run Try.prog (callFunc gf args) W = .ok (.enter gf args) W)
    (hf : okR a → okR b → ∀ W, Below w.heap.size w W → Calls Try.prog gf lb W fun e W' => e = .returned (.tuple #[.int .i64 X, .int .i64 E]) ∧ Below W.heap.size W W') :
    Calls Try.prog 36 #[a.v, b.v, .func (.func gf) #[] lb] w fun e w' => e = .returned (.tuple #[.int .i64 (if okR a ∧ okR b then X else 0), .int .i64 (if okR a ∧ okR b then E else 50)]) ∧ Below w.heap.size w w' := by
  have HF := Lib.hid hf
  have HA := Lib.hid ha
  have HB := Lib.hid hb
  clear hf ha hb
  by_cases oa : okR a
  · have CA := Lib.hid (checkR_ok oa)
    by_cases ob : okR b
    · have CB := Lib.hid (checkR_ok ob)
      simp only [if_pos (And.intro oa ob)]
      have OA := Lib.hid oa
      have OB := Lib.hid ob
      clear oa ob
      unfold Ra.v
      have i0 : ∀ W, (Instr.index 73 (.agg #[.int .i64 a.num, .int .i64 a.den, .int .i64 b.num, .int .i64 b.den]) (.int .i64 0)).run Try.prog W = .ok (.agg #[.int .i64 a.num, .int .i64 a.den]) W := fun _ => by kernel_rfl
      have i1 : ∀ W, (Instr.index 73 (.agg #[.int .i64 a.num, .int .i64 a.den, .int .i64 b.num, .int .i64 b.den]) (.int .i64 1)).run Try.prog W = .ok (.agg #[.int .i64 b.num, .int .i64 b.den]) W := fun _ => by kernel_rfl
      go_enter Try.func36, Try.ntmps36
      go_wp2_with fail
      refine wp_loop_rounds 3 ?_
      rw [rounds_succ]
      go_wp2_with fail
      refine (Check_any a HA.out _).mono ?_
      rw [CA.out]
      rintro e w1 ⟨rfl, hb1⟩
      have K1 := ((Below.refl (w.heap.size + 2) ((w.alloc (.cells #[.int .i64 a.num, .int .i64 a.den] 29)).alloc (.cells #[.int .i64 b.num, .int .i64 b.den] 29))).alloc (by simp) (.cells #[.int .i64 a.num, .int .i64 a.den] 29)).trans (hb1.mono (by simp))
      have y1 : w.heap.size + 2 ≤ w1.heap.size := by have := hb1.size; simp at this; omega
      clear hb1
      go_wp2_with fail
      rw [rounds_succ]
      go_wp2_with fail
      refine (Check_any b HB.out _).mono ?_
      rw [CB.out]
      rintro e w2 ⟨rfl, hb2⟩
      have K2 := (K1.alloc y1 (.cells #[.int .i64 b.num, .int .i64 b.den] 29)).trans (hb2.mono (by simp; omega))
      have y2 : w.heap.size + 2 ≤ w2.heap.size := by have := hb2.size; simp at this; omega
      clear hb2
      go_wp2_with fail
      rw [rounds_succ]
      go_wp2_with fail
      have B2 : Below w.heap.size w w2 := (((Below.refl _ _).alloc (Nat.le_refl _) _).alloc (by simp) _).trans (K2.mono (by omega))
      refine (HF.out OA.out OB.out w2 B2).mono ?_
      rintro e w3 ⟨rfl, hb3⟩
      have K3 := K2.trans (hb3.mono y2)
      clear B2
      have B3 : Below w.heap.size w w3 := (((Below.refl _ _).alloc (Nat.le_refl _) _).alloc (by simp) _).trans (K3.mono (by omega))
      go_wp2_with fail
      go_ret2
      exact ⟨rfl, by go_grown⟩
    · have CB := Lib.hid (checkR_no ob)
      simp only [if_neg (fun h : okR a ∧ okR b => ob h.2)]
      clear oa ob
      unfold Ra.v
      have i0 : ∀ W, (Instr.index 73 (.agg #[.int .i64 a.num, .int .i64 a.den, .int .i64 b.num, .int .i64 b.den]) (.int .i64 0)).run Try.prog W = .ok (.agg #[.int .i64 a.num, .int .i64 a.den]) W := fun _ => by kernel_rfl
      have i1 : ∀ W, (Instr.index 73 (.agg #[.int .i64 a.num, .int .i64 a.den, .int .i64 b.num, .int .i64 b.den]) (.int .i64 1)).run Try.prog W = .ok (.agg #[.int .i64 b.num, .int .i64 b.den]) W := fun _ => by kernel_rfl
      go_enter Try.func36, Try.ntmps36
      go_wp2_with fail
      refine wp_loop_rounds 3 ?_
      rw [rounds_succ]
      go_wp2_with fail
      refine (Check_any a HA.out _).mono ?_
      rw [CA.out]
      rintro e w1 ⟨rfl, hb1⟩
      have K1 := ((Below.refl (w.heap.size + 2) ((w.alloc (.cells #[.int .i64 a.num, .int .i64 a.den] 29)).alloc (.cells #[.int .i64 b.num, .int .i64 b.den] 29))).alloc (by simp) (.cells #[.int .i64 a.num, .int .i64 a.den] 29)).trans (hb1.mono (by simp))
      have y1 : w.heap.size + 2 ≤ w1.heap.size := by have := hb1.size; simp at this; omega
      clear hb1
      go_wp2_with fail
      rw [rounds_succ]
      go_wp2_with fail
      refine (Check_any b HB.out _).mono ?_
      rw [CB.out]
      rintro e w2 ⟨rfl, hb2⟩
      have K2 := (K1.alloc y1 (.cells #[.int .i64 b.num, .int .i64 b.den] 29)).trans (hb2.mono (by simp; omega))
      have y2 : w.heap.size + 2 ≤ w2.heap.size := by have := hb2.size; simp at this; omega
      clear hb2
      have B2 : Below w.heap.size w w2 := (((Below.refl _ _).alloc (Nat.le_refl _) _).alloc (by simp) _).trans (K2.mono (by omega))
      go_wp2_with fail
      go_ret2
      exact ⟨rfl, by go_grown⟩
  · have CA := Lib.hid (checkR_no oa)
    simp only [if_neg (fun h : okR a ∧ okR b => oa h.1)]
    clear oa
    unfold Ra.v
    have i0 : ∀ W, (Instr.index 73 (.agg #[.int .i64 a.num, .int .i64 a.den, .int .i64 b.num, .int .i64 b.den]) (.int .i64 0)).run Try.prog W = .ok (.agg #[.int .i64 a.num, .int .i64 a.den]) W := fun _ => by kernel_rfl
    have i1 : ∀ W, (Instr.index 73 (.agg #[.int .i64 a.num, .int .i64 a.den, .int .i64 b.num, .int .i64 b.den]) (.int .i64 1)).run Try.prog W = .ok (.agg #[.int .i64 b.num, .int .i64 b.den]) W := fun _ => by kernel_rfl
    go_enter Try.func36, Try.ntmps36
    go_wp2_with fail
    refine wp_loop_rounds 3 ?_
    rw [rounds_succ]
    go_wp2_with fail
    refine (Check_any a HA.out _).mono ?_
    rw [CA.out]
    rintro e w1 ⟨rfl, hb1⟩
    have K1 := ((Below.refl (w.heap.size + 2) ((w.alloc (.cells #[.int .i64 a.num, .int .i64 a.den] 29)).alloc (.cells #[.int .i64 b.num, .int .i64 b.den] 29))).alloc (by simp) (.cells #[.int .i64 a.num, .int .i64 a.den] 29)).trans (hb1.mono (by simp))
    have y1 : w.heap.size + 2 ≤ w1.heap.size := by have := hb1.size; simp at this; omega
    clear hb1
    have B1 : Below w.heap.size w w1 := (((Below.refl _ _).alloc (Nat.le_refl _) _).alloc (by simp) _).trans (K1.mono (by omega))
    go_wp2_with fail
    go_ret2
    exact ⟨rfl, by go_grown⟩

def cmpP (a b : Ra) : Int × Int := if okR a ∧ okR b then (cmpI (a.num * b.den) (b.num * a.den), 0) else (0, 50)

set_option maxHeartbeats 2000000 in
theorem Compare1_any (a b : Ra) (ha : okR a) (hb : okR b) (Ba Bb : Nat) (w : World) (z1 : Ba < w.heap.size) (z2 : Bb < w.heap.size)
    (a0 : w.cell? ⟨Ba, 0, none⟩ = some (.int .i64 a.num)) (a1 : w.cell? ⟨Ba, 1, none⟩ = some (.int .i64 a.den)) (b0 : w.cell? ⟨Bb, 0, none⟩ = some (.int .i64 b.num)) (b1 : w.cell? ⟨Bb, 1, none⟩ = some (.int .i64 b.den)) :
    Calls Try.prog 37 #[.pointer (some ⟨Ba, 0, none⟩), .pointer (some ⟨Bb, 0, none⟩)] w fun e w' => e = .returned (.tuple #[.int .i64 (cmpI (a.num * b.den) (b.num * a.den)), .int .i64 0]) ∧ Below w.heap.size w w' := by
  obtain ⟨P, Q, R, T, hP, hQ, hR, hT, p1, p2, q1, q2, r1, r2, t1, t2⟩ := prods ha hb
  rw [hP, hQ]
  clear ha hb hR hT r1 r2 t1 t2 R T
  go_enter Try.func37, Try.ntmps37
  go_wp2_with fail
  refine (Compare_any P Q _).mono ?_
  rintro e w1 ⟨rfl, rfl⟩
  go_wp2_with fail
  go_ret2
  exact ⟨rfl, by go_grown⟩

set_option maxHeartbeats 2000000 in
theorem RaCompare_any (a b : Ra) (ha : a.i64) (hb : b.i64) (w : World) :
    Calls Try.prog 23 #[a.v, b.v] w fun e w' => e = .returned (.tuple #[.int .i64 (cmpP a b).1, .int .i64 (cmpP a b).2]) ∧ Below w.heap.size w w' := by
  have HA := Lib.hid ha
  have HB := Lib.hid hb
  clear ha hb
  obtain ⟨⟨n, E⟩, hr⟩ : ∃ r, r = cmpP a b := ⟨_, rfl⟩
  have h1 : (if okR a ∧ okR b then (cmpI (a.num * b.den) (b.num * a.den)) else 0) = n := by
    unfold cmpP at hr; split at hr <;> rename_i hc
    · rw [if_pos hc]; exact (congrArg Prod.fst hr).symm
    · rw [if_neg hc]; exact (congrArg Prod.fst hr).symm
  have h2 : (if okR a ∧ okR b then (0 : Int) else 50) = E := by
    unfold cmpP at hr; split at hr <;> rename_i hc
    · rw [if_pos hc]; exact (congrArg Prod.snd hr).symm
    · rw [if_neg hc]; exact (congrArg Prod.snd hr).symm
  rw [← hr]
  have K1 := Lib.hid h1
  have K2 := Lib.hid h2
  clear hr h1 h2
  unfold Ra.v
  go_enter Try.func23, Try.ntmps23
  go_wp2_with fail
  refine (bothI_any (X := (cmpI (a.num * b.den) (b.num * a.den))) (E := 0) a b HA.out HB.out 37 #[.pointer (some ⟨w.heap.size, 0, none⟩), .pointer (some ⟨w.heap.size + 1, 0, none⟩)] _ (enters_of Try.func37 (by kernel_rfl) rfl) ?hf).mono ?_
  case hf =>
    intro oa ob W hW
    have hW2 := hW.mono (B' := w.heap.size + 2) (by simp)
    obtain ⟨a0, a1, b0, b1, r0, r1⟩ := ab_cells (a := a) (b := b) hW2
    exact Compare1_any a b oa ob w.heap.size (w.heap.size + 1) W r0 r1 a0 a1 b0 b1
  rw [K1.out, K2.out]
  rintro e w1 ⟨rfl, hb1⟩
  have B1 : Below w.heap.size w w1 := (((Below.refl _ _).alloc (Nat.le_refl _) _).alloc (by simp) _).trans (hb1.mono (by simp; omega))
  go_wp2_with fail
  go_ret2
  exact ⟨rfl, B1⟩

end Go.Proofs.Ytimaealmmjdjkaa
