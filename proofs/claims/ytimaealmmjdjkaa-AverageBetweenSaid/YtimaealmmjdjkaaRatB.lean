/- New, Check, and their references. -/
import Derived.Test.YtimaealmmjdjkaaRatA
namespace Go.Proofs.Ytimaealmmjdjkaa
open Go.RowKit
set_option linter.unusedSimpArgs false
set_option linter.unusedVariables false

/-- the parts of a fraction's making: the greatest common divisor, both quotients -/
theorem parts (num den : Int) (h1 : I64 num) (h2 : I64 den) (hd : den ≠ 0) :
    ∃ G N D : Nat, G = Nat.gcd num.natAbs den.natAbs ∧ 0 < G ∧ N = num.natAbs / G ∧ D = den.natAbs / G ∧ (num.natAbs : Int) / (G : Int) = N ∧ (den.natAbs : Int) / (G : Int) = D ∧ N ≤ 9223372036854775808 ∧ D ≤ 9223372036854775808 := by
  refine ⟨_, _, _, rfl, Nat.gcd_pos_of_pos_right _ (by omega), rfl, rfl, by simp, by simp, ?_, ?_⟩
  · exact Nat.le_trans (Nat.div_le_self _ _) (abs_le h1)
  · exact Nat.le_trans (Nat.div_le_self _ _) (abs_le h2)

theorem cell_set_if (w : World) (a b : Addr) (v : Value) (h : (w.cell? a).isSome = true) : (w.setCell a v).cell? b = if b = a then some v else w.cell? b := by
  by_cases e : b = a
  · subst e; rw [if_pos rfl]; exact World.cell?_setCell_same' _ _ _ h
  · rw [if_neg e]; first | exact World.cell?_setCell_other _ _ _ _ e | exact World.cell?_setCell_other _ _ _ _ (Ne.symm e)
theorem setA {W : World} {b : Nat} {x0 x1 : Value} (h : W.cell? ⟨b, 0, none⟩ = some x0 ∧ W.cell? ⟨b, 1, none⟩ = some x1) (v : Value) : (W.setCell ⟨b, 0, none⟩ v).cell? ⟨b, 0, none⟩ = some v ∧ (W.setCell ⟨b, 0, none⟩ v).cell? ⟨b, 1, none⟩ = some x1 := by
  have e : (W.cell? ⟨b, 0, none⟩).isSome = true := by rw [h.1]; rfl
  refine ⟨by rw [cell_set_if _ _ _ _ e, if_pos rfl], ?_⟩
  rw [cell_set_if _ _ _ _ e, if_neg (by simp)]
  exact h.2
theorem setB {W : World} {b : Nat} {x0 x1 : Value} (h : W.cell? ⟨b, 0, none⟩ = some x0 ∧ W.cell? ⟨b, 1, none⟩ = some x1) (v : Value) : (W.setCell ⟨b, 1, none⟩ v).cell? ⟨b, 0, none⟩ = some x0 ∧ (W.setCell ⟨b, 1, none⟩ v).cell? ⟨b, 1, none⟩ = some v := by
  have e : (W.cell? ⟨b, 1, none⟩).isSome = true := by rw [h.2]; rfl
  refine ⟨?_, by rw [cell_set_if _ _ _ _ e, if_pos rfl]⟩
  rw [cell_set_if _ _ _ _ e, if_neg (by simp)]
  exact h.1
theorem wrap_u64 {n : Nat} (h : n ≤ 9223372036854775808) : IntKind.u64.wrap (n : Int) = n := by
  simp only [IntKind.wrap, IntKind.bits, IntKind.signed, Bool.false_eq_true, Bool.false_and, if_false, Int.reducePow]
  omega
theorem newP_zero (num : Int) : newP num 0 = (⟨0, 0⟩, 1) := by simp [newP]
theorem newP_parts {num den : Int} {G N D : Nat} (hd : den ≠ 0) (hG : G = Nat.gcd num.natAbs den.natAbs) (hN : N = num.natAbs / G) (hD : D = den.natAbs / G) :
    newP num den = if 1073741824 < N ∨ 1073741824 < D then (⟨0, 0⟩, 2) else (⟨if decide (num < 0) = decide (den < 0) then (N : Int) else -(N : Int), (D : Int)⟩, 0) := by
  subst hG hN hD
  simp only [newP, hd, if_false]

set_option maxHeartbeats 1000000 in
theorem New_any (num den : Int) (h1 : I64 num) (h2 : I64 den) (w : World) :
    Calls Try.prog 29 #[.int .i64 num, .int .i64 den] w fun e w' => e = .returned (.tuple #[(newP num den).1.v, .int .i64 (newP num den).2]) ∧ Below w.heap.size w w' := by
  have H1 := Lib.hid h1
  have H2 := Lib.hid h2
  clear h1 h2
  by_cases hd : den = 0
  · subst hd
    rw [newP_zero]
    clear H1 H2
    go_enter Try.func29, Try.ntmps29
    go_wp2_with fail
    exact bodyPost_ret (v := .tuple #[(⟨0, 0⟩ : Ra).v, .int .i64 1]) (by simp [results, Try.results29, go_sem, Ra.v]) rfl ⟨rfl, by go_grown⟩
  · obtain ⟨G, N, D, hG, hG0, hN, hD, qN, qD, bN, bD⟩ := parts num den H1.out H2.out hd
    rw [newP_parts hd hG hN hD]
    have HG := Lib.hid hG
    have hd0 : (den == 0) = false := by simpa using hd
    have hG1 : ¬ G = 0 := by omega
    have wN : IntKind.u64.wrap (N : Int) = N := wrap_u64 bN
    have wD : IntKind.u64.wrap (D : Int) = D := wrap_u64 bD
    clear hG hN hD hd
    by_cases hl : 1073741824 < N ∨ 1073741824 < D
    · rw [if_pos hl]
      have hs4 : (¬ (1073741824 : Int) < (N : Int) ∧ (1073741824 : Int) < (D : Int)) ∨ (1073741824 : Int) < (N : Int) := by omega
      rcases hs4 with ⟨s1, s2⟩ | s1
      · have d1 : decide ((1073741824 : Int) < (N : Int)) = false := by simp; omega
        have d2 : decide ((1073741824 : Int) < (D : Int)) = true := by simp; omega
        clear s1 s2 hl
        go_enter Try.func29, Try.ntmps29
        go_wp2_with fail
        refine (common_any num den H1.out H2.out _).mono ?_
        rw [← HG.out]
        rintro e w1 ⟨rfl, hb1⟩
        obtain ⟨lc, lf, hlt1⟩ := below_at w.heap.size rfl hb1 (by simp)
        have l0 := lc 0
        have l1 := lc 1
        have lf0 := lf 0
        have lf1 := lf 1
        simp at l0 l1
        have B1 : Below w.heap.size w w1 := ((Below.refl _ _).alloc (Nat.le_refl _) _).trans (hb1.mono (by simp))
        clear hb1 lc lf
        go_wp2_with fail
        refine wp_region_below (by kernel_rfl) (by kernel_rfl) ?_
        repeat (first
          | go_big_quiet_skip
          | (go_big_quiet_want
             first
               | (apply quiet_val
                  focus (
                    intro WC hWC
                    obtain ⟨hcc0, hff0⟩ := bcell hWC
                    go_simp
                    all_goals rfl
                    done)
                  go_simp
                  go_big_quiet_on)
               | (apply quiet_call
                  focus (
                    intro WC hWC
                    go_simp
                    all_goals (first | rfl | exact ⟨rfl, rfl⟩)
                    done)
                  focus (
                    intro WC hWC
                    (refine (size_any _ ?_ WC).mono fun e w' h => ⟨h.1, h.2 ▸ hWC⟩; first | exact H1.out | exact H2.out)
                    done)
                  go_simp
                  go_big_quiet_on)))
        refine wpQuiet_nil ?_
        intro w5 hw5
        have k0 := (hw5.cell (p := ⟨w.heap.size, 0, none⟩) hlt1).trans l0
        have k1 := (hw5.cell (p := ⟨w.heap.size, 1, none⟩) hlt1).trans l1
        have kf0 := (hw5.frozen (p := ⟨w.heap.size, 0, none⟩) hlt1).trans lf0
        have kf1 := (hw5.frozen (p := ⟨w.heap.size, 1, none⟩) hlt1).trans lf1
        have z5 := hw5.size
        have hlt5 : w.heap.size < w5.heap.size := by omega
        have B5 := B1.trans (hw5.mono B1.size)
        clear hw5 B1 l0 l1 lf0 lf1
        go_wp2_with fail
        exact bodyPost_ret (v := .tuple #[.agg #[.int .i64 0, .int .i64 0], .int .i64 2]) (by simp [results, Try.results29, go_sem, k0, k1, hlt5]) rfl ⟨rfl, by go_grown⟩
      · have d1 : decide ((1073741824 : Int) < (N : Int)) = true := by simp; omega
        clear s1 hl
        go_enter Try.func29, Try.ntmps29
        go_wp2_with fail
        refine (common_any num den H1.out H2.out _).mono ?_
        rw [← HG.out]
        rintro e w1 ⟨rfl, hb1⟩
        obtain ⟨lc, lf, hlt1⟩ := below_at w.heap.size rfl hb1 (by simp)
        have l0 := lc 0
        have l1 := lc 1
        have lf0 := lf 0
        have lf1 := lf 1
        simp at l0 l1
        have B1 : Below w.heap.size w w1 := ((Below.refl _ _).alloc (Nat.le_refl _) _).trans (hb1.mono (by simp))
        clear hb1 lc lf
        go_wp2_with fail
        refine wp_region_below (by kernel_rfl) (by kernel_rfl) ?_
        repeat (first
          | go_big_quiet_skip
          | (go_big_quiet_want
             first
               | (apply quiet_val
                  focus (
                    intro WC hWC
                    obtain ⟨hcc0, hff0⟩ := bcell hWC
                    go_simp
                    all_goals rfl
                    done)
                  go_simp
                  go_big_quiet_on)
               | (apply quiet_call
                  focus (
                    intro WC hWC
                    go_simp
                    all_goals (first | rfl | exact ⟨rfl, rfl⟩)
                    done)
                  focus (
                    intro WC hWC
                    (refine (size_any _ ?_ WC).mono fun e w' h => ⟨h.1, h.2 ▸ hWC⟩; first | exact H1.out | exact H2.out)
                    done)
                  go_simp
                  go_big_quiet_on)))
        refine wpQuiet_nil ?_
        intro w5 hw5
        have k0 := (hw5.cell (p := ⟨w.heap.size, 0, none⟩) hlt1).trans l0
        have k1 := (hw5.cell (p := ⟨w.heap.size, 1, none⟩) hlt1).trans l1
        have kf0 := (hw5.frozen (p := ⟨w.heap.size, 0, none⟩) hlt1).trans lf0
        have kf1 := (hw5.frozen (p := ⟨w.heap.size, 1, none⟩) hlt1).trans lf1
        have z5 := hw5.size
        have hlt5 : w.heap.size < w5.heap.size := by omega
        have B5 := B1.trans (hw5.mono B1.size)
        clear hw5 B1 l0 l1 lf0 lf1
        go_wp2_with fail
        exact bodyPost_ret (v := .tuple #[.agg #[.int .i64 0, .int .i64 0], .int .i64 2]) (by simp [results, Try.results29, go_sem, k0, k1, hlt5]) rfl ⟨rfl, by go_grown⟩
    · rw [if_neg hl]
      have hl1 : ¬ (1073741824 : Int) < (N : Int) := fun h => hl (.inl (by omega))
      have hl2 : ¬ (1073741824 : Int) < (D : Int) := fun h => hl (.inr (by omega))
      clear hl
      have hs4 : (num < 0 ∧ den < 0) ∨ (¬ num < 0 ∧ ¬ den < 0) ∨ (num < 0 ∧ ¬ den < 0) ∨ (¬ num < 0 ∧ den < 0) := by omega
      rcases hs4 with ⟨s1, s2⟩ | ⟨s1, s2⟩ | ⟨s1, s2⟩ | ⟨s1, s2⟩
      · simp only [s1, s2, decide_true, decide_false, if_true, if_false, reduceCtorEq]
        have d1 : decide ((1073741824 : Int) < (N : Int)) = false := by simp; omega
        have d2 : decide ((1073741824 : Int) < (D : Int)) = false := by simp; omega
        have d3 : decide (num < 0) = true := by simp [s1]
        have d4 : decide (den < 0) = true := by simp [s2]
        have bN2 : N ≤ 1073741824 := by omega
        have bD2 : D ≤ 1073741824 := by omega
        clear s1 s2 hl1 hl2
        go_enter Try.func29, Try.ntmps29
        go_wp2_with fail
        refine (common_any num den H1.out H2.out _).mono ?_
        rw [← HG.out]
        rintro e w1 ⟨rfl, hb1⟩
        obtain ⟨lc, lf, hlt1⟩ := below_at w.heap.size rfl hb1 (by simp)
        have l0 := lc 0
        have l1 := lc 1
        have lf0 := lf 0
        have lf1 := lf 1
        simp at l0 l1
        have B1 : Below w.heap.size w w1 := ((Below.refl _ _).alloc (Nat.le_refl _) _).trans (hb1.mono (by simp))
        clear hb1 lc lf
        go_wp2_with fail
        refine wp_region_below (by kernel_rfl) (by kernel_rfl) ?_
        repeat (first
          | go_big_quiet_skip
          | (go_big_quiet_want
             first
               | (apply quiet_val
                  focus (
                    intro WC hWC
                    obtain ⟨hcc0, hff0⟩ := bcell hWC
                    go_simp
                    all_goals rfl
                    done)
                  go_simp
                  go_big_quiet_on)
               | (apply quiet_call
                  focus (
                    intro WC hWC
                    go_simp
                    all_goals (first | rfl | exact ⟨rfl, rfl⟩)
                    done)
                  focus (
                    intro WC hWC
                    (refine (size_any _ ?_ WC).mono fun e w' h => ⟨h.1, h.2 ▸ hWC⟩; first | exact H1.out | exact H2.out)
                    done)
                  go_simp
                  go_big_quiet_on)))
        refine wpQuiet_nil ?_
        intro w5 hw5
        have k0 := (hw5.cell (p := ⟨w.heap.size, 0, none⟩) hlt1).trans l0
        have k1 := (hw5.cell (p := ⟨w.heap.size, 1, none⟩) hlt1).trans l1
        have kf0 := (hw5.frozen (p := ⟨w.heap.size, 0, none⟩) hlt1).trans lf0
        have kf1 := (hw5.frozen (p := ⟨w.heap.size, 1, none⟩) hlt1).trans lf1
        have z5 := hw5.size
        have hlt5 : w.heap.size < w5.heap.size := by omega
        have B5 := B1.trans (hw5.mono B1.size)
        clear hw5 B1 l0 l1 lf0 lf1
        go_wp2_with fail
        have hc := setB (setA (setB (setA ⟨k0, k1⟩ (.int .i64 (N : Int))) (.int .i64 (D : Int))) (.int .i64 (N : Int))) (.int .i64 (D : Int))
        exact bodyPost_ret (v := .tuple #[.agg #[.int .i64 (N : Int), .int .i64 (D : Int)], .int .i64 0]) (by simp [results, Try.results29, go_sem, hc.1, hc.2, hlt5]) rfl ⟨rfl, by go_grown⟩
      · simp only [s1, s2, decide_true, decide_false, if_true, if_false, reduceCtorEq]
        have d1 : decide ((1073741824 : Int) < (N : Int)) = false := by simp; omega
        have d2 : decide ((1073741824 : Int) < (D : Int)) = false := by simp; omega
        have d3 : decide (num < 0) = false := by simp [s1]
        have d4 : decide (den < 0) = false := by simp [s2]
        have bN2 : N ≤ 1073741824 := by omega
        have bD2 : D ≤ 1073741824 := by omega
        clear s1 s2 hl1 hl2
        go_enter Try.func29, Try.ntmps29
        go_wp2_with fail
        refine (common_any num den H1.out H2.out _).mono ?_
        rw [← HG.out]
        rintro e w1 ⟨rfl, hb1⟩
        obtain ⟨lc, lf, hlt1⟩ := below_at w.heap.size rfl hb1 (by simp)
        have l0 := lc 0
        have l1 := lc 1
        have lf0 := lf 0
        have lf1 := lf 1
        simp at l0 l1
        have B1 : Below w.heap.size w w1 := ((Below.refl _ _).alloc (Nat.le_refl _) _).trans (hb1.mono (by simp))
        clear hb1 lc lf
        go_wp2_with fail
        refine wp_region_below (by kernel_rfl) (by kernel_rfl) ?_
        repeat (first
          | go_big_quiet_skip
          | (go_big_quiet_want
             first
               | (apply quiet_val
                  focus (
                    intro WC hWC
                    obtain ⟨hcc0, hff0⟩ := bcell hWC
                    go_simp
                    all_goals rfl
                    done)
                  go_simp
                  go_big_quiet_on)
               | (apply quiet_call
                  focus (
                    intro WC hWC
                    go_simp
                    all_goals (first | rfl | exact ⟨rfl, rfl⟩)
                    done)
                  focus (
                    intro WC hWC
                    (refine (size_any _ ?_ WC).mono fun e w' h => ⟨h.1, h.2 ▸ hWC⟩; first | exact H1.out | exact H2.out)
                    done)
                  go_simp
                  go_big_quiet_on)))
        refine wpQuiet_nil ?_
        intro w5 hw5
        have k0 := (hw5.cell (p := ⟨w.heap.size, 0, none⟩) hlt1).trans l0
        have k1 := (hw5.cell (p := ⟨w.heap.size, 1, none⟩) hlt1).trans l1
        have kf0 := (hw5.frozen (p := ⟨w.heap.size, 0, none⟩) hlt1).trans lf0
        have kf1 := (hw5.frozen (p := ⟨w.heap.size, 1, none⟩) hlt1).trans lf1
        have z5 := hw5.size
        have hlt5 : w.heap.size < w5.heap.size := by omega
        have B5 := B1.trans (hw5.mono B1.size)
        clear hw5 B1 l0 l1 lf0 lf1
        go_wp2_with fail
        have hc := setB (setA (setB (setA ⟨k0, k1⟩ (.int .i64 (N : Int))) (.int .i64 (D : Int))) (.int .i64 (N : Int))) (.int .i64 (D : Int))
        exact bodyPost_ret (v := .tuple #[.agg #[.int .i64 (N : Int), .int .i64 (D : Int)], .int .i64 0]) (by simp [results, Try.results29, go_sem, hc.1, hc.2, hlt5]) rfl ⟨rfl, by go_grown⟩
      · simp only [s1, s2, decide_true, decide_false, if_true, if_false, reduceCtorEq]
        have d1 : decide ((1073741824 : Int) < (N : Int)) = false := by simp; omega
        have d2 : decide ((1073741824 : Int) < (D : Int)) = false := by simp; omega
        have d3 : decide (num < 0) = true := by simp [s1]
        have d4 : decide (den < 0) = false := by simp [s2]
        have bN2 : N ≤ 1073741824 := by omega
        have bD2 : D ≤ 1073741824 := by omega
        clear s1 s2 hl1 hl2
        go_enter Try.func29, Try.ntmps29
        go_wp2_with fail
        refine (common_any num den H1.out H2.out _).mono ?_
        rw [← HG.out]
        rintro e w1 ⟨rfl, hb1⟩
        obtain ⟨lc, lf, hlt1⟩ := below_at w.heap.size rfl hb1 (by simp)
        have l0 := lc 0
        have l1 := lc 1
        have lf0 := lf 0
        have lf1 := lf 1
        simp at l0 l1
        have B1 : Below w.heap.size w w1 := ((Below.refl _ _).alloc (Nat.le_refl _) _).trans (hb1.mono (by simp))
        clear hb1 lc lf
        go_wp2_with fail
        refine wp_region_below (by kernel_rfl) (by kernel_rfl) ?_
        repeat (first
          | go_big_quiet_skip
          | (go_big_quiet_want
             first
               | (apply quiet_val
                  focus (
                    intro WC hWC
                    obtain ⟨hcc0, hff0⟩ := bcell hWC
                    go_simp
                    all_goals rfl
                    done)
                  go_simp
                  go_big_quiet_on)
               | (apply quiet_call
                  focus (
                    intro WC hWC
                    go_simp
                    all_goals (first | rfl | exact ⟨rfl, rfl⟩)
                    done)
                  focus (
                    intro WC hWC
                    (refine (size_any _ ?_ WC).mono fun e w' h => ⟨h.1, h.2 ▸ hWC⟩; first | exact H1.out | exact H2.out)
                    done)
                  go_simp
                  go_big_quiet_on)))
        refine wpQuiet_nil ?_
        intro w5 hw5
        have k0 := (hw5.cell (p := ⟨w.heap.size, 0, none⟩) hlt1).trans l0
        have k1 := (hw5.cell (p := ⟨w.heap.size, 1, none⟩) hlt1).trans l1
        have kf0 := (hw5.frozen (p := ⟨w.heap.size, 0, none⟩) hlt1).trans lf0
        have kf1 := (hw5.frozen (p := ⟨w.heap.size, 1, none⟩) hlt1).trans lf1
        have z5 := hw5.size
        have hlt5 : w.heap.size < w5.heap.size := by omega
        have B5 := B1.trans (hw5.mono B1.size)
        clear hw5 B1 l0 l1 lf0 lf1
        go_wp2_with fail
        have hc8 := setA (setA (setB (setA ⟨k0, k1⟩ (.int .i64 (N : Int))) (.int .i64 (D : Int))) (.int .i64 (-(N : Int)))) (.int .i64 (-(N : Int)))
        have hc := setB hc8 (.int .i64 (D : Int))
        exact bodyPost_ret (v := .tuple #[.agg #[.int .i64 (-(N : Int)), .int .i64 (D : Int)], .int .i64 0]) (by simp [results, Try.results29, go_sem, hc8.1, hc8.2, hc.1, hc.2, hlt5]) rfl ⟨rfl, by go_grown⟩
      · simp only [s1, s2, decide_true, decide_false, if_true, if_false, reduceCtorEq]
        have d1 : decide ((1073741824 : Int) < (N : Int)) = false := by simp; omega
        have d2 : decide ((1073741824 : Int) < (D : Int)) = false := by simp; omega
        have d3 : decide (num < 0) = false := by simp [s1]
        have d4 : decide (den < 0) = true := by simp [s2]
        have bN2 : N ≤ 1073741824 := by omega
        have bD2 : D ≤ 1073741824 := by omega
        clear s1 s2 hl1 hl2
        go_enter Try.func29, Try.ntmps29
        go_wp2_with fail
        refine (common_any num den H1.out H2.out _).mono ?_
        rw [← HG.out]
        rintro e w1 ⟨rfl, hb1⟩
        obtain ⟨lc, lf, hlt1⟩ := below_at w.heap.size rfl hb1 (by simp)
        have l0 := lc 0
        have l1 := lc 1
        have lf0 := lf 0
        have lf1 := lf 1
        simp at l0 l1
        have B1 : Below w.heap.size w w1 := ((Below.refl _ _).alloc (Nat.le_refl _) _).trans (hb1.mono (by simp))
        clear hb1 lc lf
        go_wp2_with fail
        refine wp_region_below (by kernel_rfl) (by kernel_rfl) ?_
        repeat (first
          | go_big_quiet_skip
          | (go_big_quiet_want
             first
               | (apply quiet_val
                  focus (
                    intro WC hWC
                    obtain ⟨hcc0, hff0⟩ := bcell hWC
                    go_simp
                    all_goals rfl
                    done)
                  go_simp
                  go_big_quiet_on)
               | (apply quiet_call
                  focus (
                    intro WC hWC
                    go_simp
                    all_goals (first | rfl | exact ⟨rfl, rfl⟩)
                    done)
                  focus (
                    intro WC hWC
                    (refine (size_any _ ?_ WC).mono fun e w' h => ⟨h.1, h.2 ▸ hWC⟩; first | exact H1.out | exact H2.out)
                    done)
                  go_simp
                  go_big_quiet_on)))
        refine wpQuiet_nil ?_
        intro w5 hw5
        have k0 := (hw5.cell (p := ⟨w.heap.size, 0, none⟩) hlt1).trans l0
        have k1 := (hw5.cell (p := ⟨w.heap.size, 1, none⟩) hlt1).trans l1
        have kf0 := (hw5.frozen (p := ⟨w.heap.size, 0, none⟩) hlt1).trans lf0
        have kf1 := (hw5.frozen (p := ⟨w.heap.size, 1, none⟩) hlt1).trans lf1
        have z5 := hw5.size
        have hlt5 : w.heap.size < w5.heap.size := by omega
        have B5 := B1.trans (hw5.mono B1.size)
        clear hw5 B1 l0 l1 lf0 lf1
        go_wp2_with fail
        have hc8 := setA (setA (setB (setA ⟨k0, k1⟩ (.int .i64 (N : Int))) (.int .i64 (D : Int))) (.int .i64 (-(N : Int)))) (.int .i64 (-(N : Int)))
        have hc := setB hc8 (.int .i64 (D : Int))
        exact bodyPost_ret (v := .tuple #[.agg #[.int .i64 (-(N : Int)), .int .i64 (D : Int)], .int .i64 0]) (by simp [results, Try.results29, go_sem, hc8.1, hc8.2, hc.1, hc.2, hlt5]) rfl ⟨rfl, by go_grown⟩
end Go.Proofs.Ytimaealmmjdjkaa
