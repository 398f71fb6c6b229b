/- StampsTotal, walked. -/
import Derived.Test.YtplfeelcijnkjaaStampsL1
import Derived.BigRegion
namespace Go.Proofs.Ytplfeelcijnkjaa
open Go.RowKit

theorem abc_cells {w w' : World} {a b c : St} {t t' t'' : TypeId} (h : Below (w.heap.size + 3) (((w.alloc (.cells #[.int .i64 a.time, .int .i64 a.campus, .int .i64 a.no] t)).alloc (.cells #[.int .i64 b.time, .int .i64 b.campus, .int .i64 b.no] t')).alloc (.cells #[.int .i64 c.time, .int .i64 c.campus, .int .i64 c.no] t'')) w') :
    w'.cell? ⟨w.heap.size, 0, none⟩ = some (.int .i64 a.time) ∧ w'.cell? ⟨w.heap.size, 1, none⟩ = some (.int .i64 a.campus) ∧ w'.cell? ⟨w.heap.size, 2, none⟩ = some (.int .i64 a.no) ∧
    w'.cell? ⟨w.heap.size + 1, 0, none⟩ = some (.int .i64 b.time) ∧ w'.cell? ⟨w.heap.size + 1, 1, none⟩ = some (.int .i64 b.campus) ∧ w'.cell? ⟨w.heap.size + 1, 2, none⟩ = some (.int .i64 b.no) ∧
    w'.cell? ⟨w.heap.size + 1 + 1, 0, none⟩ = some (.int .i64 c.time) ∧ w'.cell? ⟨w.heap.size + 1 + 1, 1, none⟩ = some (.int .i64 c.campus) ∧ w'.cell? ⟨w.heap.size + 1 + 1, 2, none⟩ = some (.int .i64 c.no) ∧
    w.heap.size < w'.heap.size ∧ w.heap.size + 1 < w'.heap.size ∧ w.heap.size + 1 + 1 < w'.heap.size := by
  have h2 : Below (w.heap.size + 2) ((w.alloc (.cells #[.int .i64 a.time, .int .i64 a.campus, .int .i64 a.no] t)).alloc (.cells #[.int .i64 b.time, .int .i64 b.campus, .int .i64 b.no] t')) w' := ((Below.refl _ _).alloc (by simp) _).trans (h.mono (by omega))
  obtain ⟨ca, cb⟩ := two_boxes h2
  have cc := (below_at (w.heap.size + 1 + 1) (by simp) h (by omega)).1
  have hs := h.size
  simp only [World.size_alloc] at hs
  exact ⟨ca 0, ca 1, ca 2, cb 0, cb 1, cb 2, cc 0, cc 1, cc 2, by omega, by omega, by omega⟩
theorem abc_size {w w' : World} {o o' o'' : Obj} (h : Below (w.heap.size + 3) (((w.alloc o).alloc o').alloc o'') w') : w.heap.size + 3 ≤ w'.heap.size := by
  have hs := h.size
  simpa using hs
theorem abc_end {w w' : World} {o o' o'' : Obj} (h : Below (w.heap.size + 3) (((w.alloc o).alloc o').alloc o'') w') : Below w.heap.size w w' := ((((Below.refl _ _).alloc (Nat.le_refl _) _).alloc (by simp) _).alloc (by simp; omega) _).trans (h.mono (by omega))

theorem SC6 (ta ca na tb cb nb : Int) (w : World) :
    Calls Try.prog 17 #[.agg #[.int .i64 ta, .int .i64 ca, .int .i64 na], .agg #[.int .i64 tb, .int .i64 cb, .int .i64 nb]] w fun e w' => e = .returned (.int .i64 (cmpS ⟨ta, ca, na⟩ ⟨tb, cb, nb⟩)) ∧ Below w.heap.size w w' := SCompare_any ⟨ta, ca, na⟩ ⟨tb, cb, nb⟩ w

set_option maxHeartbeats 8000000 in
theorem StampsTotal_any {w : World} (a : St) (ha : a.ok) (b : St) (hb : b.ok) (c : St) (hc : c.ok) :
    Calls Try.prog 5 #[a.v, b.v, c.v] w fun e w' => e = .returned (.bool true) ∧ Below w.heap.size w w' := by
  clear ha hb hc
  obtain ⟨tc, cc, nc⟩ := c
  by_cases hab : a = b
  · subst hab
    obtain ⟨ta, ca, na⟩ := a
    have hz : Hid (cmpS ⟨ta, ca, na⟩ ⟨ta, ca, na⟩ = 0) := Lib.hid (cmpS_zero.2 rfl)
    have hk := cmpS_cases ⟨ta, ca, na⟩ ⟨tc, cc, nc⟩
    obtain ⟨k, hkk⟩ : ∃ k, k = cmpS ⟨ta, ca, na⟩ ⟨tc, cc, nc⟩ := ⟨_, rfl⟩
    have HK := Lib.hid hkk.symm
    rw [← hkk] at hk
    have hk3 : k = -1 ∨ k = 0 ∨ k = 1 := by omega
    clear hk hkk
    rcases hk3 with rfl | rfl | rfl
    · unfold St.v
      go_enter Try.func5, Try.ntmps5
      go_wp2_with fail
      refine (sane_any _).mono ?_
      rintro e w1 ⟨rfl, hb1⟩
      have G1 : Below (w.heap.size + 3) _ w1 := hb1.mono (by simp)
      clear hb1
      obtain ⟨a0, a1, a2, b0, b1, b2, c0, c1, c2, r0, r1, r2⟩ := abc_cells (a := ⟨ta, ca, na⟩) (b := ⟨ta, ca, na⟩) (c := ⟨tc, cc, nc⟩) G1
      go_wp2_with fail
      refine wp_region_below (by kernel_rfl) (by kernel_rfl) ?_
      repeat (first
        | go_big_quiet_skip
        | (go_big_quiet_want
           first
             | (apply quiet_val
                focus (
                  intro WC hWC
                  obtain ⟨hcc0, hff0⟩ := bcell hWC
                  go_simp
                  all_goals rfl
                  done)
                go_simp
                go_big_quiet_on)
             | (apply quiet_call
                focus (
                  intro WC hWC
                  go_simp
                  all_goals (first | rfl | exact ⟨rfl, rfl⟩)
                  done)
                focus (
                  intro WC hWC
                  exact (SC6 _ _ _ _ _ _ WC).mono fun e w' h => ⟨by first | rw [h.1, hz.out] | rw [h.1, hz.out], hWC.trans (h.2.mono hWC.size)⟩
                  done)
                go_simp
                go_big_quiet_on)))
      refine wpQuiet_nil ?_
      intro w3 hw3
      have G3 := G1.trans (hw3.mono (abc_size G1))
      clear hw3
      obtain ⟨a0, a1, a2, b0, b1, b2, c0, c1, c2, r0, r1, r2⟩ := abc_cells (a := ⟨ta, ca, na⟩) (b := ⟨ta, ca, na⟩) (c := ⟨tc, cc, nc⟩) G3
      go_wp2_with fail
      try (go_region; go_wp2_with fail)
      refine (SC6 _ _ _ _ _ _ _).mono ?_
      rw [HK.out]
      rintro e w4 ⟨rfl, hb4⟩
      have G4 := G3.trans (hb4.mono (abc_size G3))
      clear hb4
      obtain ⟨a0, a1, a2, b0, b1, b2, c0, c1, c2, r0, r1, r2⟩ := abc_cells (a := ⟨ta, ca, na⟩) (b := ⟨ta, ca, na⟩) (c := ⟨tc, cc, nc⟩) G4
      go_wp2_with fail
      refine (SC6 _ _ _ _ _ _ _).mono ?_
      rw [HK.out]
      rintro e w5 ⟨rfl, hb5⟩
      have G5 := G4.trans (hb5.mono (abc_size G4))
      clear hb5
      obtain ⟨a0, a1, a2, b0, b1, b2, c0, c1, c2, r0, r1, r2⟩ := abc_cells (a := ⟨ta, ca, na⟩) (b := ⟨ta, ca, na⟩) (c := ⟨tc, cc, nc⟩) G5
      go_wp2_with fail
      go_ret
      first | exact ⟨rfl, abc_end G5⟩ | exact ⟨ret_bool (by simp [*]), abc_end G5⟩
    · unfold St.v
      go_enter Try.func5, Try.ntmps5
      go_wp2_with fail
      refine (sane_any _).mono ?_
      rintro e w1 ⟨rfl, hb1⟩
      have G1 : Below (w.heap.size + 3) _ w1 := hb1.mono (by simp)
      clear hb1
      obtain ⟨a0, a1, a2, b0, b1, b2, c0, c1, c2, r0, r1, r2⟩ := abc_cells (a := ⟨ta, ca, na⟩) (b := ⟨ta, ca, na⟩) (c := ⟨tc, cc, nc⟩) G1
      go_wp2_with fail
      refine wp_region_below (by kernel_rfl) (by kernel_rfl) ?_
      repeat (first
        | go_big_quiet_skip
        | (go_big_quiet_want
           first
             | (apply quiet_val
                focus (
                  intro WC hWC
                  obtain ⟨hcc0, hff0⟩ := bcell hWC
                  go_simp
                  all_goals rfl
                  done)
                go_simp
                go_big_quiet_on)
             | (apply quiet_call
                focus (
                  intro WC hWC
                  go_simp
                  all_goals (first | rfl | exact ⟨rfl, rfl⟩)
                  done)
                focus (
                  intro WC hWC
                  exact (SC6 _ _ _ _ _ _ WC).mono fun e w' h => ⟨by first | rw [h.1, hz.out] | rw [h.1, hz.out], hWC.trans (h.2.mono hWC.size)⟩
                  done)
                go_simp
                go_big_quiet_on)))
      refine wpQuiet_nil ?_
      intro w3 hw3
      have G3 := G1.trans (hw3.mono (abc_size G1))
      clear hw3
      obtain ⟨a0, a1, a2, b0, b1, b2, c0, c1, c2, r0, r1, r2⟩ := abc_cells (a := ⟨ta, ca, na⟩) (b := ⟨ta, ca, na⟩) (c := ⟨tc, cc, nc⟩) G3
      go_wp2_with fail
      try (go_region; go_wp2_with fail)
      refine (SC6 _ _ _ _ _ _ _).mono ?_
      rw [HK.out]
      rintro e w4 ⟨rfl, hb4⟩
      have G4 := G3.trans (hb4.mono (abc_size G3))
      clear hb4
      obtain ⟨a0, a1, a2, b0, b1, b2, c0, c1, c2, r0, r1, r2⟩ := abc_cells (a := ⟨ta, ca, na⟩) (b := ⟨ta, ca, na⟩) (c := ⟨tc, cc, nc⟩) G4
      go_wp2_with fail
      refine (SC6 _ _ _ _ _ _ _).mono ?_
      rw [HK.out]
      rintro e w5 ⟨rfl, hb5⟩
      have G5 := G4.trans (hb5.mono (abc_size G4))
      clear hb5
      obtain ⟨a0, a1, a2, b0, b1, b2, c0, c1, c2, r0, r1, r2⟩ := abc_cells (a := ⟨ta, ca, na⟩) (b := ⟨ta, ca, na⟩) (c := ⟨tc, cc, nc⟩) G5
      go_wp2_with fail
      go_ret
      first | exact ⟨rfl, abc_end G5⟩ | exact ⟨ret_bool (by simp [*]), abc_end G5⟩
    · unfold St.v
      go_enter Try.func5, Try.ntmps5
      go_wp2_with fail
      refine (sane_any _).mono ?_
      rintro e w1 ⟨rfl, hb1⟩
      have G1 : Below (w.heap.size + 3) _ w1 := hb1.mono (by simp)
      clear hb1
      obtain ⟨a0, a1, a2, b0, b1, b2, c0, c1, c2, r0, r1, r2⟩ := abc_cells (a := ⟨ta, ca, na⟩) (b := ⟨ta, ca, na⟩) (c := ⟨tc, cc, nc⟩) G1
      go_wp2_with fail
      refine wp_region_below (by kernel_rfl) (by kernel_rfl) ?_
      repeat (first
        | go_big_quiet_skip
        | (go_big_quiet_want
           first
             | (apply quiet_val
                focus (
                  intro WC hWC
                  obtain ⟨hcc0, hff0⟩ := bcell hWC
                  go_simp
                  all_goals rfl
                  done)
                go_simp
                go_big_quiet_on)
             | (apply quiet_call
                focus (
                  intro WC hWC
                  go_simp
                  all_goals (first | rfl | exact ⟨rfl, rfl⟩)
                  done)
                focus (
                  intro WC hWC
                  exact (SC6 _ _ _ _ _ _ WC).mono fun e w' h => ⟨by first | rw [h.1, hz.out] | rw [h.1, hz.out], hWC.trans (h.2.mono hWC.size)⟩
                  done)
                go_simp
                go_big_quiet_on)))
      refine wpQuiet_nil ?_
      intro w3 hw3
      have G3 := G1.trans (hw3.mono (abc_size G1))
      clear hw3
      obtain ⟨a0, a1, a2, b0, b1, b2, c0, c1, c2, r0, r1, r2⟩ := abc_cells (a := ⟨ta, ca, na⟩) (b := ⟨ta, ca, na⟩) (c := ⟨tc, cc, nc⟩) G3
      go_wp2_with fail
      try (go_region; go_wp2_with fail)
      refine (SC6 _ _ _ _ _ _ _).mono ?_
      rw [HK.out]
      rintro e w4 ⟨rfl, hb4⟩
      have G4 := G3.trans (hb4.mono (abc_size G3))
      clear hb4
      obtain ⟨a0, a1, a2, b0, b1, b2, c0, c1, c2, r0, r1, r2⟩ := abc_cells (a := ⟨ta, ca, na⟩) (b := ⟨ta, ca, na⟩) (c := ⟨tc, cc, nc⟩) G4
      go_wp2_with fail
      go_ret
      first | exact ⟨rfl, abc_end G4⟩ | exact ⟨ret_bool (by simp [*]), abc_end G4⟩
  · have hn := cmpS_cases a b
    have hm := cmpS_turn a b
    have hne : cmpS a b ≠ 0 := fun e => hab (cmpS_zero.1 e)
    have htr : cmpS b ⟨tc, cc, nc⟩ ≤ 0 → cmpS a b ≤ 0 → cmpS a ⟨tc, cc, nc⟩ ≤ 0 := fun h1 h2 => cmpS_trans' h2 h1
    have hk := cmpS_cases b ⟨tc, cc, nc⟩
    have hl := cmpS_cases a ⟨tc, cc, nc⟩
    obtain ⟨n, hnn⟩ : ∃ k, k = cmpS a b := ⟨_, rfl⟩
    obtain ⟨m, hmm⟩ : ∃ k, k = cmpS b a := ⟨_, rfl⟩
    obtain ⟨k, hkk⟩ : ∃ k, k = cmpS b ⟨tc, cc, nc⟩ := ⟨_, rfl⟩
    obtain ⟨l, hll⟩ : ∃ k, k = cmpS a ⟨tc, cc, nc⟩ := ⟨_, rfl⟩
    have HN := Lib.hid hnn.symm
    have HM := Lib.hid hmm.symm
    have HK := Lib.hid hkk.symm
    have HL := Lib.hid hll.symm
    rw [← hnn] at hn hm hne htr
    rw [← hmm] at hm
    rw [← hkk] at hk htr
    rw [← hll] at hl htr
    have hall : (n = 1 ∧ m = -1) ∨ (n = -1 ∧ m = 1 ∧ k = 1) ∨ (n = -1 ∧ m = 1 ∧ k ≤ 0 ∧ l ≤ 0) := by
      by_cases h0 : k ≤ 0
      · by_cases h1 : n ≤ 0
        · have := htr h0 h1; omega
        · omega
      · omega
    clear hn hm hne htr hk hl hnn hmm hkk hll
    obtain ⟨ta, ca, na⟩ := a
    obtain ⟨tb, cb, nb⟩ := b
    have hc : ¬ ta = tb ∨ (ta = tb ∧ ¬ ca = cb) ∨ (ta = tb ∧ ca = cb ∧ ¬ na = nb) := by
      simp only [St.mk.injEq] at hab
      omega
    clear hab
    rcases hall with ⟨rfl, rfl⟩ | ⟨rfl, rfl, rfl⟩ | ⟨rfl, rfl, hk0, hl0⟩
    · rcases hc with h | ⟨rfl, h⟩ | ⟨rfl, rfl, h⟩
      · unfold St.v
        go_enter Try.func5, Try.ntmps5
        go_wp2_with fail
        refine (sane_any _).mono ?_
        rintro e w1 ⟨rfl, hb1⟩
        have G1 : Below (w.heap.size + 3) _ w1 := hb1.mono (by simp)
        clear hb1
        obtain ⟨a0, a1, a2, b0, b1, b2, c0, c1, c2, r0, r1, r2⟩ := abc_cells (a := ⟨ta, ca, na⟩) (b := ⟨tb, cb, nb⟩) (c := ⟨tc, cc, nc⟩) G1
        go_wp2_with fail
        refine wp_region_below (by kernel_rfl) (by kernel_rfl) ?_
        repeat (first
          | go_big_quiet_skip
          | (go_big_quiet_want
             first
               | (apply quiet_val
                  focus (
                    intro WC hWC
                    obtain ⟨hcc0, hff0⟩ := bcell hWC
                    go_simp
                    all_goals rfl
                    done)
                  go_simp
                  go_big_quiet_on)
               | (apply quiet_call
                  focus (
                    intro WC hWC
                    go_simp
                    all_goals (first | rfl | exact ⟨rfl, rfl⟩)
                    done)
                  focus (
                    intro WC hWC
                    exact (SC6 _ _ _ _ _ _ WC).mono fun e w' h => ⟨by first | rw [h.1, HN.out] | rw [h.1, HM.out], hWC.trans (h.2.mono hWC.size)⟩
                    done)
                  go_simp
                  go_big_quiet_on)))
        refine wpQuiet_nil ?_
        intro w3 hw3
        have G3 := G1.trans (hw3.mono (abc_size G1))
        clear hw3
        obtain ⟨a0, a1, a2, b0, b1, b2, c0, c1, c2, r0, r1, r2⟩ := abc_cells (a := ⟨ta, ca, na⟩) (b := ⟨tb, cb, nb⟩) (c := ⟨tc, cc, nc⟩) G3
        go_wp2_with fail
        try (go_region; go_wp2_with fail)
        try (go_region; go_wp2_with fail)
        go_ret
        first | exact ⟨rfl, abc_end G3⟩ | exact ⟨rfl, abc_end G3.drew⟩ | exact ⟨rfl, abc_end G3.drew.drew⟩
      · unfold St.v
        go_enter Try.func5, Try.ntmps5
        go_wp2_with fail
        refine (sane_any _).mono ?_
        rintro e w1 ⟨rfl, hb1⟩
        have G1 : Below (w.heap.size + 3) _ w1 := hb1.mono (by simp)
        clear hb1
        obtain ⟨a0, a1, a2, b0, b1, b2, c0, c1, c2, r0, r1, r2⟩ := abc_cells (a := ⟨ta, ca, na⟩) (b := ⟨ta, cb, nb⟩) (c := ⟨tc, cc, nc⟩) G1
        go_wp2_with fail
        refine wp_region_below (by kernel_rfl) (by kernel_rfl) ?_
        repeat (first
          | go_big_quiet_skip
          | (go_big_quiet_want
             first
               | (apply quiet_val
                  focus (
                    intro WC hWC
                    obtain ⟨hcc0, hff0⟩ := bcell hWC
                    go_simp
                    all_goals rfl
                    done)
                  go_simp
                  go_big_quiet_on)
               | (apply quiet_call
                  focus (
                    intro WC hWC
                    go_simp
                    all_goals (first | rfl | exact ⟨rfl, rfl⟩)
                    done)
                  focus (
                    intro WC hWC
                    exact (SC6 _ _ _ _ _ _ WC).mono fun e w' h => ⟨by first | rw [h.1, HN.out] | rw [h.1, HM.out], hWC.trans (h.2.mono hWC.size)⟩
                    done)
                  go_simp
                  go_big_quiet_on)))
        refine wpQuiet_nil ?_
        intro w3 hw3
        have G3 := G1.trans (hw3.mono (abc_size G1))
        clear hw3
        obtain ⟨a0, a1, a2, b0, b1, b2, c0, c1, c2, r0, r1, r2⟩ := abc_cells (a := ⟨ta, ca, na⟩) (b := ⟨ta, cb, nb⟩) (c := ⟨tc, cc, nc⟩) G3
        go_wp2_with fail
        try (go_region; go_wp2_with fail)
        try (go_region; go_wp2_with fail)
        go_ret
        first | exact ⟨rfl, abc_end G3⟩ | exact ⟨rfl, abc_end G3.drew⟩ | exact ⟨rfl, abc_end G3.drew.drew⟩
      · unfold St.v
        go_enter Try.func5, Try.ntmps5
        go_wp2_with fail
        refine (sane_any _).mono ?_
        rintro e w1 ⟨rfl, hb1⟩
        have G1 : Below (w.heap.size + 3) _ w1 := hb1.mono (by simp)
        clear hb1
        obtain ⟨a0, a1, a2, b0, b1, b2, c0, c1, c2, r0, r1, r2⟩ := abc_cells (a := ⟨ta, ca, na⟩) (b := ⟨ta, ca, nb⟩) (c := ⟨tc, cc, nc⟩) G1
        go_wp2_with fail
        refine wp_region_below (by kernel_rfl) (by kernel_rfl) ?_
        repeat (first
          | go_big_quiet_skip
          | (go_big_quiet_want
             first
               | (apply quiet_val
                  focus (
                    intro WC hWC
                    obtain ⟨hcc0, hff0⟩ := bcell hWC
                    go_simp
                    all_goals rfl
                    done)
                  go_simp
                  go_big_quiet_on)
               | (apply quiet_call
                  focus (
                    intro WC hWC
                    go_simp
                    all_goals (first | rfl | exact ⟨rfl, rfl⟩)
                    done)
                  focus (
                    intro WC hWC
                    exact (SC6 _ _ _ _ _ _ WC).mono fun e w' h => ⟨by first | rw [h.1, HN.out] | rw [h.1, HM.out], hWC.trans (h.2.mono hWC.size)⟩
                    done)
                  go_simp
                  go_big_quiet_on)))
        refine wpQuiet_nil ?_
        intro w3 hw3
        have G3 := G1.trans (hw3.mono (abc_size G1))
        clear hw3
        obtain ⟨a0, a1, a2, b0, b1, b2, c0, c1, c2, r0, r1, r2⟩ := abc_cells (a := ⟨ta, ca, na⟩) (b := ⟨ta, ca, nb⟩) (c := ⟨tc, cc, nc⟩) G3
        go_wp2_with fail
        try (go_region; go_wp2_with fail)
        try (go_region; go_wp2_with fail)
        go_ret
        first | exact ⟨rfl, abc_end G3⟩ | exact ⟨rfl, abc_end G3.drew⟩ | exact ⟨rfl, abc_end G3.drew.drew⟩
    · rcases hc with h | ⟨rfl, h⟩ | ⟨rfl, rfl, h⟩
      · unfold St.v
        go_enter Try.func5, Try.ntmps5
        go_wp2_with fail
        refine (sane_any _).mono ?_
        rintro e w1 ⟨rfl, hb1⟩
        have G1 : Below (w.heap.size + 3) _ w1 := hb1.mono (by simp)
        clear hb1
        obtain ⟨a0, a1, a2, b0, b1, b2, c0, c1, c2, r0, r1, r2⟩ := abc_cells (a := ⟨ta, ca, na⟩) (b := ⟨tb, cb, nb⟩) (c := ⟨tc, cc, nc⟩) G1
        go_wp2_with fail
        refine wp_region_below (by kernel_rfl) (by kernel_rfl) ?_
        repeat (first
          | go_big_quiet_skip
          | (go_big_quiet_want
             first
               | (apply quiet_val
                  focus (
                    intro WC hWC
                    obtain ⟨hcc0, hff0⟩ := bcell hWC
                    go_simp
                    all_goals rfl
                    done)
                  go_simp
                  go_big_quiet_on)
               | (apply quiet_call
                  focus (
                    intro WC hWC
                    go_simp
                    all_goals (first | rfl | exact ⟨rfl, rfl⟩)
                    done)
                  focus (
                    intro WC hWC
                    exact (SC6 _ _ _ _ _ _ WC).mono fun e w' h => ⟨by first | rw [h.1, HN.out] | rw [h.1, HM.out], hWC.trans (h.2.mono hWC.size)⟩
                    done)
                  go_simp
                  go_big_quiet_on)))
        refine wpQuiet_nil ?_
        intro w3 hw3
        have G3 := G1.trans (hw3.mono (abc_size G1))
        clear hw3
        obtain ⟨a0, a1, a2, b0, b1, b2, c0, c1, c2, r0, r1, r2⟩ := abc_cells (a := ⟨ta, ca, na⟩) (b := ⟨tb, cb, nb⟩) (c := ⟨tc, cc, nc⟩) G3
        go_wp2_with fail
        try (go_region; go_wp2_with fail)
        refine (SC6 _ _ _ _ _ _ _).mono ?_
        rw [HK.out]
        rintro e w4 ⟨rfl, hb4⟩
        have G4 := G3.trans (hb4.mono (abc_size G3))
        clear hb4
        obtain ⟨a0, a1, a2, b0, b1, b2, c0, c1, c2, r0, r1, r2⟩ := abc_cells (a := ⟨ta, ca, na⟩) (b := ⟨tb, cb, nb⟩) (c := ⟨tc, cc, nc⟩) G4
        go_wp2_with fail
        go_ret
        first | exact ⟨rfl, abc_end G4⟩ | exact ⟨ret_bool (by simp [*]), abc_end G4⟩
      · unfold St.v
        go_enter Try.func5, Try.ntmps5
        go_wp2_with fail
        refine (sane_any _).mono ?_
        rintro e w1 ⟨rfl, hb1⟩
        have G1 : Below (w.heap.size + 3) _ w1 := hb1.mono (by simp)
        clear hb1
        obtain ⟨a0, a1, a2, b0, b1, b2, c0, c1, c2, r0, r1, r2⟩ := abc_cells (a := ⟨ta, ca, na⟩) (b := ⟨ta, cb, nb⟩) (c := ⟨tc, cc, nc⟩) G1
        go_wp2_with fail
        refine wp_region_below (by kernel_rfl) (by kernel_rfl) ?_
        repeat (first
          | go_big_quiet_skip
          | (go_big_quiet_want
             first
               | (apply quiet_val
                  focus (
                    intro WC hWC
                    obtain ⟨hcc0, hff0⟩ := bcell hWC
                    go_simp
                    all_goals rfl
                    done)
                  go_simp
                  go_big_quiet_on)
               | (apply quiet_call
                  focus (
                    intro WC hWC
                    go_simp
                    all_goals (first | rfl | exact ⟨rfl, rfl⟩)
                    done)
                  focus (
                    intro WC hWC
                    exact (SC6 _ _ _ _ _ _ WC).mono fun e w' h => ⟨by first | rw [h.1, HN.out] | rw [h.1, HM.out], hWC.trans (h.2.mono hWC.size)⟩
                    done)
                  go_simp
                  go_big_quiet_on)))
        refine wpQuiet_nil ?_
        intro w3 hw3
        have G3 := G1.trans (hw3.mono (abc_size G1))
        clear hw3
        obtain ⟨a0, a1, a2, b0, b1, b2, c0, c1, c2, r0, r1, r2⟩ := abc_cells (a := ⟨ta, ca, na⟩) (b := ⟨ta, cb, nb⟩) (c := ⟨tc, cc, nc⟩) G3
        go_wp2_with fail
        try (go_region; go_wp2_with fail)
        refine (SC6 _ _ _ _ _ _ _).mono ?_
        rw [HK.out]
        rintro e w4 ⟨rfl, hb4⟩
        have G4 := G3.trans (hb4.mono (abc_size G3))
        clear hb4
        obtain ⟨a0, a1, a2, b0, b1, b2, c0, c1, c2, r0, r1, r2⟩ := abc_cells (a := ⟨ta, ca, na⟩) (b := ⟨ta, cb, nb⟩) (c := ⟨tc, cc, nc⟩) G4
        go_wp2_with fail
        go_ret
        first | exact ⟨rfl, abc_end G4⟩ | exact ⟨ret_bool (by simp [*]), abc_end G4⟩
      · unfold St.v
        go_enter Try.func5, Try.ntmps5
        go_wp2_with fail
        refine (sane_any _).mono ?_
        rintro e w1 ⟨rfl, hb1⟩
        have G1 : Below (w.heap.size + 3) _ w1 := hb1.mono (by simp)
        clear hb1
        obtain ⟨a0, a1, a2, b0, b1, b2, c0, c1, c2, r0, r1, r2⟩ := abc_cells (a := ⟨ta, ca, na⟩) (b := ⟨ta, ca, nb⟩) (c := ⟨tc, cc, nc⟩) G1
        go_wp2_with fail
        refine wp_region_below (by kernel_rfl) (by kernel_rfl) ?_
        repeat (first
          | go_big_quiet_skip
          | (go_big_quiet_want
             first
               | (apply quiet_val
                  focus (
                    intro WC hWC
                    obtain ⟨hcc0, hff0⟩ := bcell hWC
                    go_simp
                    all_goals rfl
                    done)
                  go_simp
                  go_big_quiet_on)
               | (apply quiet_call
                  focus (
                    intro WC hWC
                    go_simp
                    all_goals (first | rfl | exact ⟨rfl, rfl⟩)
                    done)
                  focus (
                    intro WC hWC
                    exact (SC6 _ _ _ _ _ _ WC).mono fun e w' h => ⟨by first | rw [h.1, HN.out] | rw [h.1, HM.out], hWC.trans (h.2.mono hWC.size)⟩
                    done)
                  go_simp
                  go_big_quiet_on)))
        refine wpQuiet_nil ?_
        intro w3 hw3
        have G3 := G1.trans (hw3.mono (abc_size G1))
        clear hw3
        obtain ⟨a0, a1, a2, b0, b1, b2, c0, c1, c2, r0, r1, r2⟩ := abc_cells (a := ⟨ta, ca, na⟩) (b := ⟨ta, ca, nb⟩) (c := ⟨tc, cc, nc⟩) G3
        go_wp2_with fail
        try (go_region; go_wp2_with fail)
        refine (SC6 _ _ _ _ _ _ _).mono ?_
        rw [HK.out]
        rintro e w4 ⟨rfl, hb4⟩
        have G4 := G3.trans (hb4.mono (abc_size G3))
        clear hb4
        obtain ⟨a0, a1, a2, b0, b1, b2, c0, c1, c2, r0, r1, r2⟩ := abc_cells (a := ⟨ta, ca, na⟩) (b := ⟨ta, ca, nb⟩) (c := ⟨tc, cc, nc⟩) G4
        go_wp2_with fail
        go_ret
        first | exact ⟨rfl, abc_end G4⟩ | exact ⟨ret_bool (by simp [*]), abc_end G4⟩
    · rcases hc with h | ⟨rfl, h⟩ | ⟨rfl, rfl, h⟩
      · unfold St.v
        go_enter Try.func5, Try.ntmps5
        go_wp2_with fail
        refine (sane_any _).mono ?_
        rintro e w1 ⟨rfl, hb1⟩
        have G1 : Below (w.heap.size + 3) _ w1 := hb1.mono (by simp)
        clear hb1
        obtain ⟨a0, a1, a2, b0, b1, b2, c0, c1, c2, r0, r1, r2⟩ := abc_cells (a := ⟨ta, ca, na⟩) (b := ⟨tb, cb, nb⟩) (c := ⟨tc, cc, nc⟩) G1
        go_wp2_with fail
        refine wp_region_below (by kernel_rfl) (by kernel_rfl) ?_
        repeat (first
          | go_big_quiet_skip
          | (go_big_quiet_want
             first
               | (apply quiet_val
                  focus (
                    intro WC hWC
                    obtain ⟨hcc0, hff0⟩ := bcell hWC
                    go_simp
                    all_goals rfl
                    done)
                  go_simp
                  go_big_quiet_on)
               | (apply quiet_call
                  focus (
                    intro WC hWC
                    go_simp
                    all_goals (first | rfl | exact ⟨rfl, rfl⟩)
                    done)
                  focus (
                    intro WC hWC
                    exact (SC6 _ _ _ _ _ _ WC).mono fun e w' h => ⟨by first | rw [h.1, HN.out] | rw [h.1, HM.out], hWC.trans (h.2.mono hWC.size)⟩
                    done)
                  go_simp
                  go_big_quiet_on)))
        refine wpQuiet_nil ?_
        intro w3 hw3
        have G3 := G1.trans (hw3.mono (abc_size G1))
        clear hw3
        obtain ⟨a0, a1, a2, b0, b1, b2, c0, c1, c2, r0, r1, r2⟩ := abc_cells (a := ⟨ta, ca, na⟩) (b := ⟨tb, cb, nb⟩) (c := ⟨tc, cc, nc⟩) G3
        go_wp2_with fail
        try (go_region; go_wp2_with fail)
        refine (SC6 _ _ _ _ _ _ _).mono ?_
        rw [HK.out]
        rintro e w4 ⟨rfl, hb4⟩
        have G4 := G3.trans (hb4.mono (abc_size G3))
        clear hb4
        obtain ⟨a0, a1, a2, b0, b1, b2, c0, c1, c2, r0, r1, r2⟩ := abc_cells (a := ⟨ta, ca, na⟩) (b := ⟨tb, cb, nb⟩) (c := ⟨tc, cc, nc⟩) G4
        go_wp2_with fail
        refine (SC6 _ _ _ _ _ _ _).mono ?_
        rw [HL.out]
        rintro e w5 ⟨rfl, hb5⟩
        have G5 := G4.trans (hb5.mono (abc_size G4))
        clear hb5
        obtain ⟨a0, a1, a2, b0, b1, b2, c0, c1, c2, r0, r1, r2⟩ := abc_cells (a := ⟨ta, ca, na⟩) (b := ⟨tb, cb, nb⟩) (c := ⟨tc, cc, nc⟩) G5
        go_wp2_with fail
        go_ret
        first | exact ⟨rfl, abc_end G5⟩ | exact ⟨ret_bool (by simp [*]), abc_end G5⟩
      · unfold St.v
        go_enter Try.func5, Try.ntmps5
        go_wp2_with fail
        refine (sane_any _).mono ?_
        rintro e w1 ⟨rfl, hb1⟩
        have G1 : Below (w.heap.size + 3) _ w1 := hb1.mono (by simp)
        clear hb1
        obtain ⟨a0, a1, a2, b0, b1, b2, c0, c1, c2, r0, r1, r2⟩ := abc_cells (a := ⟨ta, ca, na⟩) (b := ⟨ta, cb, nb⟩) (c := ⟨tc, cc, nc⟩) G1
        go_wp2_with fail
        refine wp_region_below (by kernel_rfl) (by kernel_rfl) ?_
        repeat (first
          | go_big_quiet_skip
          | (go_big_quiet_want
             first
               | (apply quiet_val
                  focus (
                    intro WC hWC
                    obtain ⟨hcc0, hff0⟩ := bcell hWC
                    go_simp
                    all_goals rfl
                    done)
                  go_simp
                  go_big_quiet_on)
               | (apply quiet_call
                  focus (
                    intro WC hWC
                    go_simp
                    all_goals (first | rfl | exact ⟨rfl, rfl⟩)
                    done)
                  focus (
                    intro WC hWC
                    exact (SC6 _ _ _ _ _ _ WC).mono fun e w' h => ⟨by first | rw [h.1, HN.out] | rw [h.1, HM.out], hWC.trans (h.2.mono hWC.size)⟩
                    done)
                  go_simp
                  go_big_quiet_on)))
        refine wpQuiet_nil ?_
        intro w3 hw3
        have G3 := G1.trans (hw3.mono (abc_size G1))
        clear hw3
        obtain ⟨a0, a1, a2, b0, b1, b2, c0, c1, c2, r0, r1, r2⟩ := abc_cells (a := ⟨ta, ca, na⟩) (b := ⟨ta, cb, nb⟩) (c := ⟨tc, cc, nc⟩) G3
        go_wp2_with fail
        try (go_region; go_wp2_with fail)
        refine (SC6 _ _ _ _ _ _ _).mono ?_
        rw [HK.out]
        rintro e w4 ⟨rfl, hb4⟩
        have G4 := G3.trans (hb4.mono (abc_size G3))
        clear hb4
        obtain ⟨a0, a1, a2, b0, b1, b2, c0, c1, c2, r0, r1, r2⟩ := abc_cells (a := ⟨ta, ca, na⟩) (b := ⟨ta, cb, nb⟩) (c := ⟨tc, cc, nc⟩) G4
        go_wp2_with fail
        refine (SC6 _ _ _ _ _ _ _).mono ?_
        rw [HL.out]
        rintro e w5 ⟨rfl, hb5⟩
        have G5 := G4.trans (hb5.mono (abc_size G4))
        clear hb5
        obtain ⟨a0, a1, a2, b0, b1, b2, c0, c1, c2, r0, r1, r2⟩ := abc_cells (a := ⟨ta, ca, na⟩) (b := ⟨ta, cb, nb⟩) (c := ⟨tc, cc, nc⟩) G5
        go_wp2_with fail
        go_ret
        first | exact ⟨rfl, abc_end G5⟩ | exact ⟨ret_bool (by simp [*]), abc_end G5⟩
      · unfold St.v
        go_enter Try.func5, Try.ntmps5
        go_wp2_with fail
        refine (sane_any _).mono ?_
        rintro e w1 ⟨rfl, hb1⟩
        have G1 : Below (w.heap.size + 3) _ w1 := hb1.mono (by simp)
        clear hb1
        obtain ⟨a0, a1, a2, b0, b1, b2, c0, c1, c2, r0, r1, r2⟩ := abc_cells (a := ⟨ta, ca, na⟩) (b := ⟨ta, ca, nb⟩) (c := ⟨tc, cc, nc⟩) G1
        go_wp2_with fail
        refine wp_region_below (by kernel_rfl) (by kernel_rfl) ?_
        repeat (first
          | go_big_quiet_skip
          | (go_big_quiet_want
             first
               | (apply quiet_val
                  focus (
                    intro WC hWC
                    obtain ⟨hcc0, hff0⟩ := bcell hWC
                    go_simp
                    all_goals rfl
                    done)
                  go_simp
                  go_big_quiet_on)
               | (apply quiet_call
                  focus (
                    intro WC hWC
                    go_simp
                    all_goals (first | rfl | exact ⟨rfl, rfl⟩)
                    done)
                  focus (
                    intro WC hWC
                    exact (SC6 _ _ _ _ _ _ WC).mono fun e w' h => ⟨by first | rw [h.1, HN.out] | rw [h.1, HM.out], hWC.trans (h.2.mono hWC.size)⟩
                    done)
                  go_simp
                  go_big_quiet_on)))
        refine wpQuiet_nil ?_
        intro w3 hw3
        have G3 := G1.trans (hw3.mono (abc_size G1))
        clear hw3
        obtain ⟨a0, a1, a2, b0, b1, b2, c0, c1, c2, r0, r1, r2⟩ := abc_cells (a := ⟨ta, ca, na⟩) (b := ⟨ta, ca, nb⟩) (c := ⟨tc, cc, nc⟩) G3
        go_wp2_with fail
        try (go_region; go_wp2_with fail)
        refine (SC6 _ _ _ _ _ _ _).mono ?_
        rw [HK.out]
        rintro e w4 ⟨rfl, hb4⟩
        have G4 := G3.trans (hb4.mono (abc_size G3))
        clear hb4
        obtain ⟨a0, a1, a2, b0, b1, b2, c0, c1, c2, r0, r1, r2⟩ := abc_cells (a := ⟨ta, ca, na⟩) (b := ⟨ta, ca, nb⟩) (c := ⟨tc, cc, nc⟩) G4
        go_wp2_with fail
        refine (SC6 _ _ _ _ _ _ _).mono ?_
        rw [HL.out]
        rintro e w5 ⟨rfl, hb5⟩
        have G5 := G4.trans (hb5.mono (abc_size G4))
        clear hb5
        obtain ⟨a0, a1, a2, b0, b1, b2, c0, c1, c2, r0, r1, r2⟩ := abc_cells (a := ⟨ta, ca, na⟩) (b := ⟨ta, ca, nb⟩) (c := ⟨tc, cc, nc⟩) G5
        go_wp2_with fail
        go_ret
        first | exact ⟨rfl, abc_end G5⟩ | exact ⟨ret_bool (by simp [*]), abc_end G5⟩
end Go.Proofs.Ytplfeelcijnkjaa
