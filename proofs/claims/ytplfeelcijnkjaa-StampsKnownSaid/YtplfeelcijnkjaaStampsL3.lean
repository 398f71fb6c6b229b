/- StampsKnown, walked. -/
import Derived.Test.YtplfeelcijnkjaaStampsL1
import Derived.BigRegion
import Derived.WalkArith
namespace Go.Proofs.Ytplfeelcijnkjaa
open Go.RowKit

theorem ofS_known {s : St} (h : s.good = true) : ofS (8 * s.time + s.campus) = (s.time, s.campus, 0) := by
  obtain ⟨h1, h2, h3, h4, _, _⟩ := good_bounds h
  have e1 : (8 * s.time + s.campus).tdiv 8 = s.time := by rw [Int.tdiv_eq_ediv_of_nonneg (by omega)]; omega
  have e2 : (8 * s.time + s.campus).tmod 8 = s.campus := by rw [Int.tmod_eq_emod_of_nonneg (by omega)]; omega
  have hg : (⟨s.time, s.campus, 1⟩ : St).good = true := by simp [St.good]; omega
  simp only [ofS, e1, e2, hg, if_true]

set_option maxHeartbeats 2000000 in
theorem StampsKnown_any {w : World} (a : St) (ha : a.ok) (b : St) (hb : b.ok) :
    Calls Try.prog 6 #[a.v, b.v] w fun e w' => e = .returned (.bool true) ∧ Below w.heap.size w w' := by
  clear ha hb
  cases hga : a.good
  · have h1 : Hid (knownS a = (0, 80)) := Lib.hid (by simp [knownS, hga])
    have h2 : Hid (checkS a = 80) := Lib.hid (by simp [checkS, hga])
    cases hgb : b.good
    · have h3 : Hid (knownS b = (0, 80)) := Lib.hid (by simp [knownS, hgb])
      clear hga hgb
      unfold St.v
      go_enter Try.func6, Try.ntmps6
      go_wp2_with fail
      refine (sane_any _).mono ?_
      rintro e w1 ⟨rfl, hb1⟩
      have G1 : Below (w.heap.size + 2) _ w1 := hb1.mono (by simp)
      clear hb1
      obtain ⟨a0, a1, a2, b0, b1, b2, r0, r1⟩ := ab_cells (a := a) (b := b) G1
      go_wp2_with fail
      refine (Known_any a _).mono ?_
      rw [h1.out]
      rintro e w2 ⟨rfl, hb2⟩
      have G2 := G1.trans (hb2.mono (ab_size G1))
      clear hb2
      obtain ⟨a0, a1, a2, b0, b1, b2, r0, r1⟩ := ab_cells (a := a) (b := b) G2
      go_wp2_with fail
      refine (Known_any b _).mono ?_
      rw [h3.out]
      rintro e w3 ⟨rfl, hb3⟩
      have G3 := G2.trans (hb3.mono (ab_size G2))
      clear hb3
      obtain ⟨a0, a1, a2, b0, b1, b2, r0, r1⟩ := ab_cells (a := a) (b := b) G3
      go_wp2_with fail
      refine (Check_any a _).mono ?_
      rw [h2.out]
      rintro e w4 ⟨rfl, hb4⟩
      have G4 := G3.trans (hb4.mono (ab_size G3))
      clear hb4
      obtain ⟨a0, a1, a2, b0, b1, b2, r0, r1⟩ := ab_cells (a := a) (b := b) G4
      go_wp2_with fail
      go_ret
      exact ⟨rfl, ab_end G4⟩
    · have h3 : Hid (knownS b = (8 * b.time + b.campus, 0)) := Lib.hid (by simp [knownS, hgb])
      clear hga hgb
      unfold St.v
      go_enter Try.func6, Try.ntmps6
      go_wp2_with fail
      refine (sane_any _).mono ?_
      rintro e w1 ⟨rfl, hb1⟩
      have G1 : Below (w.heap.size + 2) _ w1 := hb1.mono (by simp)
      clear hb1
      obtain ⟨a0, a1, a2, b0, b1, b2, r0, r1⟩ := ab_cells (a := a) (b := b) G1
      go_wp2_with fail
      refine (Known_any a _).mono ?_
      rw [h1.out]
      rintro e w2 ⟨rfl, hb2⟩
      have G2 := G1.trans (hb2.mono (ab_size G1))
      clear hb2
      obtain ⟨a0, a1, a2, b0, b1, b2, r0, r1⟩ := ab_cells (a := a) (b := b) G2
      go_wp2_with fail
      refine (Known_any b _).mono ?_
      rw [h3.out]
      rintro e w3 ⟨rfl, hb3⟩
      have G3 := G2.trans (hb3.mono (ab_size G2))
      clear hb3
      obtain ⟨a0, a1, a2, b0, b1, b2, r0, r1⟩ := ab_cells (a := a) (b := b) G3
      go_wp2_with fail
      refine (Check_any a _).mono ?_
      rw [h2.out]
      rintro e w4 ⟨rfl, hb4⟩
      have G4 := G3.trans (hb4.mono (ab_size G3))
      clear hb4
      obtain ⟨a0, a1, a2, b0, b1, b2, r0, r1⟩ := ab_cells (a := a) (b := b) G4
      go_wp2_with fail
      go_ret
      exact ⟨rfl, ab_end G4⟩
  · have h1 : Hid (knownS a = (8 * a.time + a.campus, 0)) := Lib.hid (by simp [knownS, hga])
    have h2 : Hid (checkS a = 0) := Lib.hid (by simp [checkS, hga])
    cases hgb : b.good
    · have h3 : Hid (knownS b = (0, 80)) := Lib.hid (by simp [knownS, hgb])
      have h4 : Hid (checkS b = 80) := Lib.hid (by simp [checkS, hgb])
      clear hga hgb
      unfold St.v
      go_enter Try.func6, Try.ntmps6
      go_wp2_with fail
      refine (sane_any _).mono ?_
      rintro e w1 ⟨rfl, hb1⟩
      have G1 : Below (w.heap.size + 2) _ w1 := hb1.mono (by simp)
      clear hb1
      obtain ⟨a0, a1, a2, b0, b1, b2, r0, r1⟩ := ab_cells (a := a) (b := b) G1
      go_wp2_with fail
      refine (Known_any a _).mono ?_
      rw [h1.out]
      rintro e w2 ⟨rfl, hb2⟩
      have G2 := G1.trans (hb2.mono (ab_size G1))
      clear hb2
      obtain ⟨a0, a1, a2, b0, b1, b2, r0, r1⟩ := ab_cells (a := a) (b := b) G2
      go_wp2_with fail
      refine (Known_any b _).mono ?_
      rw [h3.out]
      rintro e w3 ⟨rfl, hb3⟩
      have G3 := G2.trans (hb3.mono (ab_size G2))
      clear hb3
      obtain ⟨a0, a1, a2, b0, b1, b2, r0, r1⟩ := ab_cells (a := a) (b := b) G3
      go_wp2_with fail
      refine (Check_any a _).mono ?_
      rw [h2.out]
      rintro e w4 ⟨rfl, hb4⟩
      have G4 := G3.trans (hb4.mono (ab_size G3))
      clear hb4
      obtain ⟨a0, a1, a2, b0, b1, b2, r0, r1⟩ := ab_cells (a := a) (b := b) G4
      go_wp2_with fail
      refine (Check_any b _).mono ?_
      rw [h4.out]
      rintro e w5 ⟨rfl, hb5⟩
      have G5 := G4.trans (hb5.mono (ab_size G4))
      clear hb5
      obtain ⟨a0, a1, a2, b0, b1, b2, r0, r1⟩ := ab_cells (a := a) (b := b) G5
      go_wp2_with fail
      go_ret
      exact ⟨rfl, ab_end G5⟩
    · have ga := good_bounds hga
      have gb := good_bounds hgb
      obtain ⟨m, hm⟩ : ∃ m, m = 8 * a.time + a.campus := ⟨_, rfl⟩
      obtain ⟨n, hn⟩ : ∃ n, n = 8 * b.time + b.campus := ⟨_, rfl⟩
      have h3 : Hid (knownS a = (m, 0)) := Lib.hid (by simp [knownS, hga, hm])
      have h4 : Hid (knownS b = (n, 0)) := Lib.hid (by simp [knownS, hgb, hn])
      have h5 : Hid (ofS m = (a.time, a.campus, 0)) := Lib.hid (by rw [hm]; exact ofS_known hga)
      have wm : (Lit.int .i64 m).wf = true := WalkArith.wf_i64 (by omega)
      have WM := Lib.hid wm
      have m0 : ¬ m < 8 := by omega
      have m1 : ¬ 16777216 ≤ m := by omega
      have hc := cmpS_cases a b
      obtain ⟨k, hkk⟩ : ∃ k, k = cmpS a b := ⟨_, rfl⟩
      have HK := Lib.hid hkk.symm
      rw [← hkk] at hc
      have hall : (m = n ∧ a.time = b.time ∧ a.campus = b.campus) ∨ (¬ m = n ∧ m < n ∧ k = -1) ∨ (¬ m = n ∧ ¬ m < n ∧ k = 1) := by omega
      clear hm hn ga gb hc hkk wm h1 h2 hga hgb
      rcases hall with ⟨rfl, e1, e2⟩ | ⟨hne, hlt, rfl⟩ | ⟨hne, hlt, rfl⟩
      · have t1 : (a.time == b.time) = true := by simp [e1]
        have t2 : (a.campus == b.campus) = true := by simp [e2]
        clear e1 e2
        unfold St.v
        go_enter Try.func6, Try.ntmps6
        go_wp2_with fail
        refine (sane_any _).mono ?_
        rintro e w1 ⟨rfl, hb1⟩
        have G1 : Below (w.heap.size + 2) _ w1 := hb1.mono (by simp)
        clear hb1
        obtain ⟨a0, a1, a2, b0, b1, b2, r0, r1⟩ := ab_cells (a := a) (b := b) G1
        go_wp2_with fail
        refine (Known_any a _).mono ?_
        rw [h3.out]
        rintro e w2 ⟨rfl, hb2⟩
        have G2 := G1.trans (hb2.mono (ab_size G1))
        clear hb2
        obtain ⟨a0, a1, a2, b0, b1, b2, r0, r1⟩ := ab_cells (a := a) (b := b) G2
        go_wp2_with fail
        refine (Known_any b _).mono ?_
        rw [h4.out]
        rintro e w3 ⟨rfl, hb3⟩
        have G3 := G2.trans (hb3.mono (ab_size G2))
        clear hb3
        obtain ⟨a0, a1, a2, b0, b1, b2, r0, r1⟩ := ab_cells (a := a) (b := b) G3
        go_wp2_with fail
        refine (Of_any m WM.out _).mono ?_
        rw [h5.out]
        rintro e w4 ⟨rfl, hb4⟩
        have G4 := G3.trans (hb4.mono (ab_size G3))
        clear hb4
        obtain ⟨a0, a1, a2, b0, b1, b2, r0, r1⟩ := ab_cells (a := a) (b := b) G4
        go_wp2_with fail
        all_goals first | (go_ret; exact ⟨rfl, ab_end G4⟩) | (go_ret; exact ⟨ret_bool (by simp [t1, t2]), ab_end G4⟩) | (go_region; go_wp2_with fail; first | (go_ret; exact ⟨rfl, ab_end G4⟩) | (go_region; go_wp2_with fail; go_ret; exact ⟨rfl, ab_end G4⟩))
      · unfold St.v
        go_enter Try.func6, Try.ntmps6
        go_wp2_with fail
        refine (sane_any _).mono ?_
        rintro e w1 ⟨rfl, hb1⟩
        have G1 : Below (w.heap.size + 2) _ w1 := hb1.mono (by simp)
        clear hb1
        obtain ⟨a0, a1, a2, b0, b1, b2, r0, r1⟩ := ab_cells (a := a) (b := b) G1
        go_wp2_with fail
        refine (Known_any a _).mono ?_
        rw [h3.out]
        rintro e w2 ⟨rfl, hb2⟩
        have G2 := G1.trans (hb2.mono (ab_size G1))
        clear hb2
        obtain ⟨a0, a1, a2, b0, b1, b2, r0, r1⟩ := ab_cells (a := a) (b := b) G2
        go_wp2_with fail
        refine (Known_any b _).mono ?_
        rw [h4.out]
        rintro e w3 ⟨rfl, hb3⟩
        have G3 := G2.trans (hb3.mono (ab_size G2))
        clear hb3
        obtain ⟨a0, a1, a2, b0, b1, b2, r0, r1⟩ := ab_cells (a := a) (b := b) G3
        go_wp2_with fail
        refine (Of_any m WM.out _).mono ?_
        rw [h5.out]
        rintro e w4 ⟨rfl, hb4⟩
        have G4 := G3.trans (hb4.mono (ab_size G3))
        clear hb4
        obtain ⟨a0, a1, a2, b0, b1, b2, r0, r1⟩ := ab_cells (a := a) (b := b) G4
        go_wp2_with fail
        try go_region
        try go_wp2_with fail
        refine (SCompare_any a b _).mono ?_
        rw [HK.out]
        rintro e w5 ⟨rfl, hb5⟩
        have G5 := G4.trans (hb5.mono (ab_size G4))
        go_wp2_with fail
        go_ret
        first | exact ⟨rfl, ab_end G5⟩ | exact ⟨ret_bool (by simp [hlt]), ab_end G5⟩
      · unfold St.v
        go_enter Try.func6, Try.ntmps6
        go_wp2_with fail
        refine (sane_any _).mono ?_
        rintro e w1 ⟨rfl, hb1⟩
        have G1 : Below (w.heap.size + 2) _ w1 := hb1.mono (by simp)
        clear hb1
        obtain ⟨a0, a1, a2, b0, b1, b2, r0, r1⟩ := ab_cells (a := a) (b := b) G1
        go_wp2_with fail
        refine (Known_any a _).mono ?_
        rw [h3.out]
        rintro e w2 ⟨rfl, hb2⟩
        have G2 := G1.trans (hb2.mono (ab_size G1))
        clear hb2
        obtain ⟨a0, a1, a2, b0, b1, b2, r0, r1⟩ := ab_cells (a := a) (b := b) G2
        go_wp2_with fail
        refine (Known_any b _).mono ?_
        rw [h4.out]
        rintro e w3 ⟨rfl, hb3⟩
        have G3 := G2.trans (hb3.mono (ab_size G2))
        clear hb3
        obtain ⟨a0, a1, a2, b0, b1, b2, r0, r1⟩ := ab_cells (a := a) (b := b) G3
        go_wp2_with fail
        refine (Of_any m WM.out _).mono ?_
        rw [h5.out]
        rintro e w4 ⟨rfl, hb4⟩
        have G4 := G3.trans (hb4.mono (ab_size G3))
        clear hb4
        obtain ⟨a0, a1, a2, b0, b1, b2, r0, r1⟩ := ab_cells (a := a) (b := b) G4
        go_wp2_with fail
        try go_region
        try go_wp2_with fail
        refine (SCompare_any a b _).mono ?_
        rw [HK.out]
        rintro e w5 ⟨rfl, hb5⟩
        have G5 := G4.trans (hb5.mono (ab_size G4))
        go_wp2_with fail
        go_ret
        first | exact ⟨rfl, ab_end G5⟩ | exact ⟨ret_bool (by simp [hlt]), ab_end G5⟩
end Go.Proofs.Ytplfeelcijnkjaa
