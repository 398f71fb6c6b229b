/- StampsLater, walked. -/
import Derived.Test.YtplfeelcijnkjaaStampsL1
import Derived.BigRegion
import Derived.WalkArith
namespace Go.Proofs.Ytplfeelcijnkjaa
open Go.RowKit
set_option linter.unusedSimpArgs false
set_option linter.unusedVariables false

theorem nextS_cases (l : St) (seen : Int) : (∃ e, e ≠ 0 ∧ nextS l seen = (⟨0, 0, 0⟩, e)) ∨
    (0 ≤ l.campus ∧ l.campus < 7 ∧ 0 ≤ l.time ∧ 0 ≤ seen ∧ l.time < 1048576 ∧ seen < 1048576 ∧ 0 ≤ l.no ∧ l.no < 1048576 ∧ nextS l seen = (⟨1 + max l.time seen, l.campus, 1 + l.no⟩, 0)) := by
  unfold nextS
  split
  · split
    · exact .inl ⟨2, by decide, rfl⟩
    · rename_i h1 h2
      simp [okN] at h1
      refine .inr ⟨?_, ?_, ?_, ?_, ?_, ?_, ?_, ?_, rfl⟩ <;> omega
  · exact .inl ⟨80, by decide, rfl⟩

set_option maxHeartbeats 2000000 in
theorem StampsLater_any {w : World} (last : St) (hl : last.ok) (seen : Int) (ws : (Lit.int .i64 seen).wf = true) (other : St) (ho : other.ok) :
    Calls Try.prog 7 #[last.v, .int .i64 seen, other.v] w fun e w' => e = .returned (.bool true) ∧ Below w.heap.size w w' := by
  clear hl ho
  rcases nextS_cases last seen with ⟨e0, he0, hn⟩ | ⟨p1, p2, p3, p4, p5, p6, p7, p8, hn⟩
  · have H1 := Lib.hid hn
    have he1 : (e0 == 0) = false := by simpa using he0
    clear hn
    unfold St.v
    go_enter Try.func7, Try.ntmps7
    go_wp2_with fail
    refine (sane_any _).mono ?_
    rintro e w1 ⟨rfl, hb1⟩
    have G1 : Below (w.heap.size + 2) _ w1 := hb1.mono (by simp)
    clear hb1
    obtain ⟨a0, a1, a2, b0, b1, b2, r0, r1⟩ := ab_cells (a := last) (b := other) G1
    go_wp2_with fail
    refine (Next_any last seen _).mono ?_
    rw [H1.out]
    simp only [St.v]
    rintro e w2 ⟨rfl, hb2⟩
    have G2 := G1.trans (hb2.mono (ab_size G1))
    clear hb2
    obtain ⟨a0, a1, a2, b0, b1, b2, r0, r1⟩ := ab_cells (a := last) (b := other) G2
    go_wp2_with fail
    go_ret
    exact ⟨rfl, ab_end (G2.alloc (ab_size G2) _)⟩
  · have H1 := Lib.hid hn
    clear hn
    unfold St.v
    go_enter Try.func7, Try.ntmps7
    go_wp2_with fail
    refine (sane_any _).mono ?_
    rintro e w1 ⟨rfl, hb1⟩
    have G1 : Below (w.heap.size + 2) _ w1 := hb1.mono (by simp)
    clear hb1
    obtain ⟨a0, a1, a2, b0, b1, b2, r0, r1⟩ := ab_cells (a := last) (b := other) G1
    go_wp2_with fail
    refine (Next_any last seen _).mono ?_
    rw [H1.out]
    simp only [St.v]
    rintro e w2 ⟨rfl, hb2⟩
    have G2 := G1.trans (hb2.mono (ab_size G1))
    clear hb2
    obtain ⟨a0, a1, a2, b0, b1, b2, r0, r1⟩ := ab_cells (a := last) (b := other) G2
    go_wp2_with fail
    have e1 : checkS ⟨1 + max last.time seen, last.campus, 1 + last.no⟩ = 0 := by simp [checkS, St.good]; omega
    have E1 := Lib.hid e1
    clear e1
    refine (Check_any ⟨1 + max last.time seen, last.campus, 1 + last.no⟩ _).mono ?_
    rw [E1.out]
    rintro e w3 ⟨rfl, hb3⟩
    have F3 : Below (w2.heap.size + 1) _ w3 := hb3.mono (by simp)
    have G3 := (G2.alloc (ab_size G2) _).trans (F3.mono (by have := ab_size G2; omega))
    obtain ⟨_, sc, _, zs, _⟩ := below_new F3
    have s0 := sc 0
    have s1 := sc 1
    have s2 := sc 2
    simp at s0 s1 s2
    clear sc hb3
    obtain ⟨a0, a1, a2, b0, b1, b2, r0, r1⟩ := ab_cells (a := last) (b := other) G3
    go_wp2_with fail
    have e2 : cmpS last ⟨1 + max last.time seen, last.campus, 1 + last.no⟩ = -1 := by
      have := cmpS_cases last ⟨1 + max last.time seen, last.campus, 1 + last.no⟩
      simp only at this
      omega
    have E2 := Lib.hid e2
    have e3 : knownS ⟨1 + max last.time seen, last.campus, 1 + last.no⟩ = (8 * (1 + max last.time seen) + last.campus, 0) := by
      have hg : (⟨1 + max last.time seen, last.campus, 1 + last.no⟩ : St).good = true := by simp [St.good]; omega
      simp [knownS, hg]
    have E3 := Lib.hid e3
    have hfin : (∃ m, knownS other = (m, 80)) ∨ (∃ m, knownS other = (m, 0) ∧ (max seen last.time < other.time ∨ (¬ max seen last.time < other.time ∧ m < 8 * (1 + max last.time seen) + last.campus))) := by
      cases hgo : other.good
      · exact .inl ⟨0, by simp [knownS, hgo]⟩
      · refine .inr ⟨8 * other.time + other.campus, by simp [knownS, hgo], ?_⟩
        have := good_bounds hgo
        omega
    have hmx : max last.time seen ≤ 1048575 := by omega
    have hmn : 0 ≤ max last.time seen := by omega
    have HF := Lib.hid hfin
    clear e2 e3 hfin
    refine (SCompare_any last ⟨1 + max last.time seen, last.campus, 1 + last.no⟩ _).mono ?_
    rw [E2.out]
    rintro e w4 ⟨rfl, hb4⟩
    have F4 := F3.trans (hb4.mono zs)
    have G4 := G3.trans (hb4.mono (ab_size G3))
    clear zs
    obtain ⟨_, sc, _, zs, _⟩ := below_new F4
    have s0 := sc 0
    have s1 := sc 1
    have s2 := sc 2
    simp at s0 s1 s2
    clear sc hb4
    obtain ⟨a0, a1, a2, b0, b1, b2, r0, r1⟩ := ab_cells (a := last) (b := other) G4
    go_wp2_with fail
    refine (Known_any ⟨1 + max last.time seen, last.campus, 1 + last.no⟩ _).mono ?_
    rw [E3.out]
    rintro e w5 ⟨rfl, hb5⟩
    have F5 := F4.trans (hb5.mono zs)
    have G5 := G4.trans (hb5.mono (ab_size G4))
    clear zs
    obtain ⟨_, sc, _, zs, _⟩ := below_new F5
    have s0 := sc 0
    have s1 := sc 1
    have s2 := sc 2
    simp at s0 s1 s2
    clear sc hb5
    obtain ⟨a0, a1, a2, b0, b1, b2, r0, r1⟩ := ab_cells (a := last) (b := other) G5
    go_wp2_with fail
    refine (Known_any other _).mono ?_
    rcases HF.out with ⟨m, hm⟩ | ⟨m, hm, hlt | ⟨hlt, hlt2⟩⟩
    all_goals
      rw [hm]
      clear hm
      rintro e w6 ⟨rfl, hb6⟩
      have G6 := G5.trans (hb6.mono (ab_size G5))
      obtain ⟨a0, a1, a2, b0, b1, b2, r0, r1⟩ := ab_cells (a := last) (b := other) G6
      go_wp2_with fail
      try (go_region; go_wp2_with fail)
      all_goals first | (exfalso; omega) | (go_ret; first | exact ⟨rfl, ab_end G6⟩ | exact ⟨ret_bool (by simp [*]), ab_end G6⟩)
end Go.Proofs.Ytplfeelcijnkjaa
