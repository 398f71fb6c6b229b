/- StampsSpec, StampsTotal, walked. -/
import Derived.Test.YtplfeelcijnkjaaStampsT
namespace Go.Proofs.Ytplfeelcijnkjaa
open Go.RowKit
set_option linter.unusedSimpArgs false
set_option linter.unusedVariables false

theorem ab_cells {w w' : World} {a b : St} {t t' : TypeId} (h : Below (w.heap.size + 2) ((w.alloc (.cells #[.int .i64 a.time, .int .i64 a.campus, .int .i64 a.no] t)).alloc (.cells #[.int .i64 b.time, .int .i64 b.campus, .int .i64 b.no] t')) w') :
    w'.cell? ⟨w.heap.size, 0, none⟩ = some (.int .i64 a.time) ∧ w'.cell? ⟨w.heap.size, 1, none⟩ = some (.int .i64 a.campus) ∧ w'.cell? ⟨w.heap.size, 2, none⟩ = some (.int .i64 a.no) ∧
    w'.cell? ⟨w.heap.size + 1, 0, none⟩ = some (.int .i64 b.time) ∧ w'.cell? ⟨w.heap.size + 1, 1, none⟩ = some (.int .i64 b.campus) ∧ w'.cell? ⟨w.heap.size + 1, 2, none⟩ = some (.int .i64 b.no) ∧
    w.heap.size < w'.heap.size ∧ w.heap.size + 1 < w'.heap.size := by
  obtain ⟨ca, cb⟩ := two_boxes h
  have hs := h.size
  simp only [World.size_alloc] at hs
  exact ⟨ca 0, ca 1, ca 2, cb 0, cb 1, cb 2, by omega, by omega⟩
theorem ab_size {w w' : World} {o o' : Obj} (h : Below (w.heap.size + 2) ((w.alloc o).alloc o') w') : w.heap.size + 2 ≤ w'.heap.size := by
  have hs := h.size
  simpa using hs
theorem ab_start (w : World) (o o' : Obj) : Below (w.heap.size + 2) ((w.alloc o).alloc o') ((w.alloc o).alloc o') := Below.refl _ _
theorem ab_end {w w' : World} {o o' : Obj} (h : Below (w.heap.size + 2) ((w.alloc o).alloc o') w') : Below w.heap.size w w' := (((Below.refl _ _).alloc (Nat.le_refl _) _).alloc (by simp) _).trans (h.mono (by omega))

set_option maxHeartbeats 1000000 in
theorem StampsSpec_any {w : World} (a : St) (ha : a.ok) (b : St) (hb : b.ok) (known : Int) (wk : (Lit.int .i64 known).wf = true) :
    Calls Try.prog 3 #[a.v, b.v, .int .i64 known] w fun e w' => e = .returned (.bool true) ∧ Below w.heap.size w w' := by
  have WK := Lib.hid wk
  clear ha hb wk
  unfold St.v
  go_enter Try.func3, Try.ntmps3
  go_wp2_with fail
  refine (sane_any _).mono ?_
  rintro e w1 ⟨rfl, hb1⟩
  have G1 : Below (w.heap.size + 2) _ w1 := hb1.mono (by simp)
  clear hb1
  obtain ⟨a0, a1, a2, b0, b1, b2, r0, r1⟩ := ab_cells G1
  go_wp2_with fail
  refine (Known_any a _).mono ?_
  rintro e w2 ⟨rfl, hb2⟩
  have G2 := G1.trans (hb2.mono (ab_size G1))
  clear hb2
  obtain ⟨a0, a1, a2, b0, b1, b2, r0, r1⟩ := ab_cells G2
  go_wp2_with fail
  refine (RKnown_any a _).mono ?_
  rintro e w3 ⟨rfl, hb3⟩
  have G3 := G2.trans (hb3.mono (ab_size G2))
  clear hb3
  obtain ⟨a0, a1, a2, b0, b1, b2, r0, r1⟩ := ab_cells G3
  go_wp2_with fail
  refine (Of_any known WK.out _).mono ?_
  rintro e w4 ⟨rfl, hb4⟩
  have G4 := G3.trans (hb4.mono (ab_size G3))
  clear hb4
  obtain ⟨a0, a1, a2, b0, b1, b2, r0, r1⟩ := ab_cells G4
  go_wp2_with fail
  refine (ROf_any known WK.out _).mono ?_
  rintro e w5 ⟨rfl, hb5⟩
  have G5 := G4.trans (hb5.mono (ab_size G4))
  clear hb5
  obtain ⟨a0, a1, a2, b0, b1, b2, r0, r1⟩ := ab_cells G5
  go_wp2_with fail
  refine wp_region_below (by kernel_rfl) (by kernel_rfl) ?_
  repeat (first
    | go_big_quiet_skip
    | (go_big_quiet_want
       first
         | (apply quiet_val
            focus (
              intro WC hWC
              obtain ⟨hcc0, hff0⟩ := bcell hWC
              go_simp
              all_goals rfl
              done)
            go_simp
            go_big_quiet_on)
         | (apply quiet_call
            focus (
              intro WC hWC
              go_simp
              all_goals (first | rfl | exact ⟨rfl, rfl⟩)
              done)
            focus (
              intro WC hWC
              exact (Check_any a WC).mono fun e w' h => ⟨h.1, hWC.trans (h.2.mono hWC.size)⟩
              done)
            go_simp
            go_big_quiet_on)
         | (apply quiet_call
            focus (
              intro WC hWC
              go_simp
              all_goals (first | rfl | exact ⟨rfl, rfl⟩)
              done)
            focus (
              intro WC hWC
              exact (RCheck_any a WC).mono fun e w' h => ⟨h.1, hWC.trans (h.2.mono hWC.size)⟩
              done)
            go_simp
            go_big_quiet_on)
         | (apply quiet_call
            focus (
              intro WC hWC
              go_simp
              all_goals (first | rfl | exact ⟨rfl, rfl⟩)
              done)
            focus (
              intro WC hWC
              exact (SCompare_any a b WC).mono fun e w' h => ⟨h.1, hWC.trans (h.2.mono hWC.size)⟩
              done)
            go_simp
            go_big_quiet_on)
         | (apply quiet_call
            focus (
              intro WC hWC
              go_simp
              all_goals (first | rfl | exact ⟨rfl, rfl⟩)
              done)
            focus (
              intro WC hWC
              exact (RCompare_any a b WC).mono fun e w' h => ⟨h.1, hWC.trans (h.2.mono hWC.size)⟩
              done)
            go_simp
            go_big_quiet_on)))
  refine wpQuiet_nil ?_
  intro w9 hw9
  have G9 := G5.trans (hw9.mono (ab_size G5))
  go_wp2_with fail
  go_ret
  exact ⟨ret_bool (by simp), ab_end G9⟩
end Go.Proofs.Ytplfeelcijnkjaa
