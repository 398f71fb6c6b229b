/- Stop, Restart: the program's and the reference's. -/
import Derived.Test.YtgbkhmoplocmkaaDskJ
namespace Go.Proofs.Ytgbkhmoplocmkaa
open Go.RowKit Go.Shelf
set_option linter.unusedSimpArgs false
set_option linter.unusedVariables false
set_option maxRecDepth 20000

theorem stopD_no {d : Dk} {x : Int} (h : runsD d = false) : stopD d x = (Dk.zero, 450) := by simp [stopD, h]
theorem stopD_arg {d : Dk} {x : Int} (h : runsD d = true) (h2 : x < 0 ∨ 65536 < x) : stopD d x = (Dk.zero, 1) := by
  unfold stopD
  rw [if_pos h, if_neg (by omega)]
theorem stopD_ok {d : Dk} {x : Int} (h : runsD d = true) (h2 : 0 ≤ x) (h3 : x ≤ 65536) : stopD d x = (⟨d.secs, d.pend, x, d.stopped⟩, 0) := by
  unfold stopD
  rw [if_pos h, if_pos ⟨h2, h3⟩]
section
variable {W : World} {b : Nat} {V0 V1 V2 V3 : Value}
theorem Box4.setC (h : Box4 W b V0 V1 V2 V3) (v : Value) : Box4 (W.setCell ⟨b, 2, none⟩ v) b V0 V1 v V3 := by
  refine ⟨?_, ?_, ?_, ?_, ?_, ?_, ?_, ?_, by have := (show W.heap.size ≤ (W.setCell ⟨b, 2, none⟩ v).heap.size from by simp [World.setCell]); have := h.z; omega⟩
  · rw [set_far _ _ _ _ (addr_ne (by omega))]; exact h.c0
  · rw [set_far _ _ _ _ (addr_ne (by omega))]; exact h.c1
  · exact set_at _ _ _ _ h.c2
  · rw [set_far _ _ _ _ (addr_ne (by omega))]; exact h.c3
  · rw [World.frozen?_setCell]; exact h.f0
  · rw [World.frozen?_setCell]; exact h.f1
  · rw [World.frozen?_setCell]; exact h.f2
  · rw [World.frozen?_setCell]; exact h.f3
end

set_option maxRecDepth 100000 in
set_option maxHeartbeats 4000000 in
theorem Stop_any {P : Nat → Prop} (d : Dk) (sv pv : Sl) (x : Int) (w : World) (h : Di w P sv pv d) :
    Calls Try.prog 29 #[dkV sv pv d, .int .i64 x] w fun e w' => (∃ sv' pv', e = .returned (.tuple #[dkV sv' pv' (stopD d x).1, .int .i64 (stopD d x).2]) ∧ Di w' (Nw P w) sv' pv' (stopD d x).1) ∧ Below w.heap.size w w' := by
  have hs := h.1.len
  have hp := h.2.len
  have HD := Lib.hid h
  have RC := Lib.hid (fun W (hW : Below w.heap.size w W) => runs_any d sv pv W (HD.out.step hW))
  unfold dkV at RC
  clear h
  obtain ⟨A, n, c⟩ := sv
  obtain ⟨D, m, c2⟩ := pv
  simp only at hs hp RC
  subst hs hp
  obtain ⟨st, hst⟩ : ∃ st, st = d.stopped := ⟨_, rfl⟩
  obtain ⟨lf, hlf⟩ : ∃ lf, lf = d.left := ⟨_, rfl⟩
  unfold dkV
  simp only
  rw [← hst, ← hlf] at RC
  rw [← hst, ← hlf]
  have HST := Lib.hid hst
  have HLF := Lib.hid hlf
  clear hst hlf
  obtain ⟨W0, hW0⟩ : ∃ W0, ((w.alloc (.cells #[.slice A d.secs.length c, .slice D d.pend.length c2, .int .i64 lf, .bool st] 25)).alloc (.cells #[.slice none 0 0, .slice none 0 0, .int .i64 0, .bool false] 25)) = W0 := ⟨_, rfl⟩
  have hB1 : Box4 W0 w.heap.size (.slice A d.secs.length c) (.slice D d.pend.length c2) (.int .i64 lf) (.bool st) := by rw [← hW0]; exact (Box4.new ..).step ((Below.refl _ _).alloc (Nat.le_refl _) _)
  have hB2 : Box4 W0 (w.heap.size + 1) (.slice none 0 0) (.slice none 0 0) (.int .i64 0) (.bool false) := by rw [← hW0]; exact Box4.at_ _ _ _ _ _ _ _ (by simp)
  have hG0 : Below w.heap.size w W0 := by rw [← hW0]; exact ((Below.refl _ _).alloc (Nat.le_refl _) _).alloc (by simp) _
  have HB1 := Lib.hid hB1
  have HB2 := Lib.hid hB2
  have HG := Lib.hid hG0
  have HW0 := Lib.hid hW0
  clear hB1 hB2 hG0 hW0
  cases hr : runsD d
  · rw [stopD_no hr]
    have HR := Lib.hid hr
    clear hr
    go_enter Try.func29, Try.ntmps29
    go_wp2_with fail
    rw [HW0.out]
    refine (RC.out _ HG.out).mono ?_
    rw [HR.out]
    rintro e w1 ⟨rfl, hb1⟩
    have HR2 := Lib.hid (HB2.out.step hb1)
    have HD2 := Lib.hid (HB1.out.step hb1)
    have HG1 := Lib.hid (HG.out.trans (hb1.mono HG.out.size))
    obtain ⟨r0, r1, r2, r3, f0, f1, f2, f3, rz⟩ := HR2.out
    obtain ⟨q0, q1, q2, q3, g0, g1, g2, g3, qz⟩ := HD2.out
    clear hb1
    go_wp2_with fail
    obtain ⟨p0, p1, p2, p3, _⟩ := HR2.out.put (.slice none 0 0) (.slice none 0 0) (.int .i64 0) (.bool false)
    unfold put4 at p0 p1 p2 p3
    exact bodyPost_ret (v := .tuple #[dkV ⟨none, 0, 0⟩ ⟨none, 0, 0⟩ Dk.zero, .int .i64 450]) (by simp [results, Try.results29, go_sem, p0, p1, p2, p3, dkV, Dk.zero]) rfl ⟨⟨⟨none, 0, 0⟩, ⟨none, 0, 0⟩, rfl, Di.zero _ _⟩, put4_below (b := w.heap.size + 1) HG1.out (by omega) _ _ _ _⟩
  · have HR := Lib.hid hr
    have ha : (decide (x < 0) = true ∧ (x < 0 ∨ 65536 < x)) ∨ (decide (x < 0) = false ∧ decide ((65536 : Int) < x) = true ∧ (x < 0 ∨ 65536 < x)) ∨ (decide (x < 0) = false ∧ decide ((65536 : Int) < x) = false ∧ 0 ≤ x ∧ x ≤ 65536) := by simp; omega
    rcases ha with ⟨d1, hx⟩ | ⟨d1, d2, hx⟩ | ⟨d1, d2, hx1, hx2⟩
    · rw [stopD_arg hr hx]
      clear hr hx
      go_enter Try.func29, Try.ntmps29
      go_wp2_with fail
      rw [HW0.out]
      refine (RC.out _ HG.out).mono ?_
      rw [HR.out]
      rintro e w1 ⟨rfl, hb1⟩
      have HR2 := Lib.hid (HB2.out.step hb1)
      have HD2 := Lib.hid (HB1.out.step hb1)
      have HG1 := Lib.hid (HG.out.trans (hb1.mono HG.out.size))
      obtain ⟨r0, r1, r2, r3, f0, f1, f2, f3, rz⟩ := HR2.out
      obtain ⟨q0, q1, q2, q3, g0, g1, g2, g3, qz⟩ := HD2.out
      clear hb1
      go_wp2_with fail
      obtain ⟨p0, p1, p2, p3, _⟩ := HR2.out.put (.slice none 0 0) (.slice none 0 0) (.int .i64 0) (.bool false)
      unfold put4 at p0 p1 p2 p3
      exact bodyPost_ret (v := .tuple #[dkV ⟨none, 0, 0⟩ ⟨none, 0, 0⟩ Dk.zero, .int .i64 1]) (by simp [results, Try.results29, go_sem, p0, p1, p2, p3, dkV, Dk.zero]) rfl ⟨⟨⟨none, 0, 0⟩, ⟨none, 0, 0⟩, rfl, Di.zero _ _⟩, put4_below (b := w.heap.size + 1) HG1.out (by omega) _ _ _ _⟩
    · rw [stopD_arg hr hx]
      clear hr hx
      go_enter Try.func29, Try.ntmps29
      go_wp2_with fail
      rw [HW0.out]
      refine (RC.out _ HG.out).mono ?_
      rw [HR.out]
      rintro e w1 ⟨rfl, hb1⟩
      have HR2 := Lib.hid (HB2.out.step hb1)
      have HD2 := Lib.hid (HB1.out.step hb1)
      have HG1 := Lib.hid (HG.out.trans (hb1.mono HG.out.size))
      obtain ⟨r0, r1, r2, r3, f0, f1, f2, f3, rz⟩ := HR2.out
      obtain ⟨q0, q1, q2, q3, g0, g1, g2, g3, qz⟩ := HD2.out
      clear hb1
      go_wp2_with fail
      obtain ⟨p0, p1, p2, p3, _⟩ := HR2.out.put (.slice none 0 0) (.slice none 0 0) (.int .i64 0) (.bool false)
      unfold put4 at p0 p1 p2 p3
      exact bodyPost_ret (v := .tuple #[dkV ⟨none, 0, 0⟩ ⟨none, 0, 0⟩ Dk.zero, .int .i64 1]) (by simp [results, Try.results29, go_sem, p0, p1, p2, p3, dkV, Dk.zero]) rfl ⟨⟨⟨none, 0, 0⟩, ⟨none, 0, 0⟩, rfl, Di.zero _ _⟩, put4_below (b := w.heap.size + 1) HG1.out (by omega) _ _ _ _⟩
    · rw [stopD_ok hr hx1 hx2]
      clear hr hx1 hx2
      go_enter Try.func29, Try.ntmps29
      go_wp2_with fail
      rw [HW0.out]
      refine (RC.out _ HG.out).mono ?_
      rw [HR.out]
      rintro e w1 ⟨rfl, hb1⟩
      have HR2 := Lib.hid (HB2.out.step hb1)
      have HD2 := Lib.hid (HB1.out.step hb1)
      have HG1 := Lib.hid (HG.out.trans (hb1.mono HG.out.size))
      obtain ⟨r0, r1, r2, r3, f0, f1, f2, f3, rz⟩ := HR2.out
      obtain ⟨q0, q1, q2, q3, g0, g1, g2, g3, qz⟩ := HD2.out
      clear hb1
      go_wp2_with fail
      have hr8 := (HR2.out.far (grownBy_setCell' w1 ⟨w.heap.size, 2, none⟩ (.int .i64 x)) (by simp)).put (.slice A d.secs.length c) (.slice D d.pend.length c2) (.int .i64 x) (.bool st)
      have hg8 : Below w.heap.size w (put4 (w1.setCell ⟨w.heap.size, 2, none⟩ (.int .i64 x)) (w.heap.size + 1) (.slice A d.secs.length c) (.slice D d.pend.length c2) (.int .i64 x) (.bool st)) :=
        put4_below (HG1.out.setCell (by simp) _) (by omega) _ _ _ _
      have hd8 : Di (put4 (w1.setCell ⟨w.heap.size, 2, none⟩ (.int .i64 x)) (w.heap.size + 1) (.slice A d.secs.length c) (.slice D d.pend.length c2) (.int .i64 x) (.bool st)) (Nw P w) ⟨A, d.secs.length, c⟩ ⟨D, d.pend.length, c2⟩ ⟨d.secs, d.pend, x, d.stopped⟩ := (HD.out.mono (Q := Nw P w) (fun b hb => .inl hb)).step hg8
      obtain ⟨p0, p1, p2, p3, _⟩ := hr8
      unfold put4 at p0 p1 p2 p3
      exact bodyPost_ret (v := .tuple #[.agg #[.slice A d.secs.length c, .slice D d.pend.length c2, .int .i64 x, .bool st], .int .i64 0]) (by simp [results, Try.results29, go_sem, p0, p1, p2, p3]) rfl ⟨⟨⟨A, d.secs.length, c⟩, ⟨D, d.pend.length, c2⟩, by rw [← HST.out], hd8⟩, hg8⟩

set_option maxRecDepth 100000 in
set_option maxHeartbeats 4000000 in
theorem Restart_any {P : Nat → Prop} (d : Dk) (sv pv : Sl) (w : World) (h : Di w P sv pv d) :
    Calls Try.prog 30 #[dkV sv pv d] w fun e w' => (∃ sv' pv', e = .returned (dkV sv' pv' (restartD d)) ∧ Di w' (Nw P w) sv' pv' (restartD d)) ∧ Below w.heap.size w w' := by
  have hs := h.1.len
  have hp := h.2.len
  have HD := Lib.hid h
  clear h
  obtain ⟨A, n, c⟩ := sv
  obtain ⟨D, m, c2⟩ := pv
  simp only at hs hp
  subst hs hp
  obtain ⟨st, hst⟩ : ∃ st, st = d.stopped := ⟨_, rfl⟩
  obtain ⟨lf, hlf⟩ : ∃ lf, lf = d.left := ⟨_, rfl⟩
  unfold dkV
  simp only
  rw [← hst, ← hlf]
  have HST := Lib.hid hst
  have HLF := Lib.hid hlf
  clear hst hlf
  go_enter Try.func30, Try.ntmps30
  go_wp2_with fail
  have hg8 : Below w.heap.size w ((w.alloc (.cells #[.slice A d.secs.length c, .slice D d.pend.length c2, .int .i64 lf, .bool st] 25)).alloc (.cells #[.slice A d.secs.length c, .slice none 0 0, .int .i64 (-1), .bool false] 25)) := ((Below.refl _ _).alloc (Nat.le_refl _) _).alloc (by simp) _
  have hd8 : Di ((w.alloc (.cells #[.slice A d.secs.length c, .slice D d.pend.length c2, .int .i64 lf, .bool st] 25)).alloc (.cells #[.slice A d.secs.length c, .slice none 0 0, .int .i64 (-1), .bool false] 25)) (Nw P w) ⟨A, d.secs.length, c⟩ ⟨none, 0, 0⟩ (restartD d) := ⟨((HD.out.mono (Q := Nw P w) (fun b hb => .inl hb)).step hg8).1, Pe.nil_ _ _⟩
  exact bodyPost_ret (v := .agg #[.slice A d.secs.length c, .slice none 0 0, .int .i64 (-1), .bool false]) (by simp [results, Try.results30, go_sem]) rfl ⟨⟨⟨A, d.secs.length, c⟩, ⟨none, 0, 0⟩, rfl, hd8⟩, hg8⟩

end Go.Proofs.Ytgbkhmoplocmkaa
