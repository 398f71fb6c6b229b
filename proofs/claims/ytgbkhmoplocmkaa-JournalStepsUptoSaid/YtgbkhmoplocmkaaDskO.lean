/- Same of equal disks; Few. -/
import Derived.Test.YtgbkhmoplocmkaaDskM
import Derived.Laws.BytesArg
namespace Go.Proofs.Ytgbkhmoplocmkaa
open Go.RowKit Go.Shelf
set_option linter.unusedSimpArgs false
set_option linter.unusedVariables false
set_option maxRecDepth 20000

theorem conv_by {w : World} {P : Nat → Prop} {s : Sl} {bs : List Int} (h : By w P s bs) : (convert 35 9 (.slice s.a s.n s.c)).run Try.prog w = .ok (.string (strOfNums bs)) w := by
  obtain ⟨⟨h1, h2, h3, h4, h5, h6⟩, _⟩ := h
  obtain ⟨A, n, c⟩ := s
  simp only at h1 h2 h3 h4 h5
  subst h1
  rcases Nat.eq_zero_or_pos bs.length with h0 | h0
  · obtain rfl : bs = [] := List.eq_nil_of_length_eq_zero h0
    cases A with
    | none => exact run_convert_bytes_nil (P := Try.prog) w 35 5 Try.underlying35 Try.underlying5 _ _ 9 Try.underlying9
    | some a =>
      obtain ⟨b, off, spot⟩ := a
      cases spot with
      | none => exact run_convert_bytes_arg (P := Try.prog) w 35 5 Try.underlying35 Try.underlying5 b off 0 c [] rfl (fun i hi => by omega) 9 Try.underlying9
      | some sp =>
        rw [run_convert_bytes_string w 35 9 _ _ _ _ Try.underlying35 Try.underlying5 Try.underlying9]
        simp [Conv.bytesToString, loadCells]
        rfl
  · obtain ⟨b, off, rfl, hb, hc⟩ := h5 h0
    refine run_convert_bytes_arg (P := Try.prog) w 35 5 Try.underlying35 Try.underlying5 b off bs.length c bs rfl (fun i hi => ?_) 9 Try.underlying9
    have := hc i bs[i] 0 _ (List.getElem?_eq_getElem hi) rfl
    simp only [Nat.mul_one, Nat.add_zero] at this
    rw [this, List.getD_eq_getElem?_getD, List.getElem?_eq_getElem hi]
    rfl
theorem SlR.drew {α : Type} {w : World} {P : Nat → Prop} {sz : Nat} {en : α → List Value} {s : Sl} {xs : List α} (h : SlR w P sz en s xs) : SlR w.drew P sz en s xs := ⟨h.1, h.2.1, h.2.2.1, h.2.2.2.1, h.2.2.2.2.1.drew, h.2.2.2.2.2⟩
theorem By.drew {w : World} {P : Nat → Prop} {s : Sl} {bs : List Int} (h : By w P s bs) : By w.drew P s bs := ⟨h.1.drew, h.2⟩

set_option maxRecDepth 100000 in
set_option maxHeartbeats 4000000 in
theorem Same_any {P Q : Nat → Prop} (d : Dk) (sv pv su pu : Sl) (w : World) (h : Di w P sv pv d) (h2 : Di w Q su pu d) :
    Calls Try.prog 23 #[dkV sv pv d, dkV su pu d] w fun e w' => e = .returned (.bool true) ∧ Below w.heap.size w w' := by
  have hs := h.1.len
  have hp := h.2.len
  have hs2 := h2.1.len
  have hp2 := h2.2.len
  have HD := Lib.hid h
  have HE := Lib.hid h2
  have hl1 : d.secs.length ≤ 9223372036854775807 := by
    obtain ⟨us, hu, he, _⟩ := h.1
    have := hu.le; omega
  have hl2 : d.pend.length ≤ 9223372036854775807 := by
    obtain ⟨us, hu, he, _⟩ := h.2
    have := hu.le; omega
  clear h h2
  obtain ⟨A, n, c⟩ := sv
  obtain ⟨D, m, c2⟩ := pv
  obtain ⟨A', n', c'⟩ := su
  obtain ⟨D', m', c2'⟩ := pu
  simp only at hs hp hs2 hp2
  subst hs hp hs2 hp2
  unfold dkV
  simp only
  obtain ⟨W0, hW0⟩ : ∃ W0, ((w.alloc (.cells #[.slice A d.secs.length c, .slice D d.pend.length c2, .int .i64 d.left, .bool d.stopped] 25)).alloc (.cells #[.slice A' d.secs.length c', .slice D' d.pend.length c2', .int .i64 d.left, .bool d.stopped] 25)) = W0 := ⟨_, rfl⟩
  have hB1 : Box4 W0 w.heap.size (.slice A d.secs.length c) (.slice D d.pend.length c2) (.int .i64 d.left) (.bool d.stopped) := by rw [← hW0]; exact (Box4.new ..).step ((Below.refl _ _).alloc (Nat.le_refl _) _)
  have hB2 : Box4 W0 (w.heap.size + 1) (.slice A' d.secs.length c') (.slice D' d.pend.length c2') (.int .i64 d.left) (.bool d.stopped) := by rw [← hW0]; exact Box4.at_ _ _ _ _ _ _ _ (by simp)
  have hG0 : Below w.heap.size w W0 := by rw [← hW0]; exact ((Below.refl _ _).alloc (Nat.le_refl _) _).alloc (by simp) _
  have HB1 := Lib.hid hB1
  have HB2 := Lib.hid hB2
  have HG := Lib.hid hG0
  have HW0 := Lib.hid hW0
  clear hB1 hB2 hG0 hW0
  have hbb : (d.stopped != d.stopped) = false := by simp
  go_enter Try.func23, Try.ntmps23
  go_wp2_with fail
  rw [HW0.out]
  obtain ⟨q0, q1, q2, q3, _, _, _, _, qz⟩ := HB1.out
  obtain ⟨r0, r1, r2, r3, _, _, _, _, rz⟩ := HB2.out
  go_loopw [5] (fun i wr => Below W0.heap.size W0 wr ∧ ∃ k : Nat, k ≤ d.secs.length ∧ i = .int .i64 k) (fun i _ => d.secs.length - (intOf i).toNat)
  case atStart => exact ⟨Below.refl _ _, 0, Nat.zero_le _, rfl⟩
  case round =>
    obtain ⟨hbr, k, hk, rfl⟩ := hrel
    have HBR := Lib.hid hbr
    have HGR := Lib.hid (HG.out.trans (hbr.mono HG.out.size))
    clear q0 q1 q2 q3 r0 r1 r2 r3 qz rz
    obtain ⟨q0, q1, q2, q3, _, _, _, _, qz⟩ := HB1.out.step hbr
    obtain ⟨r0, r1, r2, r3, _, _, _, _, rz⟩ := HB2.out.step hbr
    clear hbr
    by_cases hlt : k < d.secs.length
    · obtain ⟨b1, o1, v1, x1, ha1, hl1', hx1, hy1, y1⟩ := (HD.out.step HGR.out).1.at_ hlt
      obtain ⟨b2, o2, v2, x2, ha2, hl2', hx2, hy2, y2⟩ := (HE.out.step HGR.out).1.at_ hlt
      simp only at ha1 ha2
      subst ha1 ha2
      obtain rfl : x1 = x2 := Option.some.inj (hx1.symm.trans hx2)
      have hc1 := conv_by hy1.drew
      have hc2 := conv_by hy2.drew
      clear hx1 hx2 hy1 hy2
      have hk0 : (0 : Int) ≤ (k : Int) := by omega
      have hkl : decide ((k : Int) < (d.secs.length : Int)) = true := by simpa using hlt
      go_upto_region 6 with fail
      refine wp_region_tail 12 (by kernel_rfl) (by kernel_rfl) ?_
      simp only [List.take_succ_cons, List.take_zero, List.drop_succ_cons, List.drop_zero]
      repeat still_step
      refine wpStill_nil ?_
      go_wp2_with fail
      go_roundw
      case rel => exact ⟨HBR.out.drew, k + 1, by omega, by go_num⟩
      case measure => simp [intOf]; omega
    · obtain rfl : d.secs.length = k := by omega
      have hkl : decide ((d.secs.length : Int) < (d.secs.length : Int)) = false := by simp
      go_wp2_with fail
      go_loopw [6] (fun i wr => Below W0.heap.size W0 wr ∧ ∃ k : Nat, k ≤ d.pend.length ∧ i = .int .i64 k) (fun i _ => d.pend.length - (intOf i).toNat)
      case atStart => exact ⟨HBR.out, 0, Nat.zero_le _, rfl⟩
      case round =>
        obtain ⟨hbr, k, hk, rfl⟩ := hrel
        clear HBR HGR
        have HBR := Lib.hid hbr
        have HGR := Lib.hid (HG.out.trans (hbr.mono HG.out.size))
        clear q0 q1 q2 q3 r0 r1 r2 r3 qz rz
        obtain ⟨q0, q1, q2, q3, _, _, _, _, qz⟩ := HB1.out.step hbr
        obtain ⟨r0, r1, r2, r3, _, _, _, _, rz⟩ := HB2.out.step hbr
        clear hbr
        by_cases hlt : k < d.pend.length
        · obtain ⟨b1, o1, v1, x1, ha1, hl1', hx1, hy1, y1, z1⟩ := (HD.out.step HGR.out).2.at_ hlt
          obtain ⟨b2, o2, v2, x2, ha2, hl2', hx2, hy2, y2, z2⟩ := (HE.out.step HGR.out).2.at_ hlt
          simp only at ha1 ha2
          subst ha1 ha2
          obtain rfl : x1 = x2 := Option.some.inj (hx1.symm.trans hx2)
          have hc1 := conv_by hy1.drew
          have hc2 := conv_by hy2.drew
          clear hx1 hx2 hy1 hy2
          have hk0 : (0 : Int) ≤ (k : Int) := by omega
          have hkl : decide ((k : Int) < (d.pend.length : Int)) = true := by simpa using hlt
          go_upto_region 11 with fail
          refine wp_region_tail 29 (by kernel_rfl) (by kernel_rfl) ?_
          simp only [List.take_succ_cons, List.take_zero, List.drop_succ_cons, List.drop_zero]
          repeat still_step
          refine wpStill_nil ?_
          go_wp2_with fail
          go_roundw
          case rel => exact ⟨HBR.out.drew, k + 1, by omega, by go_num⟩
          case measure => simp [intOf]; omega
        · obtain rfl : d.pend.length = k := by omega
          have hkl2 : decide ((d.pend.length : Int) < (d.pend.length : Int)) = false := by simp
          go_wp2_with fail
          go_ret
          exact ⟨rfl, HGR.out⟩

end Go.Proofs.Ytgbkhmoplocmkaa
