/- What a stop and a restart leave -/
import Derived.Test.YtebbmplbpgilaaaDskQ
import Derived.BigQuiet
namespace Go.Proofs.Ytebbmplbpgilaaa
open Go.RowKit Go.Shelf
set_option linter.unusedSimpArgs false
set_option linter.unusedVariables false

theorem Box4.setD {W : World} {b : Nat} {V0 V1 V2 V3 : Value} (h : Box4 W b V0 V1 V2 V3) (v : Value) : Box4 (W.setCell ⟨b, 3, none⟩ v) b V0 V1 V2 v := by
  refine ⟨?_, ?_, ?_, ?_, ?_, ?_, ?_, ?_, by have := (show W.heap.size ≤ (W.setCell ⟨b, 3, none⟩ v).heap.size from by simp [World.setCell]); have := h.z; omega⟩
  · rw [set_far _ _ _ _ (addr_ne (by omega))]; exact h.c0
  · rw [set_far _ _ _ _ (addr_ne (by omega))]; exact h.c1
  · rw [set_far _ _ _ _ (addr_ne (by omega))]; exact h.c2
  · exact set_at _ _ _ _ h.c3
  · rw [World.frozen?_setCell]; exact h.f0
  · rw [World.frozen?_setCell]; exact h.f1
  · rw [World.frozen?_setCell]; exact h.f2
  · rw [World.frozen?_setCell]; exact h.f3
def stopd (d : Dk) : Dk := ⟨d.secs, d.pend, d.left, true⟩
theorem runs_stopd (d : Dk) : runsD (stopd d) = false := by simp [runsD, stopd]
theorem rr (d : Dk) : restartD (restartD d) = restartD d := rfl

set_option maxRecDepth 100000 in
set_option maxHeartbeats 8000000 in
theorem Stopped_walk (sv pv : Sl) (d : Dk) (x lf : Int) (bv : Sl) (bs : List Int) (w : World) (hd0 : Di w everyB sv pv d) (hbv0 : By w everyB bv bs) :
    Calls Try.prog 9 #[dkV sv pv d, .int .i64 x, .int .i64 lf, .slice bv.a bv.n bv.c] w fun e w' => e = .returned (.bool true) ∧ Below w.heap.size w w' := by
  have hbn := hbv0.1.1
  have hd := hd0.mono2 (Q := fun b => b ≠ w.heap.size) (fun b _ hl => by omega)
  have hbv := hbv0.mono2 (Q := fun b => b ≠ w.heap.size) (fun b _ hl => by omega)
  have hsn := hd.1.len
  have hsl : d.secs.length ≤ 9223372036854775807 := by
    obtain ⟨us, hu, he, _⟩ := hd.1
    have := hu.le; omega
  have HBY0 := Lib.hid hbv
  obtain ⟨Ab, nb, cb⟩ := bv
  obtain ⟨As, ns, cs⟩ := sv
  simp only at hbn hsn
  subst hbn hsn
  simp only [dkV]
  clear hd0 hbv0 hbv
  go_enter Try.func9, Try.ntmps9
  go_wp2_with fail
  obtain ⟨W0, hW0⟩ : ∃ W, W = w.alloc (.cells #[.slice As d.secs.length cs, .slice pv.a pv.n pv.c, .int .i64 d.left, .bool d.stopped] 25) := ⟨_, rfl⟩
  rw [← hW0]
  have b0 : Below w.heap.size w W0 := by rw [hW0]; exact (Below.refl _ _).alloc (Nat.le_refl _) _
  have x0 : Box4 W0 w.heap.size (.slice As d.secs.length cs) (.slice pv.a pv.n pv.c) (.int .i64 d.left) (.bool d.stopped) := by rw [hW0]; exact Box4.new ..
  have HD := Lib.hid (hd.step b0)
  have HX := Lib.hid (x0)
  have HBY := Lib.hid (HBY0.out.step b0)
  have ba := Lib.hid b0
  clear hW0 b0 x0 hd
  refine (sane_any _).mono ?_
  rintro e w1 ⟨rfl, hb_w1⟩
  have S_w1 : Below W0.heap.size W0 w1 := (Below.refl _ W0).trans (hb_w1.mono (by (try simp) <;> omega))
  have HD := Lib.hid (HD.out.step S_w1)
  have HX := Lib.hid (HX.out.step S_w1)
  have HBY := Lib.hid (HBY.out.step S_w1)
  have ba := Lib.hid (ba.out.trans (S_w1.mono ba.out.size))
  have z_w1 := S_w1.size
  obtain ⟨HX_0, HX_1, HX_2, HX_3, HX_f0, HX_f1, HX_f2, HX_f3, HX_z⟩ := HX.out
  go_wp2_with fail
  refine (Few_any d (⟨As, d.secs.length, cs⟩ : Sl) pv _ HD.out).mono ?_
  rintro e w2 ⟨⟨bf, rfl⟩, hb_w2⟩
  have S_w2 : Below w1.heap.size w1 w2 := (Below.refl _ w1).trans (hb_w2.mono (by (try simp) <;> omega))
  have HD := Lib.hid (HD.out.step S_w2)
  have HX := Lib.hid (HX.out.step S_w2)
  have HBY := Lib.hid (HBY.out.step S_w2)
  have ba := Lib.hid (ba.out.trans (S_w2.mono ba.out.size))
  have z_w2 := S_w2.size
  cases bf
  · go_wp2_with fail
    go_ret
    exact ⟨rfl, ba.out⟩
  by_cases hlen : bs.length ≤ 1000
  · have e1 : decide ((1000 : Int) < (bs.length : Int)) = false := by simp; omega
    clear hlen
    obtain ⟨HX_0, HX_1, HX_2, HX_3, HX_f0, HX_f1, HX_f2, HX_f3, HX_z⟩ := HX.out
    go_wp2_with fail
    refine (Restart_cell d (⟨As, d.secs.length, cs⟩ : Sl) pv _ HD.out).mono ?_
    simp only [dkV, restartD]
    rintro e w3 ⟨rfl, hb_w3⟩
    have S_w3 : Below w2.heap.size w2 w3 := (Below.refl _ w2).trans (hb_w3.mono (by (try simp) <;> omega))
    have HD := Lib.hid (HD.out.step S_w3)
    have HX := Lib.hid (HX.out.step S_w3)
    have HBY := Lib.hid (HBY.out.step S_w3)
    have ba := Lib.hid (ba.out.trans (S_w3.mono ba.out.size))
    have z_w3 := S_w3.size
    clear HX_0 HX_1 HX_2 HX_3 HX_f0 HX_f1 HX_f2 HX_f3 HX_z
    obtain ⟨HX_0, HX_1, HX_2, HX_3, HX_f0, HX_f1, HX_f2, HX_f3, HX_z⟩ := HX.out
    go_wp2_with fail
    have hbx : Below w3.heap.size w3 (w3.alloc (.cells #[.slice As d.secs.length cs, .slice none 0 0, .int .i64 (-1), .bool false] 25)) := (Below.refl _ _).alloc (Nat.le_refl _) _
    have xx := Box4.new w3 (.slice As d.secs.length cs) (.slice none 0 0) (.int .i64 (-1)) (.bool false) 25
    refine (Restart_cell (restartD d) (⟨As, d.secs.length, cs⟩ : Sl) ⟨none, 0, 0⟩ _ (HD.out.step hbx).restart).mono ?_
    simp only [dkV, restartD]
    rintro e w4 ⟨rfl, hb_w4⟩
    have HXX := Lib.hid (xx.step hb_w4)
    clear xx hbx
    have S_w4 : Below w3.heap.size w3 w4 := ((Below.refl _ w3).alloc (by (try simp) <;> omega) _).trans (hb_w4.mono (by (try simp) <;> omega))
    have HD := Lib.hid (HD.out.step S_w4)
    have HX := Lib.hid (HX.out.step S_w4)
    have HBY := Lib.hid (HBY.out.step S_w4)
    have ba := Lib.hid (ba.out.trans (S_w4.mono ba.out.size))
    have z_w4 := S_w4.size
    go_upto_region 7 with fail
    obtain ⟨W5, hW5⟩ : ∃ W, W = w4.alloc (.cells #[.slice As d.secs.length cs, .slice none 0 0, .int .i64 (-1), .bool false] 25) := ⟨_, rfl⟩
    rw [← hW5]
    have hb5 : Below w4.heap.size w4 W5 := by rw [hW5]; exact (Below.refl _ _).alloc (Nat.le_refl _) _
    have xy : Box4 W5 w4.heap.size (.slice As d.secs.length cs) (.slice none 0 0) (.int .i64 (-1)) (.bool false) := by rw [hW5]; exact Box4.new ..
    clear hW5
    clear HX_0 HX_1 HX_2 HX_3 HX_f0 HX_f1 HX_f2 HX_f3 HX_z
    have S_W5 : Below w4.heap.size w4 W5 := (Below.refl _ w4).trans (hb5.mono (by (try simp) <;> omega))
    have HD := Lib.hid (HD.out.step S_W5)
    have HX := Lib.hid (HX.out.step S_W5)
    have HBY := Lib.hid (HBY.out.step S_W5)
    have ba := Lib.hid (ba.out.trans (S_W5.mono ba.out.size))
    have HXX := Lib.hid (HXX.out.step S_W5)
    have z_W5 := S_W5.size
    have HXY := Lib.hid (xy)
    clear xy
    obtain ⟨HX_0, HX_1, HX_2, HX_3, HX_f0, HX_f1, HX_f2, HX_f3, HX_z⟩ := HX.out
    obtain ⟨HXX_0, HXX_1, HXX_2, HXX_3, HXX_f0, HXX_f1, HXX_f2, HXX_f3, HXX_z⟩ := HXX.out
    obtain ⟨HXY_0, HXY_1, HXY_2, HXY_3, HXY_f0, HXY_f1, HXY_f2, HXY_f3, HXY_z⟩ := HXY.out
    go_wp2_with fail
    refine (Same_any (restartD d) (⟨As, d.secs.length, cs⟩ : Sl) ⟨none, 0, 0⟩ (⟨As, d.secs.length, cs⟩ : Sl) ⟨none, 0, 0⟩ _ HD.out.restart HD.out.restart).mono ?_
    rintro e w6 ⟨rfl, hb_w6⟩
    have S_w6 : Below W5.heap.size W5 w6 := (Below.refl _ W5).trans (hb_w6.mono (by (try simp) <;> omega))
    have HD := Lib.hid (HD.out.step S_w6)
    have HX := Lib.hid (HX.out.step S_w6)
    have HBY := Lib.hid (HBY.out.step S_w6)
    have ba := Lib.hid (ba.out.trans (S_w6.mono ba.out.size))
    have HXX := Lib.hid (HXX.out.step S_w6)
    have HXY := Lib.hid (HXY.out.step S_w6)
    have z_w6 := S_w6.size
    clear HX_0 HX_1 HX_2 HX_3 HX_f0 HX_f1 HX_f2 HX_f3 HX_z
    clear HXX_0 HXX_1 HXX_2 HXX_3 HXX_f0 HXX_f1 HXX_f2 HXX_f3 HXX_z
    clear HXY_0 HXY_1 HXY_2 HXY_3 HXY_f0 HXY_f1 HXY_f2 HXY_f3 HXY_z
    obtain ⟨HX_0, HX_1, HX_2, HX_3, HX_f0, HX_f1, HX_f2, HX_f3, HX_z⟩ := HX.out
    obtain ⟨HXX_0, HXX_1, HXX_2, HXX_3, HXX_f0, HXX_f1, HXX_f2, HXX_f3, HXX_z⟩ := HXX.out
    have q1 : ((d.secs.length : Int) == (d.secs.length : Int)) = true := by simp
    go_wp2_with fail
    go_loopw [11] (fun i wr => Below w6.heap.size w6 wr ∧ ∃ k : Nat, k ≤ d.secs.length ∧ i = .int .i64 k) (fun i _ => d.secs.length - (intOf i).toNat)
    case atStart => exact ⟨Below.refl _ _, 0, Nat.zero_le _, rfl⟩
    case round =>
      obtain ⟨hbr, k, hk, rfl⟩ := hrel
      clear HX_0 HX_1 HX_2 HX_3 HX_f0 HX_f1 HX_f2 HX_f3 HX_z
      clear HXX_0 HXX_1 HXX_2 HXX_3 HXX_f0 HXX_f1 HXX_f2 HXX_f3 HXX_z
      have S_wr : Below w6.heap.size w6 wr := (Below.refl _ w6).trans (hbr.mono (by (try simp) <;> omega))
      have HD := Lib.hid (HD.out.step S_wr)
      have HX := Lib.hid (HX.out.step S_wr)
      have HBY := Lib.hid (HBY.out.step S_wr)
      have ba := Lib.hid (ba.out.trans (S_wr.mono ba.out.size))
      have HXX := Lib.hid (HXX.out.step S_wr)
      have HXY := Lib.hid (HXY.out.step S_wr)
      have z_wr := S_wr.size
      have HBR := Lib.hid hbr
      clear hbr
      obtain ⟨HX_0, HX_1, HX_2, HX_3, HX_f0, HX_f1, HX_f2, HX_f3, HX_z⟩ := HX.out
      obtain ⟨HXX_0, HXX_1, HXX_2, HXX_3, HXX_f0, HXX_f1, HXX_f2, HXX_f3, HXX_z⟩ := HXX.out
      by_cases hlt : k < d.secs.length
      · obtain ⟨b1, o1, v1, x1, ha1, hl1, hx1, hy1, y1⟩ := HD.out.1.at_ hlt
        simp only at ha1
        subst ha1
        have hc1 := conv_by hy1.drew
        clear hx1 hy1
        have hk0 : (0 : Int) ≤ (k : Int) := by omega
        have hkl : decide ((k : Int) < (d.secs.length : Int)) = true := by simpa using hlt
        go_upto_region 12 with fail
        refine wp_region_tail 12 (by kernel_rfl) (by kernel_rfl) ?_
        simp only [List.take_succ_cons, List.take_zero, List.drop_succ_cons, List.drop_zero]
        repeat still_step
        refine wpStill_nil ?_
        go_wp2_with fail
        go_roundw
        case rel => exact ⟨HBR.out.drew, k + 1, by omega, by go_num⟩
        case measure => simp [intOf]; omega
      · obtain rfl : d.secs.length = k := by omega
        have hkl : decide ((d.secs.length : Int) < (d.secs.length : Int)) = false := by simp
        go_upto_region 15 with fail
        have kp : Kp (fun b => b ≠ w.heap.size) wr (wr.setCell ⟨w.heap.size, 3, none⟩ (.bool true)) := Kp.of_grown (grownBy_setCell' wr ⟨w.heap.size, 3, none⟩ (.bool true)) (fun h => h rfl)
        have x5 := HX.out.setD (.bool true)
        have hd5 : Di _ (fun b => b ≠ w.heap.size) ⟨As, d.secs.length, cs⟩ pv (stopd d) := HD.out.keep kp
        have hby5 := HBY.out.keep kp
        have ba5 := ba.out.setCell (show w.heap.size ≤ (⟨w.heap.size, 3, none⟩ : Addr).block from Nat.le_refl _) (.bool true)
        generalize wr.setCell ⟨w.heap.size, 3, none⟩ (.bool true) = W7 at x5 hd5 hby5 ba5 ⊢
        clear HX_0 HX_1 HX_2 HX_3 HX_f0 HX_f1 HX_f2 HX_f3 HX_z
        clear HXX_0 HXX_1 HXX_2 HXX_3 HXX_f0 HXX_f1 HXX_f2 HXX_f3 HXX_z
        clear HX HXX HXY HD HBY ba kp HBR
        have HX := Lib.hid (x5)
        have HD := Lib.hid (hd5)
        have HBY := Lib.hid (hby5)
        have ba := Lib.hid ba5
        clear x5 hd5 hby5 ba5
        obtain ⟨HX_0, HX_1, HX_2, HX_3, HX_f0, HX_f1, HX_f2, HX_f3, HX_z⟩ := HX.out
        go_wp2_with fail
        refine (Read_any (stopd d) (⟨As, d.secs.length, cs⟩ : Sl) pv x _ HD.out).mono ?_
        rw [readD_no (.inl (runs_stopd d))]
        try simp only
        rintro e w8 ⟨⟨s_w8, rfl, _⟩, hb_w8⟩
        have S_w8 : Below W7.heap.size W7 w8 := (Below.refl _ W7).trans (hb_w8.mono (by (try simp) <;> omega))
        have HX := Lib.hid (HX.out.step S_w8)
        have HD := Lib.hid (HD.out.step S_w8)
        have HBY := Lib.hid (HBY.out.step S_w8)
        have ba := Lib.hid (ba.out.trans (S_w8.mono ba.out.size))
        have z_w8 := S_w8.size
        clear HX_0 HX_1 HX_2 HX_3 HX_f0 HX_f1 HX_f2 HX_f3 HX_z
        obtain ⟨HX_0, HX_1, HX_2, HX_3, HX_f0, HX_f1, HX_f2, HX_f3, HX_z⟩ := HX.out
        go_wp2_with fail
        refine (Write_any (stopd d) (⟨As, d.secs.length, cs⟩ : Sl) pv ⟨Ab, bs.length, cb⟩ x bs _ HD.out HBY.out).mono ?_
        rw [writeD_no (.inl (runs_stopd d))]
        simp only [dkV]
        rintro e w9 ⟨⟨s_w9, p_w9, rfl, _⟩, hb_w9⟩
        have S_w9 : Below w8.heap.size w8 w9 := (Below.refl _ w8).trans (hb_w9.mono (by (try simp) <;> omega))
        have HX := Lib.hid (HX.out.step S_w9)
        have HD := Lib.hid (HD.out.step S_w9)
        have HBY := Lib.hid (HBY.out.step S_w9)
        have ba := Lib.hid (ba.out.trans (S_w9.mono ba.out.size))
        have z_w9 := S_w9.size
        clear HX_0 HX_1 HX_2 HX_3 HX_f0 HX_f1 HX_f2 HX_f3 HX_z
        obtain ⟨HX_0, HX_1, HX_2, HX_3, HX_f0, HX_f1, HX_f2, HX_f3, HX_z⟩ := HX.out
        go_wp2_with fail
        refine (Sync_any (stopd d) (⟨As, d.secs.length, cs⟩ : Sl) pv _ (HD.out.step ((Below.refl _ _).alloc (Nat.le_refl _) _))).mono ?_
        rw [syncD_no (runs_stopd d)]
        simp only [dkV]
        rintro e w10 ⟨⟨s_w10, p_w10, rfl, _⟩, hb_w10⟩
        have S_w10 : Below w9.heap.size w9 w10 := ((Below.refl _ w9).alloc (by (try simp) <;> omega) _).trans (hb_w10.mono (by (try simp) <;> omega))
        have HX := Lib.hid (HX.out.step S_w10)
        have HD := Lib.hid (HD.out.step S_w10)
        have HBY := Lib.hid (HBY.out.step S_w10)
        have ba := Lib.hid (ba.out.trans (S_w10.mono ba.out.size))
        have z_w10 := S_w10.size
        clear HX_0 HX_1 HX_2 HX_3 HX_f0 HX_f1 HX_f2 HX_f3 HX_z
        obtain ⟨HX_0, HX_1, HX_2, HX_3, HX_f0, HX_f1, HX_f2, HX_f3, HX_z⟩ := HX.out
        go_wp2_with fail
        refine (Stop_any (stopd d) (⟨As, d.secs.length, cs⟩ : Sl) pv lf _ (HD.out.step ((Below.refl _ _).alloc (Nat.le_refl _) _))).mono ?_
        rw [stopD_no (runs_stopd d)]
        simp only [dkV]
        rintro e w11 ⟨⟨s_w11, p_w11, rfl, _⟩, hb_w11⟩
        have S_w11 : Below w10.heap.size w10 w11 := ((Below.refl _ w10).alloc (by (try simp) <;> omega) _).trans (hb_w11.mono (by (try simp) <;> omega))
        have HX := Lib.hid (HX.out.step S_w11)
        have HD := Lib.hid (HD.out.step S_w11)
        have HBY := Lib.hid (HBY.out.step S_w11)
        have ba := Lib.hid (ba.out.trans (S_w11.mono ba.out.size))
        have z_w11 := S_w11.size
        clear HX_0 HX_1 HX_2 HX_3 HX_f0 HX_f1 HX_f2 HX_f3 HX_z
        go_wp2_with fail
        go_ret
        exact ⟨rfl, ba.out.alloc ba.out.size _⟩
  · have e1 : decide ((1000 : Int) < (bs.length : Int)) = true := by simp; omega
    obtain ⟨HX_0, HX_1, HX_2, HX_3, HX_f0, HX_f1, HX_f2, HX_f3, HX_z⟩ := HX.out
    go_wp2_with fail
    go_ret
    exact ⟨rfl, ba.out⟩

theorem DiskStopped_any {w : World} (x : Sl × Sl × Dk) (hx : Di w everyB x.1 x.2.1 x.2.2) (n : Int) (hn : (Lit.int .i64 n).wf = true) (m : Int) (hm : (Lit.int .i64 m).wf = true) (b : Sl × List Int) (hb : By w everyB b.1 b.2) :
    Calls Try.prog 9 #[dkV x.1 x.2.1 x.2.2, .int .i64 n, .int .i64 m, .slice b.1.a b.1.n b.1.c] w fun e w' => e = .returned (.bool true) ∧ Below w.heap.size w w' :=
  Stopped_walk x.1 x.2.1 x.2.2 n m b.1 b.2 w hx hb
end Go.Proofs.Ytebbmplbpgilaaa
