/- Sync and Stop as the reference says -/
import Derived.Test.YtebbmplbpgilaaaDskQ
import Derived.Test.YtebbmplbpgilaaaDskN
import Derived.BigQuiet
namespace Go.Proofs.Ytebbmplbpgilaaa
open Go.RowKit Go.Shelf
set_option linter.unusedSimpArgs false
set_option linter.unusedVariables false

set_option maxRecDepth 100000 in
set_option maxHeartbeats 8000000 in
theorem SyncSpec_walk (sv pv : Sl) (d : Dk) (x : Int) (w : World) (hd : Di w everyB sv pv d) :
    Calls Try.prog 5 #[dkV sv pv d, .int .i64 x] w fun e w' => e = .returned (.bool true) ∧ Below w.heap.size w w' := by
  obtain ⟨D, E, hDE⟩ : ∃ D E, syncD d = (D, E) := ⟨_, _, rfl⟩
  obtain ⟨R, G, hRG⟩ : ∃ R G, stopD d x = (R, G) := ⟨_, _, rfl⟩
  have hW := Lib.hid (fun W (h : Below w.heap.size w W) => Sync_any (P := everyB) d sv pv W (hd.step h))
  have hRW := Lib.hid (fun W (h : Below w.heap.size w W) => RSync_any (P := everyB) d sv pv W (hd.step h))
  have hRd := Lib.hid (fun W (h : Below w.heap.size w W) => Stop_any (P := everyB) d sv pv x W (hd.step h))
  have hRR := Lib.hid (fun W (h : Below w.heap.size w W) => RStop_any (P := everyB) d sv pv x W (hd.step h))
  rw [hDE] at hW hRW
  rw [hRG] at hRd hRR
  simp only [dkV] at hW hRW hRd hRR ⊢
  clear hDE hRG
  go_enter Try.func5, Try.ntmps5
  go_wp2_with fail
  obtain ⟨W0, hW0⟩ : ∃ W, W = w.alloc (.cells #[.slice sv.a sv.n sv.c, .slice pv.a pv.n pv.c, .int .i64 d.left, .bool d.stopped] 25) := ⟨_, rfl⟩
  rw [← hW0]
  have b0 : Below w.heap.size w W0 := by rw [hW0]; exact (Below.refl _ _).alloc (Nat.le_refl _) _
  have x0 : Box4 W0 w.heap.size (.slice sv.a sv.n sv.c) (.slice pv.a pv.n pv.c) (.int .i64 d.left) (.bool d.stopped) := by rw [hW0]; exact Box4.new ..
  have HD := Lib.hid (hd.step b0)
  have HX := Lib.hid (x0)
  have ba := Lib.hid b0
  clear hW0 b0 x0
  refine (sane_any _).mono ?_
  rintro e w1 ⟨rfl, hb_w1⟩
  have S_w1 : Below W0.heap.size W0 w1 := (Below.refl _ W0).trans (hb_w1.mono (by (try simp) <;> omega))
  have HD := Lib.hid (HD.out.step S_w1)
  have HX := Lib.hid (HX.out.step S_w1)
  have ba := Lib.hid (ba.out.trans (S_w1.mono ba.out.size))
  have z_w1 := S_w1.size
  obtain ⟨HX_0, HX_1, HX_2, HX_3, HX_f0, HX_f1, HX_f2, HX_f3, HX_z⟩ := HX.out
  go_wp2_with fail
  refine (Few_any (P := everyB) d sv pv _ HD.out).mono ?_
  rintro e w2 ⟨⟨bf, rfl⟩, hb_w2⟩
  have S_w2 : Below w1.heap.size w1 w2 := (Below.refl _ w1).trans (hb_w2.mono (by (try simp) <;> omega))
  have HD := Lib.hid (HD.out.step S_w2)
  have HX := Lib.hid (HX.out.step S_w2)
  have ba := Lib.hid (ba.out.trans (S_w2.mono ba.out.size))
  have z_w2 := S_w2.size
  cases bf
  · go_wp2_with fail
    go_ret
    exact ⟨rfl, ba.out⟩
  clear HX_0 HX_1 HX_2 HX_3 HX_f0 HX_f1 HX_f2 HX_f3 HX_z
  obtain ⟨HX_0, HX_1, HX_2, HX_3, HX_f0, HX_f1, HX_f2, HX_f3, HX_z⟩ := HX.out
  go_wp2_with fail
  refine (hW.out _ ba.out).mono ?_
  rintro e w3 ⟨⟨sx, px, rfl, hdn⟩, hb_w3⟩
  have S_w3 : Below w2.heap.size w2 w3 := (Below.refl _ w2).trans (hb_w3.mono (by (try simp) <;> omega))
  have HD := Lib.hid (HD.out.step S_w3)
  have HX := Lib.hid (HX.out.step S_w3)
  have ba := Lib.hid (ba.out.trans (S_w3.mono ba.out.size))
  have z_w3 := S_w3.size
  have HDX := Lib.hid (hdn.t)
  clear hdn
  clear HX_0 HX_1 HX_2 HX_3 HX_f0 HX_f1 HX_f2 HX_f3 HX_z
  obtain ⟨HX_0, HX_1, HX_2, HX_3, HX_f0, HX_f1, HX_f2, HX_f3, HX_z⟩ := HX.out
  go_wp2_with fail
  have xx := Box4.new w3 (.slice sx.a sx.n sx.c) (.slice px.a px.n px.c) (.int .i64 D.left) (.bool D.stopped) 25
  refine (hRW.out _ (ba.out.alloc ba.out.size _)).mono ?_
  rintro e w4 ⟨⟨sy, py, rfl, hdn⟩, hb_w4⟩
  have HXX := Lib.hid (xx.step hb_w4)
  clear xx
  have S_w4 : Below w3.heap.size w3 w4 := ((Below.refl _ w3).alloc (by (try simp) <;> omega) _).trans (hb_w4.mono (by (try simp) <;> omega))
  have HD := Lib.hid (HD.out.step S_w4)
  have HX := Lib.hid (HX.out.step S_w4)
  have ba := Lib.hid (ba.out.trans (S_w4.mono ba.out.size))
  have HDX := Lib.hid (HDX.out.step S_w4)
  have z_w4 := S_w4.size
  have HDY := Lib.hid (hdn.t)
  clear hdn
  clear HX_0 HX_1 HX_2 HX_3 HX_f0 HX_f1 HX_f2 HX_f3 HX_z
  obtain ⟨HX_0, HX_1, HX_2, HX_3, HX_f0, HX_f1, HX_f2, HX_f3, HX_z⟩ := HX.out
  go_wp2_with fail
  have xx := Box4.new w4 (.slice sy.a sy.n sy.c) (.slice py.a py.n py.c) (.int .i64 D.left) (.bool D.stopped) 25
  refine (hRd.out _ (ba.out.alloc ba.out.size _)).mono ?_
  rintro e w5 ⟨⟨su, pu, rfl, hdn⟩, hb_w5⟩
  have HXY := Lib.hid (xx.step hb_w5)
  clear xx
  have S_w5 : Below w4.heap.size w4 w5 := ((Below.refl _ w4).alloc (by (try simp) <;> omega) _).trans (hb_w5.mono (by (try simp) <;> omega))
  have HD := Lib.hid (HD.out.step S_w5)
  have HX := Lib.hid (HX.out.step S_w5)
  have ba := Lib.hid (ba.out.trans (S_w5.mono ba.out.size))
  have HDX := Lib.hid (HDX.out.step S_w5)
  have HXX := Lib.hid (HXX.out.step S_w5)
  have HDY := Lib.hid (HDY.out.step S_w5)
  have z_w5 := S_w5.size
  have HDU := Lib.hid (hdn.t)
  clear hdn
  clear HX_0 HX_1 HX_2 HX_3 HX_f0 HX_f1 HX_f2 HX_f3 HX_z
  obtain ⟨HX_0, HX_1, HX_2, HX_3, HX_f0, HX_f1, HX_f2, HX_f3, HX_z⟩ := HX.out
  go_wp2_with fail
  have xx := Box4.new w5 (.slice su.a su.n su.c) (.slice pu.a pu.n pu.c) (.int .i64 R.left) (.bool R.stopped) 25
  refine (hRR.out _ (ba.out.alloc ba.out.size _)).mono ?_
  rintro e w6 ⟨⟨sz, pz, rfl, hdn⟩, hb_w6⟩
  have HXU := Lib.hid (xx.step hb_w6)
  clear xx
  have S_w6 : Below w5.heap.size w5 w6 := ((Below.refl _ w5).alloc (by (try simp) <;> omega) _).trans (hb_w6.mono (by (try simp) <;> omega))
  have HD := Lib.hid (HD.out.step S_w6)
  have HX := Lib.hid (HX.out.step S_w6)
  have ba := Lib.hid (ba.out.trans (S_w6.mono ba.out.size))
  have HDX := Lib.hid (HDX.out.step S_w6)
  have HXX := Lib.hid (HXX.out.step S_w6)
  have HDY := Lib.hid (HDY.out.step S_w6)
  have HXY := Lib.hid (HXY.out.step S_w6)
  have HDU := Lib.hid (HDU.out.step S_w6)
  have z_w6 := S_w6.size
  have HDZ := Lib.hid (hdn.t)
  clear hdn
  have xx := Box4.new w6 (.slice sz.a sz.n sz.c) (.slice pz.a pz.n pz.c) (.int .i64 R.left) (.bool R.stopped) 25
  have hb7 : Below w6.heap.size w6 (w6.alloc (.cells #[.slice sz.a sz.n sz.c, .slice pz.a pz.n pz.c, .int .i64 R.left, .bool R.stopped] 25)) := (Below.refl _ _).alloc (Nat.le_refl _) _
  go_upto_region 9 with fail
  obtain ⟨W7, hW7⟩ : ∃ W, W = w6.alloc (.cells #[.slice sz.a sz.n sz.c, .slice pz.a pz.n pz.c, .int .i64 R.left, .bool R.stopped] 25) := ⟨_, rfl⟩
  rw [← hW7] at xx hb7 ⊢
  clear hW7
  clear HX_0 HX_1 HX_2 HX_3 HX_f0 HX_f1 HX_f2 HX_f3 HX_z
  have S_W7 : Below w6.heap.size w6 W7 := (Below.refl _ w6).trans (hb7.mono (by (try simp) <;> omega))
  have HD := Lib.hid (HD.out.step S_W7)
  have HX := Lib.hid (HX.out.step S_W7)
  have ba := Lib.hid (ba.out.trans (S_W7.mono ba.out.size))
  have HDX := Lib.hid (HDX.out.step S_W7)
  have HXX := Lib.hid (HXX.out.step S_W7)
  have HDY := Lib.hid (HDY.out.step S_W7)
  have HXY := Lib.hid (HXY.out.step S_W7)
  have HDU := Lib.hid (HDU.out.step S_W7)
  have HXU := Lib.hid (HXU.out.step S_W7)
  have HDZ := Lib.hid (HDZ.out.step S_W7)
  have z_W7 := S_W7.size
  have HXZ := Lib.hid (xx)
  clear xx
  obtain ⟨HXX_0, HXX_1, HXX_2, HXX_3, HXX_f0, HXX_f1, HXX_f2, HXX_f3, HXX_z⟩ := HXX.out
  obtain ⟨HXY_0, HXY_1, HXY_2, HXY_3, HXY_f0, HXY_f1, HXY_f2, HXY_f3, HXY_z⟩ := HXY.out
  obtain ⟨HXU_0, HXU_1, HXU_2, HXU_3, HXU_f0, HXU_f1, HXU_f2, HXU_f3, HXU_z⟩ := HXU.out
  obtain ⟨HXZ_0, HXZ_1, HXZ_2, HXZ_3, HXZ_f0, HXZ_f1, HXZ_f2, HXZ_f3, HXZ_z⟩ := HXZ.out
  go_wp2_with fail
  refine (Same_any (P := everyB) (Q := everyB) D sx px sy py _ HDX.out HDY.out).mono ?_
  rintro e w8 ⟨rfl, hb_w8⟩
  have S_w8 : Below W7.heap.size W7 w8 := (Below.refl _ W7).trans (hb_w8.mono (by (try simp) <;> omega))
  have HD := Lib.hid (HD.out.step S_w8)
  have HX := Lib.hid (HX.out.step S_w8)
  have ba := Lib.hid (ba.out.trans (S_w8.mono ba.out.size))
  have HDX := Lib.hid (HDX.out.step S_w8)
  have HXX := Lib.hid (HXX.out.step S_w8)
  have HDY := Lib.hid (HDY.out.step S_w8)
  have HXY := Lib.hid (HXY.out.step S_w8)
  have HDU := Lib.hid (HDU.out.step S_w8)
  have HXU := Lib.hid (HXU.out.step S_w8)
  have HDZ := Lib.hid (HDZ.out.step S_w8)
  have HXZ := Lib.hid (HXZ.out.step S_w8)
  have z_w8 := S_w8.size
  clear HXX_0 HXX_1 HXX_2 HXX_3 HXX_f0 HXX_f1 HXX_f2 HXX_f3 HXX_z
  clear HXY_0 HXY_1 HXY_2 HXY_3 HXY_f0 HXY_f1 HXY_f2 HXY_f3 HXY_z
  clear HXU_0 HXU_1 HXU_2 HXU_3 HXU_f0 HXU_f1 HXU_f2 HXU_f3 HXU_z
  clear HXZ_0 HXZ_1 HXZ_2 HXZ_3 HXZ_f0 HXZ_f1 HXZ_f2 HXZ_f3 HXZ_z
  obtain ⟨HXU_0, HXU_1, HXU_2, HXU_3, HXU_f0, HXU_f1, HXU_f2, HXU_f3, HXU_z⟩ := HXU.out
  obtain ⟨HXZ_0, HXZ_1, HXZ_2, HXZ_3, HXZ_f0, HXZ_f1, HXZ_f2, HXZ_f3, HXZ_z⟩ := HXZ.out
  go_wp2_with fail
  refine (Same_any (P := everyB) (Q := everyB) R su pu sz pz _ HDU.out HDZ.out).mono ?_
  rintro e w9 ⟨rfl, hb_w9⟩
  have S_w9 : Below w8.heap.size w8 w9 := (Below.refl _ w8).trans (hb_w9.mono (by (try simp) <;> omega))
  have HD := Lib.hid (HD.out.step S_w9)
  have HX := Lib.hid (HX.out.step S_w9)
  have ba := Lib.hid (ba.out.trans (S_w9.mono ba.out.size))
  have HDX := Lib.hid (HDX.out.step S_w9)
  have HXX := Lib.hid (HXX.out.step S_w9)
  have HDY := Lib.hid (HDY.out.step S_w9)
  have HXY := Lib.hid (HXY.out.step S_w9)
  have HDU := Lib.hid (HDU.out.step S_w9)
  have HXU := Lib.hid (HXU.out.step S_w9)
  have HDZ := Lib.hid (HDZ.out.step S_w9)
  have HXZ := Lib.hid (HXZ.out.step S_w9)
  have z_w9 := S_w9.size
  clear HXU_0 HXU_1 HXU_2 HXU_3 HXU_f0 HXU_f1 HXU_f2 HXU_f3 HXU_z
  clear HXZ_0 HXZ_1 HXZ_2 HXZ_3 HXZ_f0 HXZ_f1 HXZ_f2 HXZ_f3 HXZ_z
  go_wp2_with fail
  go_ret
  exact ⟨rfl, ba.out⟩

theorem DiskSyncSpec_any {w : World} (x : Sl × Sl × Dk) (hx : Di w everyB x.1 x.2.1 x.2.2) (n : Int) (hn : (Lit.int .i64 n).wf = true) :
    Calls Try.prog 5 #[dkV x.1 x.2.1 x.2.2, .int .i64 n] w fun e w' => e = .returned (.bool true) ∧ Below w.heap.size w w' :=
  SyncSpec_walk x.1 x.2.1 x.2.2 n w hx
end Go.Proofs.Ytebbmplbpgilaaa
