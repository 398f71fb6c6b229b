/- sane: the examples of the chapter. -/
import Derived.Test.YtebbmplbpgilaaaDskP
import Derived.Deep.RegionHeld3
namespace Go.Proofs.Ytebbmplbpgilaaa
open Go.RowKit Go.Shelf
set_option linter.unusedSimpArgs false
set_option linter.unusedVariables false

theorem sane_facts : ∃ D2 W1 B1 S1 S2 X b1 b0 bl, newD 2 = (D2, 0) ∧ writeD D2 1 [7] = (W1, 0) ∧ readD W1 1 = (B1, 0) ∧ readD D2 2 = ([], 450) ∧ writeD D2 0 zeros129 = (Dk.zero, 1) ∧ stopD W1 1 = (S1, 0) ∧ writeD S1 0 (doubleL 8) = (S2, 0) ∧ syncD S2 = (X, 450) ∧ X.stopped = true ∧
    readD (restartD X) 1 = (b1, 0) ∧ readD (restartD X) 0 = (b0, 0) ∧ readD (restartD W1) 1 = (bl, 0) ∧ B1.length = 128 ∧ b1.length = 128 ∧ b0.length = 128 ∧ bl.length = 128 ∧ B1[0]? = some 7 ∧ b1[0]? = some 7 ∧ b0[0]? = some 8 ∧ b0[64]? = some 0 ∧ bl[0]? = some 0 :=
  ⟨(newD 2).1, (writeD (newD 2).1 1 [7]).1, (readD (writeD (newD 2).1 1 [7]).1 1).1, (stopD (writeD (newD 2).1 1 [7]).1 1).1, (writeD (stopD (writeD (newD 2).1 1 [7]).1 1).1 0 (doubleL 8)).1, (syncD (writeD (stopD (writeD (newD 2).1 1 [7]).1 1).1 0 (doubleL 8)).1).1,
    (readD (restartD (syncD (writeD (stopD (writeD (newD 2).1 1 [7]).1 1).1 0 (doubleL 8)).1).1) 1).1, (readD (restartD (syncD (writeD (stopD (writeD (newD 2).1 1 [7]).1 1).1 0 (doubleL 8)).1).1) 0).1, (readD (restartD (writeD (newD 2).1 1 [7]).1) 1).1,
    by decide +kernel, by decide +kernel, by decide +kernel, by decide +kernel, by decide +kernel, by decide +kernel, by decide +kernel, by decide +kernel, by decide +kernel, by decide +kernel, by decide +kernel, by decide +kernel, by decide +kernel, by decide +kernel, by decide +kernel, by decide +kernel, by decide +kernel, by decide +kernel, by decide +kernel, by decide +kernel, by decide +kernel⟩
theorem chain_below {B b : Nat} {w W : World} (h : Below B w W) (hb : B ≤ b) (v0 v1 v2 v3 : Value) : Below B w ((((W.setCell ⟨b, 0, none⟩ v0).setCell ⟨b, 1, none⟩ v1).setCell ⟨b, 2, none⟩ v2).setCell ⟨b, 3, none⟩ v3) := put4_below h hb v0 v1 v2 v3
theorem Box4.drewn {W : World} {b : Nat} {V0 V1 V2 V3 : Value} (h : Box4 W b V0 V1 V2 V3) : Box4 W.drew b V0 V1 V2 V3 := ⟨h.c0, h.c1, h.c2, h.c3, h.f0, h.f1, h.f2, h.f3, h.z⟩
theorem chk0 : checkD Dk.zero = 450 := by decide +kernel
theorem RestartT_any {P : Nat → Prop} (d : Dk) (sv pv : Sl) (w : World) (hs : d.stopped = true) (h : Di w P sv pv d) :
    Calls Try.prog 17 #[.agg #[.slice sv.a sv.n sv.c, .slice pv.a pv.n pv.c, .int .i64 d.left, .bool true]] w fun e w' => (∃ sv' pv' : Sl, e = .returned (.agg #[.slice sv'.a sv'.n sv'.c, .slice pv'.a pv'.n pv'.c, .int .i64 (-1), .bool false]) ∧ Di w' (Nw P w) sv' pv' (restartD d)) ∧ Below w.heap.size w w' := by
  have h2 := Restart_any d sv pv w h
  unfold dkV at h2
  rw [hs] at h2
  exact h2
theorem new0 : newD 0 = (Dk.zero, 1) := by decide +kernel

set_option maxRecDepth 100000 in
set_option maxHeartbeats 8000000 in
theorem sane_any (w : World) : Calls Try.prog 10 #[] w fun e w' => e = .returned (.bool true) ∧ Below w.heap.size w w' := by
  obtain ⟨D2, W1, B1, S1, S2, X, b1, b0, bl, f2, f3, f4, f5, f6, f7, f8, fX, fStop, f10, f11, f12, l1, l2, l3, l4, x1, x2, x3, x4, x5⟩ := sane_facts
  have f0 := new0
  go_enter Try.func10, Try.ntmps10
  go_wp2_with fail
  refine (New_any 0 (by decide) w).mono ?_
  rw [f0]
  simp only [dkV]
  rintro e w1 ⟨⟨sv0, pv0, rfl, hd0⟩, hb_w1⟩
  have S_w1 : Below w.heap.size w w1 := (Below.refl _ w).trans (hb_w1.mono (by (try simp) <;> omega))
  have z_w1 := S_w1.size
  have ba := Lib.hid S_w1
  clear hd0
  go_wp2_with fail
  refine (New_any 2 (by decide) _).mono ?_
  rw [f2]
  simp only [dkV]
  rintro e w2 ⟨⟨sv2, pv2, rfl, hd2⟩, hb_w2⟩
  have S_w2 : Below w1.heap.size w1 w2 := ((Below.refl _ w1).alloc (by (try simp) <;> omega) _).trans (hb_w2.mono (by (try simp) <;> omega))
  have ba := Lib.hid (ba.out.trans (S_w2.mono ba.out.size))
  have z_w2 := S_w2.size
  have HD2 := Lib.hid (hd2.mono (Q := fun _ => True) (fun _ _ => trivial))
  clear hd2
  go_wp2_with fail
  have hx := Box4.new w2 (.slice sv2.a sv2.n sv2.c) (.slice pv2.a pv2.n pv2.c) (.int .i64 D2.left) (.bool D2.stopped) 25
  have hy := (one_by (w2.alloc (.cells #[.slice sv2.a sv2.n sv2.c, .slice pv2.a pv2.n pv2.c, .int .i64 D2.left, .bool D2.stopped] 25)) (fun _ => True) 7 (by decide) trivial)
  simp only [World.size_alloc] at hy
  have hd := (HD2.out.step ((Below.refl _ w2).alloc (Nat.le_refl _) (.cells #[.slice sv2.a sv2.n sv2.c, .slice pv2.a pv2.n pv2.c, .int .i64 D2.left, .bool D2.stopped] 25))).step ((Below.refl _ _).alloc (Nat.le_refl _) (.cells #[.int .u8 7] 5))
  have hx2 := hx.step ((Below.refl _ _).alloc (Nat.le_refl _) (.cells #[.int .u8 7] 5))
  refine (Write_any (P := fun _ => True) D2 sv2 pv2 ⟨some ⟨w2.heap.size + 1, 0, none⟩, 1, 1⟩ 1 [7] _ hd hy).mono ?_
  rw [f3]
  simp only [dkV]
  rintro e w3 ⟨⟨sv5, pv5, rfl, hd5⟩, hb_w3⟩
  have HB3 := Lib.hid (hx2.step hb_w3)
  have HDa := Lib.hid (hd.step hb_w3)
  clear hx hx2 hy hd
  have S_w3 : Below w2.heap.size w2 w3 := (((Below.refl _ w2).alloc (by (try simp) <;> omega) _).alloc (by (try simp) <;> omega) _).trans (hb_w3.mono (by (try simp) <;> omega))
  have ba := Lib.hid (ba.out.trans (S_w3.mono ba.out.size))
  have HD2 := Lib.hid (HD2.out.step S_w3)
  have z_w3 := S_w3.size
  clear HD2
  have HD2 := HDa
  clear HDa
  have HD5 := Lib.hid (hd5.nw (P := fun _ => True) (fun _ _ => trivial))
  clear hd5
  go_wp2_with fail
  have hx := Box4.new w3 (.slice sv5.a sv5.n sv5.c) (.slice pv5.a pv5.n pv5.c) (.int .i64 W1.left) (.bool W1.stopped) 25
  refine (Read_any (P := fun _ => True) W1 sv5 pv5 1 _ (HD5.out.step ((Below.refl _ w3).alloc (Nat.le_refl _) _))).mono ?_
  rw [f4]
  rintro e w4 ⟨⟨bv, rfl, hbv⟩, hb_w4⟩
  have HB5 := Lib.hid (hx.step hb_w4)
  clear hx
  have S_w4 : Below w3.heap.size w3 w4 := ((Below.refl _ w3).alloc (by (try simp) <;> omega) _).trans (hb_w4.mono (by (try simp) <;> omega))
  have ba := Lib.hid (ba.out.trans (S_w4.mono ba.out.size))
  have HB3 := Lib.hid (HB3.out.step S_w4)
  have HD2 := Lib.hid (HD2.out.step S_w4)
  have HD5 := Lib.hid (HD5.out.step S_w4)
  have z_w4 := S_w4.size
  have HBV := Lib.hid (hbv)
  clear hbv
  obtain ⟨HB3_0, HB3_1, HB3_2, HB3_3, HB3_f0, HB3_f1, HB3_f2, HB3_f3, HB3_z⟩ := HB3.out
  go_wp2_with fail
  refine (Read_any (P := fun _ => True) D2 sv2 pv2 2 _ HD2.out).mono ?_
  rw [f5]
  rintro e w5 ⟨⟨bv5, rfl, hbv5⟩, hb_w5⟩
  clear hbv5
  have S_w5 : Below w4.heap.size w4 w5 := (Below.refl _ w4).trans (hb_w5.mono (by (try simp) <;> omega))
  have ba := Lib.hid (ba.out.trans (S_w5.mono ba.out.size))
  have HB3 := Lib.hid (HB3.out.step S_w5)
  have HD2 := Lib.hid (HD2.out.step S_w5)
  have HD5 := Lib.hid (HD5.out.step S_w5)
  have HB5 := Lib.hid (HB5.out.step S_w5)
  have HBV := Lib.hid (HBV.out.step S_w5)
  have z_w5 := S_w5.size
  clear HB3_0 HB3_1 HB3_2 HB3_3 HB3_f0 HB3_f1 HB3_f2 HB3_f3 HB3_z
  obtain ⟨HB3_0, HB3_1, HB3_2, HB3_3, HB3_f0, HB3_f1, HB3_f2, HB3_f3, HB3_z⟩ := HB3.out
  go_upto_region 6 with fail
  have hmk9 := make129
  have sS : ∀ W, Below w5.heap.size w5 W → (W.cell? ⟨w2.heap.size, 0, none⟩ = some (.slice sv2.a sv2.n sv2.c) ∧ W.cell? ⟨w2.heap.size, 1, none⟩ = some (.slice pv2.a pv2.n pv2.c) ∧ W.cell? ⟨w2.heap.size, 2, none⟩ = some (.int .i64 D2.left) ∧ W.cell? ⟨w2.heap.size, 3, none⟩ = some (.bool D2.stopped) ∧ Below w5.heap.size w5 W) := fun W h => ⟨(HB3.out.step h).c0, (HB3.out.step h).c1, (HB3.out.step h).c2, (HB3.out.step h).c3, h⟩
  have CW : ∀ Wc blk, Below w5.heap.size w5 Wc → By Wc (fun _ => True) ⟨some ⟨blk, 0, none⟩, 129, 129⟩ zeros129 → Calls Try.prog 19 #[.agg #[.slice sv2.a sv2.n sv2.c, .slice pv2.a pv2.n pv2.c, .int .i64 D2.left, .bool D2.stopped], .int .i64 0, .slice (some ⟨blk, 0, none⟩) 129 129] Wc fun e w' => (∃ s6 p6 : Sl, e = .returned (.tuple #[.agg #[.slice s6.a s6.n s6.c, .slice p6.a p6.n p6.c, .int .i64 0, .bool false], .int .i64 1])) ∧ Below Wc.heap.size Wc w' := fun Wc blk h hy => by
    refine (Write_any (P := fun _ => True) D2 sv2 pv2 ⟨some ⟨blk, 0, none⟩, 129, 129⟩ 0 zeros129 Wc (HD2.out.step h) hy).mono ?_
    rw [f6]
    rintro e w' ⟨⟨s6, p6, rfl, _⟩, hb⟩
    exact ⟨⟨s6, p6, rfl⟩, hb⟩
  have SS := Lib.hid sS
  have CWH := Lib.hid CW
  have yA0 := zero129_by w5 (fun _ => True) trivial
  have yB0 := yA0.step ((Below.refl _ _).alloc (Nat.le_refl _) (.cells #[.slice none 0 0, .slice none 0 0, .int .i64 0, .bool false] 25))
  have yC0 := zero129_by (w5.alloc (.cells #[.slice none 0 0, .slice none 0 0, .int .i64 0, .bool false] 25)) (fun _ => True) trivial
  simp only [World.size_alloc] at yC0
  have yA := Lib.hid yA0.drew
  have yB := Lib.hid yB0.drew
  have yC := Lib.hid yC0.drew
  have hA0 : Below w5.heap.size w5 (w5.alloc (.cells zero129 5)) := (Below.refl _ _).alloc (Nat.le_refl _) _
  have hA20 : Below w5.heap.size w5 (w5.alloc (.cells #[.slice none 0 0, .slice none 0 0, .int .i64 0, .bool false] 25)) := (Below.refl _ _).alloc (Nat.le_refl _) _
  have hA := hA0.drew
  have hA2 := hA20.drew
  have hBB : Below w5.heap.size w5 ((w5.alloc (.cells zero129 5)).alloc (.cells #[.slice none 0 0, .slice none 0 0, .int .i64 0, .bool false] 25)).drew := (hA0.alloc hA0.size _).drew
  have hCC : Below w5.heap.size w5 ((w5.alloc (.cells #[.slice none 0 0, .slice none 0 0, .int .i64 0, .bool false] 25)).alloc (.cells zero129 5)).drew := (hA20.alloc hA20.size _).drew
  have xB := Lib.hid (Box4.at_ (w5.alloc (.cells zero129 5)) (.slice none 0 0) (.slice none 0 0) (.int .i64 0) (.bool false) 25 (w5.heap.size + 1) (by simp)).drewn
  have xC := Lib.hid ((Box4.new w5 (.slice none 0 0) (.slice none 0 0) (.int .i64 0) (.bool false) 25).step ((Below.refl _ _).alloc (Nat.le_refl _) (.cells zero129 5))).drewn
  clear yA0 yB0 yC0
  clear sS CW
  have hk0 : w5.heap.size ≤ w5.heap.size := Nat.le_refl _
  have hk1 : w5.heap.size ≤ w5.heap.size + 1 := Nat.le_succ _
  go_cut [11, 12] (fun _ e wx => e = .int .i64 1 ∧ Below w5.heap.size w5 wx)
  case first =>
    go_region_held3 (fun W => W.cell? ⟨w2.heap.size, 0, none⟩ = some (.slice sv2.a sv2.n sv2.c) ∧ W.cell? ⟨w2.heap.size, 1, none⟩ = some (.slice pv2.a pv2.n pv2.c) ∧ W.cell? ⟨w2.heap.size, 2, none⟩ = some (.int .i64 D2.left) ∧ W.cell? ⟨w2.heap.size, 3, none⟩ = some (.bool D2.stopped) ∧ Below w5.heap.size w5 W) (first | with_reducible exact SS.out _ (Below.refl w5.heap.size w5).drew | with_reducible exact SS.out _ hA | with_reducible exact SS.out _ hA2 | with_reducible exact SS.out _ hBB | with_reducible exact SS.out _ hCC | with_reducible exact SS.out _ (hA.trans (hb6.mono hA.size)) | with_reducible exact SS.out _ (hBB.trans (hb6.mono hBB.size)) | with_reducible exact SS.out _ (hCC.trans (hb6.mono hCC.size)) | with_reducible exact SS.out _ ((hA.trans (hb6.mono hA.size)).alloc (Nat.le_trans hA.size hb6.size) _) | with_reducible exact SS.out _ (chain_below (hBB.trans (hb6.mono hBB.size)) hk1 _ _ _ _) | with_reducible exact SS.out _ (chain_below (hCC.trans (hb6.mono hCC.size)) hk0 _ _ _ _)) (first | (go_at_call 19; with_reducible refine Calls.mono (CWH.out _ _ hA yA.out) ?_; rintro e w6 ⟨⟨s6, p6, rfl⟩, hb6⟩) | (go_at_call 19; with_reducible refine Calls.mono (CWH.out _ _ hBB yB.out) ?_; rintro e w6 ⟨⟨s6, p6, rfl⟩, hb6⟩; obtain ⟨z0, z1, z2, z3, zf0, zf1, zf2, zf3, zz⟩ := xB.out.step hb6) | (go_at_call 19; with_reducible refine Calls.mono (CWH.out _ _ hCC yC.out) ?_; rintro e w6 ⟨⟨s6, p6, rfl⟩, hb6⟩; obtain ⟨z0, z1, z2, z3, zf0, zf1, zf2, zf3, zz⟩ := xC.out.step hb6))
    all_goals
      go_simp
      go_wp2_with fail
      go_meet
      refine ⟨rfl, ?_⟩
      first | with_reducible exact (hA.trans (hb6.mono hA.size)) | with_reducible exact (hBB.trans (hb6.mono hBB.size)) | with_reducible exact (hCC.trans (hb6.mono hCC.size)) | with_reducible exact ((hA.trans (hb6.mono hA.size)).alloc (Nat.le_trans hA.size hb6.size) _) | with_reducible exact (chain_below (hBB.trans (hb6.mono hBB.size)) hk1 _ _ _ _) | with_reducible exact (chain_below (hCC.trans (hb6.mono hCC.size)) hk0 _ _ _ _)
  case rest =>
    obtain ⟨w6, hwc⟩ : ∃ x, x = wc := ⟨_, rfl⟩
    subst hwc
    obtain ⟨rfl, hb_w6⟩ := hcut
    have S_w6 : Below w5.heap.size w5 w6 := (Below.refl _ w5).trans (hb_w6.mono (by (try simp) <;> omega))
    have ba := Lib.hid (ba.out.trans (S_w6.mono ba.out.size))
    have HB3 := Lib.hid (HB3.out.step S_w6)
    have HD2 := Lib.hid (HD2.out.step S_w6)
    have HD5 := Lib.hid (HD5.out.step S_w6)
    have HB5 := Lib.hid (HB5.out.step S_w6)
    have HBV := Lib.hid (HBV.out.step S_w6)
    have z_w6 := S_w6.size
    clear HB3_0 HB3_1 HB3_2 HB3_3 HB3_f0 HB3_f1 HB3_f2 HB3_f3 HB3_z
    clear hA0 hA20 hA hA2 hBB hCC xB xC yA yB yC SS CWH hk0 hk1
    obtain ⟨HB5_0, HB5_1, HB5_2, HB5_3, HB5_f0, HB5_f1, HB5_f2, HB5_f3, HB5_z⟩ := HB5.out
    go_wp2_with fail
    refine (Stop_any (P := fun _ => True) W1 sv5 pv5 1 _ HD5.out).mono ?_
    rw [f7]
    simp only [dkV]
    rintro e w7 ⟨⟨sv13, pv13, rfl, hd13⟩, hb_w7⟩
    have S_w7 : Below w6.heap.size w6 w7 := (Below.refl _ w6).trans (hb_w7.mono (by (try simp) <;> omega))
    have ba := Lib.hid (ba.out.trans (S_w7.mono ba.out.size))
    have HB3 := Lib.hid (HB3.out.step S_w7)
    have HD2 := Lib.hid (HD2.out.step S_w7)
    have HD5 := Lib.hid (HD5.out.step S_w7)
    have HB5 := Lib.hid (HB5.out.step S_w7)
    have HBV := Lib.hid (HBV.out.step S_w7)
    have z_w7 := S_w7.size
    have hB7 : Below w7.heap.size w7 (w7.alloc (.cells #[.slice sv13.a sv13.n sv13.c, .slice pv13.a pv13.n pv13.c, .int .i64 S1.left, .bool S1.stopped] 25)) := (Below.refl _ _).alloc (Nat.le_refl _) _
    have h13 := ((hd13.nw (P := fun _ => True) (fun _ _ => trivial)).mono2 (Q := fun b => b ≠ w7.heap.size) (fun b _ hl => by omega)).step hB7
    have h5 := (HD5.out.mono2 (Q := fun b => b ≠ w7.heap.size) (fun b _ hl => by omega)).step hB7
    have hx13 := Box4.new w7 (.slice sv13.a sv13.n sv13.c) (.slice pv13.a pv13.n pv13.c) (.int .i64 S1.left) (.bool S1.stopped) 25
    have hS7 := Lib.hid hB7
    have hbw7 := (HBV.out.mono2 (Q := fun b => b ≠ w7.heap.size) (fun b _ hl => by omega)).step hB7
    clear hd13 HBV
    have hz37 : w3.heap.size < w7.heap.size := HB5.out.z
    go_upto_region 8 with fail
    obtain ⟨W7, hW7⟩ : ∃ W, W = w7.alloc (.cells #[.slice sv13.a sv13.n sv13.c, .slice pv13.a pv13.n pv13.c, .int .i64 S1.left, .bool S1.stopped] 25) := ⟨_, rfl⟩
    rw [← hW7] at hB7 h13 h5 hx13 hbw7 ⊢
    have hz7 : W7.heap.size = w7.heap.size + 1 := by rw [hW7]; simp
    clear hW7 HD5 HD2 hS7
    have HB3 := Lib.hid (HB3.out.step hB7)
    have HB5 := Lib.hid (HB5.out.step hB7)
    have HX13 := Lib.hid (hx13)
    have H13 := Lib.hid (h13)
    have H5 := Lib.hid (h5)
    clear hx13 h13 h5
    have HBW := Lib.hid hbw7
    clear hbw7
    have HZ7 := Lib.hid hz7
    clear hz7
    have S_w7a := ba
    have S_all : Hid (Below w.heap.size w W7) := Lib.hid (S_w7a.out.trans (hB7.mono S_w7a.out.size))
    have DBL : Hid (∀ W, Calls Try.prog 27 #[.int .u8 8] W fun e w' => (∃ v : Sl, e = .returned (.slice v.a v.n v.c) ∧ By w' (fun b => W.heap.size ≤ b) v (doubleL 8)) ∧ Below W.heap.size W w') := Lib.hid (fun W => double_any 8 (by decide) W)
    have CW8 : Hid (∀ W v, Below W7.heap.size W7 W → By W (fun b => b ≠ w7.heap.size) v (doubleL 8) → Calls Try.prog 19 #[.agg #[.slice sv13.a sv13.n sv13.c, .slice pv13.a pv13.n pv13.c, .int .i64 S1.left, .bool S1.stopped], .int .i64 0, .slice v.a v.n v.c] W fun e w' => (∃ s8 p8 : Sl, e = .returned (.tuple #[.agg #[.slice s8.a s8.n s8.c, .slice p8.a p8.n p8.c, .int .i64 S2.left, .bool S2.stopped], .int .i64 0]) ∧ Di w' (fun b => b ≠ w7.heap.size) s8 p8 S2) ∧ Below W.heap.size W w') := Lib.hid (fun W v h hy => by
      refine (Write_any (P := fun b => b ≠ w7.heap.size) S1 sv13 pv13 v 0 (doubleL 8) W (H13.out.step h) hy).mono ?_
      rw [f8]
      rintro e w' ⟨⟨s8, p8, rfl, hd⟩, hb⟩
      exact ⟨⟨s8, p8, rfl, hd.nw (fun b hb2 => by have := h.size; have := HZ7.out; omega)⟩, hb⟩)
    clear HB5_0 HB5_1 HB5_2 HB5_3 HB5_f0 HB5_f1 HB5_f2 HB5_f3 HB5_z
    obtain ⟨HX13_0, HX13_1, HX13_2, HX13_3, HX13_f0, HX13_f1, HX13_f2, HX13_f3, HX13_z⟩ := HX13.out
    have HX13_0d : W7.drew.cell? ⟨w7.heap.size, 0, none⟩ = some (.slice sv13.a sv13.n sv13.c) := HX13_0
    go_cut [15] (fun e wx => e = .int .i64 0 ∧ ∃ s8 p8 w8, Below W7.heap.size W7 w8 ∧ Di w8 (fun b => b ≠ w7.heap.size) s8 p8 S2 ∧ wx = put4 w8 w7.heap.size (.slice s8.a s8.n s8.c) (.slice p8.a p8.n p8.c) (.int .i64 S2.left) (.bool S2.stopped))
    case first =>
      go_region_law (first | (go_simp; go_at_call 27; refine Calls.mono (DBL.out _) ?_; rintro e w8 ⟨⟨v8, rfl, hv8⟩, hb8⟩; have hb8d : Below W7.heap.size W7 w8 := Below.of_drew hb8; obtain ⟨y0, y1, y2, y3, yf0, yf1, yf2, yf3, yz⟩ := HX13.out.step hb8d) | (go_simp; go_at_call 19; refine Calls.mono (CW8.out _ _ hb8d (hv8.mono (fun b hb => by have h1 : W7.heap.size ≤ b := hb; have := HZ7.out; omega))) ?_; rintro e w9 ⟨⟨s8, p8, rfl, hd8⟩, hb9⟩; have hb9d := hb8d.trans (hb9.mono hb8d.size); obtain ⟨z0, z1, z2, z3, zf0, zf1, zf2, zf3, zz⟩ := HX13.out.step hb9d))
      all_goals
        go_simp
        go_wp2_with fail
        go_meet
        exact ⟨rfl, s8, p8, w9, hb9d, hd8, rfl⟩
    case rest =>
      obtain ⟨W9, hwc⟩ : ∃ x, x = wc := ⟨_, rfl⟩
      subst hwc
      obtain ⟨rfl, s8, p8, w8, hb8, hd8, hw9⟩ := hcut
      have kp : Kp (fun b => b ≠ w7.heap.size) w8 W9 := by rw [hw9]; exact Kp.of_grown (put4_keep _ _ _ _) (fun h => h rfl)
      have gk : w8.grownBy W9 (some w7.heap.size) := by rw [hw9]; exact put4_keep _ _ _ _
      have hx13 : Box4 W9 w7.heap.size (.slice s8.a s8.n s8.c) (.slice p8.a p8.n p8.c) (.int .i64 S2.left) (.bool S2.stopped) := by rw [hw9]; exact (HX13.out.step hb8).put _ _ _ _
      have h5 := (H5.out.step hb8).keep kp
      have hbw := (HBW.out.step hb8).keep kp
      have hb5 := (HB5.out.step hb8).far gk (by simp only [ne_eq, Option.some.injEq]; omega)
      have h8 := hd8.keep kp
      have S_W9 : Below w.heap.size w W9 := by rw [hw9]; exact put4_below (S_all.out.trans (hb8.mono S_all.out.size)) (by have := S_w7a.out.size; omega) _ _ _ _
      clear HX13_0 HX13_1 HX13_2 HX13_3 HX13_f0 HX13_f1 HX13_f2 HX13_f3 HX13_z HX13_0d
      clear H13 CW8 DBL kp gk hw9 hd8 H5 HBW HB5 HX13 HB3 hb8
      have HX13 := Lib.hid (hx13)
      have H8 := Lib.hid (h8)
      have H5 := Lib.hid (h5)
      have HBW := Lib.hid (hbw)
      have HB5 := Lib.hid (hb5)
      have bw9 := Lib.hid S_W9
      clear hx13 h8 h5 hbw hb5 S_W9
      obtain ⟨HX13_0, HX13_1, HX13_2, HX13_3, HX13_f0, HX13_f1, HX13_f2, HX13_f3, HX13_z⟩ := HX13.out
      go_wp2_with fail
      refine (Sync_any (P := fun b => b ≠ w7.heap.size) S2 s8 p8 _ H8.out).mono ?_
      rw [fX]
      simp only [dkV]
      rw [fStop]
      rintro e w10 ⟨⟨s16, p16, rfl, hd16⟩, hb_w10⟩
      have h79 : w7.heap.size < W9.heap.size := HX13.out.z
      have S_w10 : Below W9.heap.size W9 w10 := (Below.refl _ W9).trans (hb_w10.mono (by (try simp) <;> omega))
      have HX13 := Lib.hid (HX13.out.step S_w10)
      have H8 := Lib.hid (H8.out.step S_w10)
      have H5 := Lib.hid (H5.out.step S_w10)
      have HBW := Lib.hid (HBW.out.step S_w10)
      have HB5 := Lib.hid (HB5.out.step S_w10)
      have bw9 := Lib.hid (bw9.out.trans (S_w10.mono bw9.out.size))
      have z_w10 := S_w10.size
      have S_w10a := bw9
      have hB10 : Below w10.heap.size w10 (w10.alloc (.cells #[.slice s16.a s16.n s16.c, .slice p16.a p16.n p16.c, .int .i64 X.left, .bool true] 25)) := (Below.refl _ _).alloc (Nat.le_refl _) _
      have h16 := ((hd16.nw (P := fun b => b ≠ w7.heap.size) (fun b hb => by omega)).mono2 (Q := (fun b => b ≠ w7.heap.size ∧ b ≠ w10.heap.size)) (fun b hb hl => ⟨hb, by omega⟩)).step hB10
      have h5 := (H5.out.mono2 (Q := (fun b => b ≠ w7.heap.size ∧ b ≠ w10.heap.size)) (fun b hb hl => ⟨hb, by omega⟩)).step hB10
      have hbw := (HBW.out.mono2 (Q := (fun b => b ≠ w7.heap.size ∧ b ≠ w10.heap.size)) (fun b hb hl => ⟨hb, by omega⟩)).step hB10
      have hb5 := HB5.out.step hB10
      have hx16 := Box4.new w10 (.slice s16.a s16.n s16.c) (.slice p16.a p16.n p16.c) (.int .i64 X.left) (.bool true) 25
      have hsw := bw9.out.alloc bw9.out.size (.cells #[.slice s16.a s16.n s16.c, .slice p16.a p16.n p16.c, .int .i64 X.left, .bool true] 25)
      have h710 : w7.heap.size < w10.heap.size := HX13.out.z
      have h310 : w3.heap.size < w10.heap.size := HB5.out.z
      go_upto_region 10 with fail
      obtain ⟨W10, hW10⟩ : ∃ W, W = w10.alloc (.cells #[.slice s16.a s16.n s16.c, .slice p16.a p16.n p16.c, .int .i64 X.left, .bool true] 25) := ⟨_, rfl⟩
      rw [← hW10] at hB10 h16 h5 hbw hb5 hx16 hsw ⊢
      have hzz10 : W10.heap.size = w10.heap.size + 1 := by rw [hW10]; simp
      have HZ10 := Lib.hid hzz10
      clear hW10 hzz10 H8 H5 HBW HB5 HX13 bw9 hd16 HX13_0 HX13_1 HX13_2 HX13_3 HX13_f0 HX13_f1 HX13_f2 HX13_f3 HX13_z
      have H16 := Lib.hid (h16)
      have H5 := Lib.hid (h5)
      have HBW := Lib.hid (hbw)
      have HB5 := Lib.hid (hb5)
      have HX16 := Lib.hid (hx16)
      have bw9 := Lib.hid hsw
      clear h16 h5 hbw hb5 hx16 hsw hB10
      obtain ⟨HX16_0, HX16_1, HX16_2, HX16_3, HX16_f0, HX16_f1, HX16_f2, HX16_f3, HX16_z⟩ := HX16.out
      go_wp2_with fail
      refine (RestartT_any (P := (fun b => b ≠ w7.heap.size ∧ b ≠ w10.heap.size)) X s16 p16 _ fStop H16.out).mono ?_
      rintro e w11 ⟨⟨s17, p17, rfl, hd17⟩, hb_w11⟩
      have S_w11 : Below W10.heap.size W10 w11 := (Below.refl _ W10).trans (hb_w11.mono (by (try simp) <;> omega))
      have H16 := Lib.hid (H16.out.step S_w11)
      have H5 := Lib.hid (H5.out.step S_w11)
      have HBW := Lib.hid (HBW.out.step S_w11)
      have HB5 := Lib.hid (HB5.out.step S_w11)
      have HX16 := Lib.hid (HX16.out.step S_w11)
      have bw9 := Lib.hid (bw9.out.trans (S_w11.mono bw9.out.size))
      have z_w11 := S_w11.size
      have h17 := hd17.nw (P := (fun b => b ≠ w7.heap.size ∧ b ≠ w10.heap.size)) (fun b hb => ⟨by have := HZ10.out; omega, by have := HZ10.out; omega⟩)
      clear HX16_0 HX16_1 HX16_2 HX16_3 HX16_f0 HX16_f1 HX16_f2 HX16_f3 HX16_z
      obtain ⟨HX16_0, HX16_1, HX16_2, HX16_3, HX16_f0, HX16_f1, HX16_f2, HX16_f3, HX16_z⟩ := HX16.out
      go_upto_region 13 with fail
      have kp : Kp (fun b => b ≠ w7.heap.size ∧ b ≠ w10.heap.size) w11 (put4 w11 w10.heap.size (.slice s17.a s17.n s17.c) (.slice p17.a p17.n p17.c) (.int .i64 (-1)) (.bool false)) := Kp.of_grown (put4_keep _ _ _ _) (fun h => h.2 rfl)
      have hx16 := HX16.out.put (.slice s17.a s17.n s17.c) (.slice p17.a p17.n p17.c) (.int .i64 (-1)) (.bool false)
      have h5 := H5.out.keep kp
      have hbw := HBW.out.keep kp
      have h18 := h17.keep kp
      have hb5 := HB5.out.far (put4_keep (W := w11) (b := w10.heap.size) (.slice s17.a s17.n s17.c) (.slice p17.a p17.n p17.c) (.int .i64 (-1)) (.bool false)) (by simp only [ne_eq, Option.some.injEq]; omega)
      have hsw := put4_below (b := w10.heap.size) bw9.out (by have := S_w10a.out.size; omega) (.slice s17.a s17.n s17.c) (.slice p17.a p17.n p17.c) (.int .i64 (-1)) (.bool false)
      unfold put4 at hx16 h5 hbw h18 hb5 hsw
      generalize ((((w11.setCell ⟨w10.heap.size, 0, none⟩ (.slice s17.a s17.n s17.c)).setCell ⟨w10.heap.size, 1, none⟩ (.slice p17.a p17.n p17.c)).setCell ⟨w10.heap.size, 2, none⟩ (.int .i64 (-1))).setCell ⟨w10.heap.size, 3, none⟩ (.bool false)) = W12 at hx16 h5 hbw h18 hb5 hsw ⊢
      clear HX16_0 HX16_1 HX16_2 HX16_3 HX16_f0 HX16_f1 HX16_f2 HX16_f3 HX16_z kp hd17 h17 H16 H5 HBW HB5 HX16 bw9
      have H18 := Lib.hid (h18)
      have H5 := Lib.hid (h5)
      have HBW := Lib.hid (hbw)
      have HB5 := Lib.hid (hb5)
      have HX16 := Lib.hid (hx16)
      have bw9 := Lib.hid hsw
      clear h18 h5 hbw hb5 hx16 hsw
      obtain ⟨HX16_0, HX16_1, HX16_2, HX16_3, HX16_f0, HX16_f1, HX16_f2, HX16_f3, HX16_z⟩ := HX16.out
      go_wp2_with fail
      refine (Read_any (P := (fun b => b ≠ w7.heap.size ∧ b ≠ w10.heap.size)) (restartD X) s17 p17 1 _ H18.out).mono ?_
      rw [f10]
      rintro e w13 ⟨⟨vone, rfl, hvone⟩, hb_w13⟩
      have S_w13 : Below W12.heap.size W12 w13 := (Below.refl _ W12).trans (hb_w13.mono (by (try simp) <;> omega))
      have H18 := Lib.hid (H18.out.step S_w13)
      have H5 := Lib.hid (H5.out.step S_w13)
      have HBW := Lib.hid (HBW.out.step S_w13)
      have HB5 := Lib.hid (HB5.out.step S_w13)
      have HX16 := Lib.hid (HX16.out.step S_w13)
      have bw9 := Lib.hid (bw9.out.trans (S_w13.mono bw9.out.size))
      have z_w13 := S_w13.size
      have HVvone := Lib.hid (hvone)
      clear hvone
      clear HX16_0 HX16_1 HX16_2 HX16_3 HX16_f0 HX16_f1 HX16_f2 HX16_f3 HX16_z
      obtain ⟨HX16_0, HX16_1, HX16_2, HX16_3, HX16_f0, HX16_f1, HX16_f2, HX16_f3, HX16_z⟩ := HX16.out
      go_wp2_with fail
      refine (Read_any (P := (fun b => b ≠ w7.heap.size ∧ b ≠ w10.heap.size)) (restartD X) s17 p17 0 _ H18.out).mono ?_
      rw [f11]
      rintro e w14 ⟨⟨vnone, rfl, hvnone⟩, hb_w14⟩
      have S_w14 : Below w13.heap.size w13 w14 := (Below.refl _ w13).trans (hb_w14.mono (by (try simp) <;> omega))
      have H18 := Lib.hid (H18.out.step S_w14)
      have H5 := Lib.hid (H5.out.step S_w14)
      have HBW := Lib.hid (HBW.out.step S_w14)
      have HB5 := Lib.hid (HB5.out.step S_w14)
      have HX16 := Lib.hid (HX16.out.step S_w14)
      have bw9 := Lib.hid (bw9.out.trans (S_w14.mono bw9.out.size))
      have HVvone := Lib.hid (HVvone.out.step S_w14)
      have z_w14 := S_w14.size
      have HVvnone := Lib.hid (hvnone)
      clear hvnone
      clear HX16_0 HX16_1 HX16_2 HX16_3 HX16_f0 HX16_f1 HX16_f2 HX16_f3 HX16_z
      obtain ⟨HB5_0, HB5_1, HB5_2, HB5_3, HB5_f0, HB5_f1, HB5_f2, HB5_f3, HB5_z⟩ := HB5.out
      go_wp2_with fail
      refine (Restart_any (P := (fun b => b ≠ w7.heap.size ∧ b ≠ w10.heap.size)) W1 sv5 pv5 _ H5.out).mono ?_
      simp only [dkV]
      rintro e w15 ⟨⟨s19, p19, rfl, hd19⟩, hb_w15⟩
      have h1415 : w10.heap.size < w14.heap.size := HX16.out.z
      have S_w15 : Below w14.heap.size w14 w15 := (Below.refl _ w14).trans (hb_w15.mono (by (try simp) <;> omega))
      have H18 := Lib.hid (H18.out.step S_w15)
      have H5 := Lib.hid (H5.out.step S_w15)
      have HBW := Lib.hid (HBW.out.step S_w15)
      have HB5 := Lib.hid (HB5.out.step S_w15)
      have HX16 := Lib.hid (HX16.out.step S_w15)
      have bw9 := Lib.hid (bw9.out.trans (S_w15.mono bw9.out.size))
      have HVvone := Lib.hid (HVvone.out.step S_w15)
      have HVvnone := Lib.hid (HVvnone.out.step S_w15)
      have z_w15 := S_w15.size
      have H19 := Lib.hid (hd19.nw (P := (fun b => b ≠ w7.heap.size ∧ b ≠ w10.heap.size)) (fun b hb => ⟨by omega, by omega⟩))
      clear hd19
      clear HB5_0 HB5_1 HB5_2 HB5_3 HB5_f0 HB5_f1 HB5_f2 HB5_f3 HB5_z
      go_wp2_with fail
      refine (Read_any (P := (fun b => b ≠ w7.heap.size ∧ b ≠ w10.heap.size)) (restartD W1) s19 p19 1 _ H19.out).mono ?_
      rw [f12]
      rintro e w16 ⟨⟨vlost, rfl, hvlost⟩, hb_w16⟩
      have S_w16 : Below w15.heap.size w15 w16 := (Below.refl _ w15).trans (hb_w16.mono (by (try simp) <;> omega))
      have H18 := Lib.hid (H18.out.step S_w16)
      have H5 := Lib.hid (H5.out.step S_w16)
      have HBW := Lib.hid (HBW.out.step S_w16)
      have HB5 := Lib.hid (HB5.out.step S_w16)
      have HX16 := Lib.hid (HX16.out.step S_w16)
      have bw9 := Lib.hid (bw9.out.trans (S_w16.mono bw9.out.size))
      have HVvone := Lib.hid (HVvone.out.step S_w16)
      have HVvnone := Lib.hid (HVvnone.out.step S_w16)
      have H19 := Lib.hid (H19.out.step S_w16)
      have z_w16 := S_w16.size
      have HVvlost := Lib.hid (hvlost)
      clear hvlost
      obtain ⟨b_bv, o_bv, c_bv, rfl, z_bv, g_bv⟩ := HBW.out.get l1
      have k_bv_0 := g_bv 0 _ x1
      clear g_bv
      obtain ⟨b_vone, o_vone, c_vone, rfl, z_vone, g_vone⟩ := HVvone.out.get l2
      have k_vone_0 := g_vone 0 _ x2
      clear g_vone
      obtain ⟨b_vnone, o_vnone, c_vnone, rfl, z_vnone, g_vnone⟩ := HVvnone.out.get l3
      have k_vnone_0 := g_vnone 0 _ x3
      have k_vnone_64 := g_vnone 64 _ x4
      clear g_vnone
      obtain ⟨b_vlost, o_vlost, c_vlost, rfl, z_vlost, g_vlost⟩ := HVvlost.out.get l4
      have k_vlost_0 := g_vlost 0 _ x5
      clear g_vlost
      simp only [Nat.add_zero] at k_bv_0 k_vone_0 k_vnone_0 k_vlost_0
      go_wp2_with fail
      refine (Check_any (P := fun _ => True) Dk.zero ⟨none, 0, 0⟩ ⟨none, 0, 0⟩ _ (Di.zero _ _)).mono ?_
      rw [chk0]
      rintro e w17 ⟨rfl, hb_w17⟩
      have S_w17 : Below w16.heap.size w16 w17 := (Below.refl _ w16).trans (hb_w17.mono (by (try simp) <;> omega))
      have H18 := Lib.hid (H18.out.step S_w17)
      have H5 := Lib.hid (H5.out.step S_w17)
      have HBW := Lib.hid (HBW.out.step S_w17)
      have HB5 := Lib.hid (HB5.out.step S_w17)
      have HX16 := Lib.hid (HX16.out.step S_w17)
      have bw9 := Lib.hid (bw9.out.trans (S_w17.mono bw9.out.size))
      have HVvone := Lib.hid (HVvone.out.step S_w17)
      have HVvnone := Lib.hid (HVvnone.out.step S_w17)
      have H19 := Lib.hid (H19.out.step S_w17)
      have HVvlost := Lib.hid (HVvlost.out.step S_w17)
      have z_w17 := S_w17.size
      clear k_bv_0 k_vone_0 k_vnone_0 k_vlost_0 k_vnone_64 z_bv z_vone z_vnone z_vlost
      go_wp2_with fail
      refine (Restart_any (P := fun _ => True) Dk.zero ⟨none, 0, 0⟩ ⟨none, 0, 0⟩ _ (Di.zero _ _)).mono ?_
      simp only [dkV, restartD]
      rintro e w18 ⟨⟨s20, p20, rfl, _⟩, hb_w18⟩
      have S_w18 : Below w17.heap.size w17 w18 := (Below.refl _ w17).trans (hb_w18.mono (by (try simp) <;> omega))
      have H18 := Lib.hid (H18.out.step S_w18)
      have H5 := Lib.hid (H5.out.step S_w18)
      have HBW := Lib.hid (HBW.out.step S_w18)
      have HB5 := Lib.hid (HB5.out.step S_w18)
      have HX16 := Lib.hid (HX16.out.step S_w18)
      have bw9 := Lib.hid (bw9.out.trans (S_w18.mono bw9.out.size))
      have HVvone := Lib.hid (HVvone.out.step S_w18)
      have HVvnone := Lib.hid (HVvnone.out.step S_w18)
      have H19 := Lib.hid (H19.out.step S_w18)
      have HVvlost := Lib.hid (HVvlost.out.step S_w18)
      have z_w18 := S_w18.size
      have hfd : ∀ W, (Instr.field 25 (.agg #[.slice s20.a s20.n s20.c, .slice p20.a p20.n p20.c, .int .i64 (-1), .bool false]) 2).run Try.prog W = .ok (.int .i64 (-1)) W := fun _ => by kernel_rfl
      go_wp2_with fail
      go_ret
      exact ⟨rfl, bw9.out⟩
end Go.Proofs.Ytebbmplbpgilaaa
