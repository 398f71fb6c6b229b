/- What was written last is read -/
import Derived.Test.YtebbmplbpgilaaaDskQ
import Derived.Test.YtebbmplbpgilaaaDskR
import Derived.BigQuiet
import Derived.BigQuiet
namespace Go.Proofs.Ytebbmplbpgilaaa
open Go.RowKit Go.Shelf
set_option linter.unusedSimpArgs false
set_option linter.unusedVariables false

theorem By.take {w : World} {P : Nat → Prop} {A : Option Addr} {n c k : Nat} {bs : List Int} (h : By w P ⟨A, n, c⟩ bs) (hk : k ≤ bs.length) : By w P ⟨A, k, c⟩ (bs.take k) := by
  have h1 : n = bs.length := h.1.1
  have h2 : n ≤ c := h.1.2.1
  refine ⟨⟨by simp; omega, (show k ≤ c by omega), h.1.2.2.1, h.1.2.2.2.1, h.1.2.2.2.2.1.take, fun hp a e => h.1.2.2.2.2.2 (by simp at hp; omega) a e⟩, fun b hb => h.2 b (List.mem_of_mem_take hb)⟩

theorem wpStill_skip {P : Program} {ops : Array Oper} {w : World} {Q : Act → Prop} {a : Act} {o : Oper} {rest : List Oper} (hw : Region.wanted o (yielded ops a.tmps) = false) (h : wpStill P ops w Q rest (a.put o.dst undef)) : wpStill P ops w Q (o :: rest) a :=
  wpStill_step (fun K hK => by rw [if_neg (by rw [hw]; decide)]; exact hK _ h)
set_option maxRecDepth 100000 in
set_option maxHeartbeats 8000000 in
theorem Reads_walk (sv pv : Sl) (d : Dk) (x y : Int) (bv cv : Sl) (bs cs : List Int) (w : World) (hd : Di w everyB sv pv d) (hbv : By w everyB bv bs) (hcv : By w everyB cv cs) :
    Calls Try.prog 7 #[dkV sv pv d, .int .i64 x, .int .i64 y, .slice bv.a bv.n bv.c, .slice cv.a cv.n cv.c] w fun e w' => e = .returned (.bool true) ∧ Below w.heap.size w w' := by
  have hbn := hbv.1.1
  have hcn := hcv.1.1
  have hsn := hd.1.len
  have hsl : d.secs.length ≤ 9223372036854775807 := by
    obtain ⟨us, hu, he, _⟩ := hd.1
    have := hu.le; omega
  have HBY0 := Lib.hid hbv
  have HCY0 := Lib.hid hcv
  have rw1 := read_ways d y
  have ww1 := write_ways d x bs
  obtain ⟨R0, E0, hRE⟩ : ∃ R E, readD d y = (R, E) := ⟨_, _, rfl⟩
  obtain ⟨D1, E1, hDE⟩ : ∃ D E, writeD d x bs = (D, E) := ⟨_, _, rfl⟩
  have hRd := Lib.hid (fun W (h : Below w.heap.size w W) => Read_any (P := everyB) d sv pv y W (hd.step h))
  have hWr := Lib.hid (fun W (h : Below w.heap.size w W) => Write_any (P := everyB) d sv pv bv x bs W (hd.step h) (hbv.step h))
  rw [hRE] at hRd rw1
  rw [hDE] at hWr ww1
  obtain ⟨Ab, nb, cb⟩ := bv
  obtain ⟨Ac, nc, cc⟩ := cv
  obtain ⟨As, ns, cs2⟩ := sv
  simp only at hbn hcn hsn
  subst hbn hcn hsn
  simp only [dkV] at hRd hWr ⊢
  simp only at rw1 ww1
  have HRE := Lib.hid hRE
  have HDE := Lib.hid hDE
  clear hbv hcv hRE hDE
  go_enter Try.func7, Try.ntmps7
  go_wp2_with fail
  obtain ⟨W0, hW0⟩ : ∃ W, W = w.alloc (.cells #[.slice As d.secs.length cs2, .slice pv.a pv.n pv.c, .int .i64 d.left, .bool d.stopped] 25) := ⟨_, rfl⟩
  rw [← hW0]
  have b0 : Below w.heap.size w W0 := by rw [hW0]; exact (Below.refl _ _).alloc (Nat.le_refl _) _
  have x0 : Box4 W0 w.heap.size (.slice As d.secs.length cs2) (.slice pv.a pv.n pv.c) (.int .i64 d.left) (.bool d.stopped) := by rw [hW0]; exact Box4.new ..
  have HD := Lib.hid (hd.step b0)
  have HX := Lib.hid (x0)
  have HBY := Lib.hid (HBY0.out.step b0)
  have HCY := Lib.hid (HCY0.out.step b0)
  have ba := Lib.hid b0
  clear hW0 b0 x0 hd
  refine (sane_any _).mono ?_
  rintro e w1 ⟨rfl, hb_w1⟩
  have S_w1 : Below W0.heap.size W0 w1 := (Below.refl _ W0).trans (hb_w1.mono (by (try simp) <;> omega))
  have HD := Lib.hid (HD.out.step S_w1)
  have HX := Lib.hid (HX.out.step S_w1)
  have HBY := Lib.hid (HBY.out.step S_w1)
  have HCY := Lib.hid (HCY.out.step S_w1)
  have ba := Lib.hid (ba.out.trans (S_w1.mono ba.out.size))
  have z_w1 := S_w1.size
  obtain ⟨HX_0, HX_1, HX_2, HX_3, HX_f0, HX_f1, HX_f2, HX_f3, HX_z⟩ := HX.out
  go_wp2_with fail
  refine (Few_any d (⟨As, d.secs.length, cs2⟩ : Sl) pv _ HD.out).mono ?_
  rintro e w2 ⟨⟨bf, rfl⟩, hb_w2⟩
  have S_w2 : Below w1.heap.size w1 w2 := (Below.refl _ w1).trans (hb_w2.mono (by (try simp) <;> omega))
  have HD := Lib.hid (HD.out.step S_w2)
  have HX := Lib.hid (HX.out.step S_w2)
  have HBY := Lib.hid (HBY.out.step S_w2)
  have HCY := Lib.hid (HCY.out.step S_w2)
  have ba := Lib.hid (ba.out.trans (S_w2.mono ba.out.size))
  have z_w2 := S_w2.size
  cases bf
  · go_wp2_with fail
    go_ret
    exact ⟨rfl, ba.out⟩
  have hways : decide ((128 : Int) < (bs.length : Int)) = true ∨ (decide ((128 : Int) < (bs.length : Int)) = false ∧ decide ((128 : Int) < (cs.length : Int)) = true) ∨ (decide ((128 : Int) < (bs.length : Int)) = false ∧ decide ((128 : Int) < (cs.length : Int)) = false ∧ bs.length ≤ 128 ∧ cs.length ≤ 128) := by simp; omega
  rcases hways with e1 | ⟨e1, e2⟩ | ⟨e1, e2, lb, lc⟩
  · go_wp2_with fail
    go_ret
    exact ⟨rfl, ba.out⟩
  · go_wp2_with fail
    go_ret
    exact ⟨rfl, ba.out⟩
  · have LB := Lib.hid lb
    have LC := Lib.hid lc
    clear lb lc
    clear HX_0 HX_1 HX_2 HX_3 HX_f0 HX_f1 HX_f2 HX_f3 HX_z
    obtain ⟨HX_0, HX_1, HX_2, HX_3, HX_f0, HX_f1, HX_f2, HX_f3, HX_z⟩ := HX.out
    go_wp2_with fail
    refine (hRd.out _ ba.out).mono ?_
    rintro e w3 ⟨⟨u0, rfl, hu0⟩, hb_w3⟩
    have S_w3 : Below w2.heap.size w2 w3 := (Below.refl _ w2).trans (hb_w3.mono (by (try simp) <;> omega))
    have HD := Lib.hid (HD.out.step S_w3)
    have HX := Lib.hid (HX.out.step S_w3)
    have HBY := Lib.hid (HBY.out.step S_w3)
    have HCY := Lib.hid (HCY.out.step S_w3)
    have ba := Lib.hid (ba.out.trans (S_w3.mono ba.out.size))
    have z_w3 := S_w3.size
    have HU0 := Lib.hid (hu0)
    clear hu0
    clear HX_0 HX_1 HX_2 HX_3 HX_f0 HX_f1 HX_f2 HX_f3 HX_z
    obtain ⟨HX_0, HX_1, HX_2, HX_3, HX_f0, HX_f1, HX_f2, HX_f3, HX_z⟩ := HX.out
    go_wp2_with fail
    refine (hWr.out _ ba.out).mono ?_
    rintro e w4 ⟨⟨s1, p1, rfl, hd1⟩, hb_w4⟩
    have S_w4 : Below w3.heap.size w3 w4 := (Below.refl _ w3).trans (hb_w4.mono (by (try simp) <;> omega))
    have HD := Lib.hid (HD.out.step S_w4)
    have HX := Lib.hid (HX.out.step S_w4)
    have HBY := Lib.hid (HBY.out.step S_w4)
    have HCY := Lib.hid (HCY.out.step S_w4)
    have ba := Lib.hid (ba.out.trans (S_w4.mono ba.out.size))
    have HU0 := Lib.hid (HU0.out.step S_w4)
    have z_w4 := S_w4.size
    have HD1 := Lib.hid (hd1.t)
    clear hd1
    have hx1 := Box4.new w4 (.slice s1.a s1.n s1.c) (.slice p1.a p1.n p1.c) (.int .i64 D1.left) (.bool D1.stopped) 25
    have hb5 : Below w4.heap.size w4 (w4.alloc (.cells #[.slice s1.a s1.n s1.c, .slice p1.a p1.n p1.c, .int .i64 D1.left, .bool D1.stopped] 25)) := (Below.refl _ _).alloc (Nat.le_refl _) _
    go_upto_region 7 with fail
    obtain ⟨W5, hW5⟩ : ∃ W, W = w4.alloc (.cells #[.slice s1.a s1.n s1.c, .slice p1.a p1.n p1.c, .int .i64 D1.left, .bool D1.stopped] 25) := ⟨_, rfl⟩
    rw [← hW5] at hx1 hb5 ⊢
    clear hW5
    clear HX_0 HX_1 HX_2 HX_3 HX_f0 HX_f1 HX_f2 HX_f3 HX_z
    have S_W5 : Below w4.heap.size w4 W5 := (Below.refl _ w4).trans (hb5.mono (by (try simp) <;> omega))
    have HD := Lib.hid (HD.out.step S_W5)
    have HX := Lib.hid (HX.out.step S_W5)
    have HBY := Lib.hid (HBY.out.step S_W5)
    have HCY := Lib.hid (HCY.out.step S_W5)
    have ba := Lib.hid (ba.out.trans (S_W5.mono ba.out.size))
    have HU0 := Lib.hid (HU0.out.step S_W5)
    have HD1 := Lib.hid (HD1.out.step S_W5)
    have z_W5 := S_W5.size
    have HX1 := Lib.hid (hx1)
    clear hx1
    rcases rw1 with ⟨rfl, hr, hy⟩ | rfl
    rotate_left
    · go_wp2_with fail
      go_ret
      exact ⟨rfl, ba.out⟩
    rcases ww1 with ⟨rfl, _, hx, _, hnf, rfl⟩ | rfl | ⟨rfl, _⟩ | ⟨rfl, _⟩
    rotate_left
    · go_wp2_with fail
      go_ret
      exact ⟨rfl, ba.out⟩
    · go_wp2_with fail
      go_ret
      exact ⟨rfl, ba.out⟩
    · go_wp2_with fail
      go_ret
      exact ⟨rfl, ba.out⟩
    obtain ⟨D1, hD1⟩ : ∃ D, D = (⟨d.secs, d.pend ++ [(x, padS bs)], d.left, d.stopped⟩ : Dk) := ⟨_, rfl⟩
    rw [← hD1] at HD1 HX1
    have f1 : runsD D1 = true := by rw [hD1]; exact runs_snoc hr hx LB.out hnf
    have f2 : D1.secs = d.secs := by rw [hD1]
    have f3 : hasD D1 x = true := by simpa [hasD, f2] using hx
    have f4 : hasD D1 y = true := by simpa [hasD, f2] using hy
    have f5 : ∀ k, sectorD D1 k = if x = k then padS bs else sectorD d k := fun k => by rw [hD1]; exact sector_snoc k
    have f6 : R0 = sectorD d y := by have := HRE.out; rw [readD_yes hr hy] at this; simpa using (congrArg Prod.fst this).symm
    have r1 := readD_yes f1 f4
    have r2 := readD_yes f1 f3
    have s2 : sectorD D1 x = padS bs := by rw [f5, if_pos rfl]
    rw [s2] at r2
    obtain ⟨R1, hR1⟩ : ∃ R, R = sectorD D1 y := ⟨_, rfl⟩
    rw [← hR1] at r1
    have HR := Lib.hid hr
    have HHX := Lib.hid hx
    have HHY := Lib.hid hy
    have HF1 := Lib.hid f1
    have HF2 := Lib.hid f2
    have HF4 := Lib.hid f4
    have HF5 := Lib.hid f5
    have HF6 := Lib.hid f6
    have HR1 := Lib.hid hR1
    have HD1E := Lib.hid hD1
    clear hr hx hy hnf f1 f2 f3 f4 f5 f6 hR1 hD1 s2
    obtain ⟨HX1_0, HX1_1, HX1_2, HX1_3, HX1_f0, HX1_f1, HX1_f2, HX1_f3, HX1_z⟩ := HX1.out
    go_wp2_with fail
    refine (Read_any D1 s1 p1 y _ HD1.out).mono ?_
    rw [r1]
    rintro e w6 ⟨⟨u1, rfl, hu1⟩, hb_w6⟩
    have S_w6 : Below W5.heap.size W5 w6 := (Below.refl _ W5).trans (hb_w6.mono (by (try simp) <;> omega))
    have HD := Lib.hid (HD.out.step S_w6)
    have HX := Lib.hid (HX.out.step S_w6)
    have HBY := Lib.hid (HBY.out.step S_w6)
    have HCY := Lib.hid (HCY.out.step S_w6)
    have ba := Lib.hid (ba.out.trans (S_w6.mono ba.out.size))
    have HU0 := Lib.hid (HU0.out.step S_w6)
    have HD1 := Lib.hid (HD1.out.step S_w6)
    have HX1 := Lib.hid (HX1.out.step S_w6)
    have z_w6 := S_w6.size
    have HU1 := Lib.hid (hu1)
    clear hu1 r1
    clear HX1_0 HX1_1 HX1_2 HX1_3 HX1_f0 HX1_f1 HX1_f2 HX1_f3 HX1_z
    obtain ⟨HX1_0, HX1_1, HX1_2, HX1_3, HX1_f0, HX1_f1, HX1_f2, HX1_f3, HX1_z⟩ := HX1.out
    go_wp2_with fail
    refine (Read_any D1 s1 p1 x _ HD1.out).mono ?_
    rw [r2]
    rintro e w7 ⟨⟨u2, rfl, hu2⟩, hb_w7⟩
    have S_w7 : Below w6.heap.size w6 w7 := (Below.refl _ w6).trans (hb_w7.mono (by (try simp) <;> omega))
    have HD := Lib.hid (HD.out.step S_w7)
    have HX := Lib.hid (HX.out.step S_w7)
    have HBY := Lib.hid (HBY.out.step S_w7)
    have HCY := Lib.hid (HCY.out.step S_w7)
    have ba := Lib.hid (ba.out.trans (S_w7.mono ba.out.size))
    have HU0 := Lib.hid (HU0.out.step S_w7)
    have HD1 := Lib.hid (HD1.out.step S_w7)
    have HX1 := Lib.hid (HX1.out.step S_w7)
    have HU1 := Lib.hid (HU1.out.step S_w7)
    have z_w7 := S_w7.size
    have HU2 := Lib.hid (hu2)
    clear hu2 r2
    have hn2 : u2.n = 128 := by rw [HU2.out.1.1]; exact pad_len LB.out
    obtain ⟨A2, n2, c2⟩ := u2
    simp only at hn2
    subst hn2
    have hk0 := HU2.out.take (k := bs.length) (by rw [pad_len LB.out]; exact LB.out)
    have htk : (padS bs).take bs.length = bs := by simp [padS]
    rw [htk] at hk0
    have KA0 : ∀ W, Below w7.heap.size w7 W → (convert 35 9 (.slice A2 bs.length c2)).run Try.prog W = .ok (.string (strOfNums bs)) W := fun W h => conv_by (hk0.step h)
    have KB0 : ∀ W, Below w7.heap.size w7 W → (convert 35 9 (.slice Ab bs.length cb)).run Try.prog W = .ok (.string (strOfNums bs)) W := fun W h => conv_by (HBY.out.step h)
    have k1 := conv_by hk0.drew
    have k2 := conv_by HBY.out.drew
    have k3 := conv_by HU0.out.drew
    have k4 := conv_by HU1.out.drew
    have hcc : 128 ≤ c2 := HU2.out.1.2.1
    obtain ⟨iu, hiu, _⟩ := infoByte_parts
    have lb0 := LB.out
    have hsl1 := fun W => run_slice_to (P := Try.prog) Try.underlying35 hiu A2 128 c2 .i64 (bs.length : Int) (by omega) (by omega) W
    simp only [Int.toNat_natCast] at hsl1
    clear hk0 htk hiu hcc lb0
    have hbl0 : (0 : Int) ≤ (bs.length : Int) := by omega
    clear HX1_0 HX1_1 HX1_2 HX1_3 HX1_f0 HX1_f1 HX1_f2 HX1_f3 HX1_z
    go_upto_region 11 with fail
    go_cut [11, 106] (fun v t wx => v = .slice u0.a u0.n u0.c ∧ t = .bool false ∧ Below w7.heap.size w7 wx)
    case first =>
      by_cases exy : x = y
      · have c1 : (x == y) = true := by simpa using exy
        have cxy : (x != y) = false := by simpa using exy
        clear exy
        generalize strOfNums bs = sb at k1 k2 KA0 KB0
        generalize strOfNums R0 = s0 at k3 
        have KA : Hid (∀ W, Below w7.heap.size w7 W → (convert 35 9 (.slice A2 bs.length c2)).run Try.prog W = .ok (.string sb) W) := Lib.hid KA0
        have KB : Hid (∀ W, Below w7.heap.size w7 W → (convert 35 9 (.slice Ab bs.length cb)).run Try.prog W = .ok (.string sb) W) := Lib.hid KB0
        clear KA0 KB0 k1 k2 k3 k4
        refine wp_region_below (by kernel_rfl) (by kernel_rfl) ?_
        repeat (first
          | go_big_quiet_skip
          | (go_big_quiet_want
             first
               | (apply quiet_val
                  focus (
                    intro WC hWC
                    have kk1 := KA.out WC hWC
                    have kk2 := KB.out WC hWC
                    go_simp
                    all_goals rfl
                    done)
                  go_simp
                  go_big_quiet_on)))
        refine wpQuiet_nil ?_
        intro W9 hW9
        go_wp2_with fail
        go_meet
        exact ⟨rfl, rfl, hW9⟩
      · have c1 : (x == y) = false := by simpa using exy
        have cxy : (x != y) = true := by simpa using exy
        have HEQ : Hid (R0 = R1) := Lib.hid (by rw [HF6.out, HR1.out, HF5.out, if_neg exy])
        have k5 := HEQ.out
        subst k5
        generalize strOfNums bs = sb at k1 k2 KA0 KB0
        generalize strOfNums R0 = s0 at k3 k4
        clear KA0 KB0
        refine wp_region_tail 32 (by kernel_rfl) (by kernel_rfl) ?_
        simp only [List.take_succ_cons, List.take_zero, List.drop_succ_cons, List.drop_zero]
        repeat still_step
        refine wpStill_nil ?_
        go_wp2_with fail
        go_meet
        exact ⟨rfl, rfl, (Below.refl _ _).drew⟩
    case rest =>
      obtain ⟨w8, hwc⟩ : ∃ X, X = wc := ⟨_, rfl⟩
      subst hwc
      obtain ⟨rfl, rfl, hb_w8⟩ := hcut
      clear k1 k2 k3 k4 hsl1 KA0 KB0
      have S_w8 : Below w7.heap.size w7 w8 := (Below.refl _ w7).trans (hb_w8.mono (by (try simp) <;> omega))
      have HD := Lib.hid (HD.out.step S_w8)
      have HX := Lib.hid (HX.out.step S_w8)
      have HBY := Lib.hid (HBY.out.step S_w8)
      have HCY := Lib.hid (HCY.out.step S_w8)
      have ba := Lib.hid (ba.out.trans (S_w8.mono ba.out.size))
      have HU0 := Lib.hid (HU0.out.step S_w8)
      have HD1 := Lib.hid (HD1.out.step S_w8)
      have HX1 := Lib.hid (HX1.out.step S_w8)
      have HU1 := Lib.hid (HU1.out.step S_w8)
      have HU2 := Lib.hid (HU2.out.step S_w8)
      have z_w8 := S_w8.size
      obtain ⟨HX1_0, HX1_1, HX1_2, HX1_3, HX1_f0, HX1_f1, HX1_f2, HX1_f3, HX1_z⟩ := HX1.out
      go_wp2_with fail
      have ww2 := write_ways D1 y cs
      obtain ⟨D2, E2, hD2⟩ : ∃ D E, writeD D1 y cs = (D, E) := ⟨_, _, rfl⟩
      rw [hD2] at ww2
      refine (Write_any D1 s1 p1 ⟨Ac, cs.length, cc⟩ y cs _ HD1.out HCY.out).mono ?_
      rw [hD2]
      simp only [dkV]
      try simp only at ww2
      clear hD2
      rintro e w9 ⟨⟨s2, p2, rfl, hd2⟩, hb_w9⟩
      have S_w9 : Below w8.heap.size w8 w9 := (Below.refl _ w8).trans (hb_w9.mono (by (try simp) <;> omega))
      have HD := Lib.hid (HD.out.step S_w9)
      have HX := Lib.hid (HX.out.step S_w9)
      have HBY := Lib.hid (HBY.out.step S_w9)
      have HCY := Lib.hid (HCY.out.step S_w9)
      have ba := Lib.hid (ba.out.trans (S_w9.mono ba.out.size))
      have HU0 := Lib.hid (HU0.out.step S_w9)
      have HD1 := Lib.hid (HD1.out.step S_w9)
      have HX1 := Lib.hid (HX1.out.step S_w9)
      have HU1 := Lib.hid (HU1.out.step S_w9)
      have HU2 := Lib.hid (HU2.out.step S_w9)
      have z_w9 := S_w9.size
      have HD2 := Lib.hid (hd2.t)
      clear hd2
      have hx2 := Box4.new w9 (.slice s2.a s2.n s2.c) (.slice p2.a p2.n p2.c) (.int .i64 D2.left) (.bool D2.stopped) 25
      have hb10 : Below w9.heap.size w9 (w9.alloc (.cells #[.slice s2.a s2.n s2.c, .slice p2.a p2.n p2.c, .int .i64 D2.left, .bool D2.stopped] 25)) := (Below.refl _ _).alloc (Nat.le_refl _) _
      go_upto_region 14 with fail
      obtain ⟨W10, hW10⟩ : ∃ W, W = w9.alloc (.cells #[.slice s2.a s2.n s2.c, .slice p2.a p2.n p2.c, .int .i64 D2.left, .bool D2.stopped] 25) := ⟨_, rfl⟩
      rw [← hW10] at hx2 hb10 ⊢
      clear hW10
      clear HX1_0 HX1_1 HX1_2 HX1_3 HX1_f0 HX1_f1 HX1_f2 HX1_f3 HX1_z
      have S_W10 : Below w9.heap.size w9 W10 := (Below.refl _ w9).trans (hb10.mono (by (try simp) <;> omega))
      have HD := Lib.hid (HD.out.step S_W10)
      have HX := Lib.hid (HX.out.step S_W10)
      have HBY := Lib.hid (HBY.out.step S_W10)
      have HCY := Lib.hid (HCY.out.step S_W10)
      have ba := Lib.hid (ba.out.trans (S_W10.mono ba.out.size))
      have HU0 := Lib.hid (HU0.out.step S_W10)
      have HD1 := Lib.hid (HD1.out.step S_W10)
      have HX1 := Lib.hid (HX1.out.step S_W10)
      have HU1 := Lib.hid (HU1.out.step S_W10)
      have HU2 := Lib.hid (HU2.out.step S_W10)
      have HD2 := Lib.hid (HD2.out.step S_W10)
      have z_W10 := S_W10.size
      have HX2 := Lib.hid (hx2)
      clear hx2
      rcases ww2 with ⟨rfl, hr1, hy1, _, hnf1, hDD⟩ | rfl | ⟨rfl, hl⟩ | ⟨rfl, hl⟩
      rotate_left
      · go_wp2_with fail
        go_ret
        exact ⟨rfl, ba.out⟩
      · exact absurd LC.out hl
      · exfalso; rcases hl with h | h
        · rw [HF1.out] at h; cases h
        · rw [HF4.out] at h; cases h
      have g1 : runsD D2 = true := by rw [hDD]; exact runs_snoc hr1 hy1 LC.out hnf1
      have g2 : D2.secs = d.secs := by rw [hDD]; exact HF2.out
      have sw := sync_ways D2 g1
      obtain ⟨D3, E3, hD3⟩ : ∃ D E, syncD D2 = (D, E) := ⟨_, _, rfl⟩
      rw [hD3] at sw
      have HG1 := Lib.hid g1
      have HG2 := Lib.hid g2
      clear g1 g2 hDD hr1 hy1 hnf1
      obtain ⟨HX2_0, HX2_1, HX2_2, HX2_3, HX2_f0, HX2_f1, HX2_f2, HX2_f3, HX2_z⟩ := HX2.out
      go_wp2_with fail
      refine (Sync_any D2 s2 p2 _ HD2.out).mono ?_
      rw [hD3]
      simp only [dkV]
      try simp only at sw
      clear hD3
      rintro e w11 ⟨⟨s3, p3, rfl, hd3⟩, hb_w11⟩
      have S_w11 : Below W10.heap.size W10 w11 := (Below.refl _ W10).trans (hb_w11.mono (by (try simp) <;> omega))
      have HD := Lib.hid (HD.out.step S_w11)
      have HX := Lib.hid (HX.out.step S_w11)
      have HBY := Lib.hid (HBY.out.step S_w11)
      have HCY := Lib.hid (HCY.out.step S_w11)
      have ba := Lib.hid (ba.out.trans (S_w11.mono ba.out.size))
      have HU0 := Lib.hid (HU0.out.step S_w11)
      have HD1 := Lib.hid (HD1.out.step S_w11)
      have HX1 := Lib.hid (HX1.out.step S_w11)
      have HU1 := Lib.hid (HU1.out.step S_w11)
      have HU2 := Lib.hid (HU2.out.step S_w11)
      have HD2 := Lib.hid (HD2.out.step S_w11)
      have HX2 := Lib.hid (HX2.out.step S_w11)
      have z_w11 := S_w11.size
      have HD3 := Lib.hid (hd3.t)
      clear hd3
      have hx3 := Box4.new w11 (.slice s3.a s3.n s3.c) (.slice p3.a p3.n p3.c) (.int .i64 D3.left) (.bool D3.stopped) 25
      have hb12 : Below w11.heap.size w11 (w11.alloc (.cells #[.slice s3.a s3.n s3.c, .slice p3.a p3.n p3.c, .int .i64 D3.left, .bool D3.stopped] 25)) := (Below.refl _ _).alloc (Nat.le_refl _) _
      go_upto_region 17 with fail
      obtain ⟨W12, hW12⟩ : ∃ W, W = w11.alloc (.cells #[.slice s3.a s3.n s3.c, .slice p3.a p3.n p3.c, .int .i64 D3.left, .bool D3.stopped] 25) := ⟨_, rfl⟩
      rw [← hW12] at hx3 hb12 ⊢
      clear hW12
      clear HX2_0 HX2_1 HX2_2 HX2_3 HX2_f0 HX2_f1 HX2_f2 HX2_f3 HX2_z
      have S_W12 : Below w11.heap.size w11 W12 := (Below.refl _ w11).trans (hb12.mono (by (try simp) <;> omega))
      have HD := Lib.hid (HD.out.step S_W12)
      have HX := Lib.hid (HX.out.step S_W12)
      have HBY := Lib.hid (HBY.out.step S_W12)
      have HCY := Lib.hid (HCY.out.step S_W12)
      have ba := Lib.hid (ba.out.trans (S_W12.mono ba.out.size))
      have HU0 := Lib.hid (HU0.out.step S_W12)
      have HD1 := Lib.hid (HD1.out.step S_W12)
      have HX1 := Lib.hid (HX1.out.step S_W12)
      have HU1 := Lib.hid (HU1.out.step S_W12)
      have HU2 := Lib.hid (HU2.out.step S_W12)
      have HD2 := Lib.hid (HD2.out.step S_W12)
      have HX2 := Lib.hid (HX2.out.step S_W12)
      have HD3 := Lib.hid (HD3.out.step S_W12)
      have z_W12 := S_W12.size
      have HX3 := Lib.hid (hx3)
      clear hx3
      rcases sw with ⟨rfl, hDD, hns⟩ | ⟨rfl, hst⟩
      rotate_left
      · rw [hst] at HX3
        obtain ⟨HX3_0, HX3_1, HX3_2, HX3_3, HX3_f0, HX3_f1, HX3_f2, HX3_f3, HX3_z⟩ := HX3.out
        go_wp2_with fail
        go_ret
        exact ⟨rfl, ba.out⟩
      have h1 : runsD D3 = true := by rw [hDD]; exact sync_runs HG1.out hns
      have h2 : ∀ k : Nat, k < d.secs.length → readD D2 k = (sectorD D2 k, 0) ∧ readD D3 k = (sectorD D2 k, 0) := fun k hk => by
        have hk2 : k < D2.secs.length := by rw [HG2.out]; exact hk
        refine ⟨readD_yes HG1.out (by simp [hasD]; omega), ?_⟩
        rw [readD_yes h1 (by rw [hDD]; simp [hasD, perform_len]; omega), hDD, sync_sector HG1.out hk2]
      have h3 : D3.pend = [] := by rw [hDD]
      have hpn : p3.n = 0 := by have := HD3.out.2.len; rw [h3] at this; exact this
      have h4 : checkD D3 = 0 := by simp only [runsD, Bool.and_eq_true] at h1; exact checkD_yes h1.1
      have H2 := Lib.hid h2
      have H4 := Lib.hid h4
      obtain ⟨Ap, np, cp⟩ := p3
      simp only at hpn
      subst hpn
      clear h1 h2 h3 h4 hDD hns
      obtain ⟨HX_0, HX_1, HX_2, HX_3, HX_f0, HX_f1, HX_f2, HX_f3, HX_z⟩ := HX.out
      go_wp2_with fail
      go_loopw [23] (fun i wr => Below W12.heap.size W12 wr ∧ ∃ k : Nat, k ≤ d.secs.length ∧ i = .int .i64 k) (fun i _ => d.secs.length - (intOf i).toNat)
      case atStart => exact ⟨Below.refl _ _, 0, Nat.zero_le _, rfl⟩
      case round =>
        obtain ⟨hbr, k, hk, rfl⟩ := hrel
        clear HX_0 HX_1 HX_2 HX_3 HX_f0 HX_f1 HX_f2 HX_f3 HX_z
        have S_wr : Below W12.heap.size W12 wr := (Below.refl _ W12).trans (hbr.mono (by (try simp) <;> omega))
        have HD := Lib.hid (HD.out.step S_wr)
        have HX := Lib.hid (HX.out.step S_wr)
        have HBY := Lib.hid (HBY.out.step S_wr)
        have HCY := Lib.hid (HCY.out.step S_wr)
        have ba := Lib.hid (ba.out.trans (S_wr.mono ba.out.size))
        have HU0 := Lib.hid (HU0.out.step S_wr)
        have HD1 := Lib.hid (HD1.out.step S_wr)
        have HX1 := Lib.hid (HX1.out.step S_wr)
        have HU1 := Lib.hid (HU1.out.step S_wr)
        have HU2 := Lib.hid (HU2.out.step S_wr)
        have HD2 := Lib.hid (HD2.out.step S_wr)
        have HX2 := Lib.hid (HX2.out.step S_wr)
        have HD3 := Lib.hid (HD3.out.step S_wr)
        have HX3 := Lib.hid (HX3.out.step S_wr)
        have z_wr := S_wr.size
        have HBR := Lib.hid hbr
        clear hbr
        obtain ⟨HX_0, HX_1, HX_2, HX_3, HX_f0, HX_f1, HX_f2, HX_f3, HX_z⟩ := HX.out
        by_cases hlt : k < d.secs.length
        · have hkl : decide ((k : Int) < (d.secs.length : Int)) = true := by simpa using hlt
          have hrd := H2.out k hlt
          obtain ⟨q1, q2⟩ := hrd
          clear HX_0 HX_1 HX_2 HX_3 HX_f0 HX_f1 HX_f2 HX_f3 HX_z
          obtain ⟨HX_0, HX_1, HX_2, HX_3, HX_f0, HX_f1, HX_f2, HX_f3, HX_z⟩ := HX.out
          obtain ⟨HX2_0, HX2_1, HX2_2, HX2_3, HX2_f0, HX2_f1, HX2_f2, HX2_f3, HX2_z⟩ := HX2.out
          go_wp2_with fail
          refine (Read_any D2 s2 p2 k _ HD2.out).mono ?_
          rw [q1]
          rintro e w13 ⟨⟨u3, rfl, hu3⟩, hb_w13⟩
          have S_w13 : Below wr.heap.size wr w13 := (Below.refl _ wr).trans (hb_w13.mono (by (try simp) <;> omega))
          have HD := Lib.hid (HD.out.step S_w13)
          have HX := Lib.hid (HX.out.step S_w13)
          have HBY := Lib.hid (HBY.out.step S_w13)
          have HCY := Lib.hid (HCY.out.step S_w13)
          have ba := Lib.hid (ba.out.trans (S_w13.mono ba.out.size))
          have HU0 := Lib.hid (HU0.out.step S_w13)
          have HD1 := Lib.hid (HD1.out.step S_w13)
          have HX1 := Lib.hid (HX1.out.step S_w13)
          have HU1 := Lib.hid (HU1.out.step S_w13)
          have HU2 := Lib.hid (HU2.out.step S_w13)
          have HD2 := Lib.hid (HD2.out.step S_w13)
          have HX2 := Lib.hid (HX2.out.step S_w13)
          have HD3 := Lib.hid (HD3.out.step S_w13)
          have HX3 := Lib.hid (HX3.out.step S_w13)
          have z_w13 := S_w13.size
          have HU3 := Lib.hid (hu3)
          clear hu3
          clear HX_0 HX_1 HX_2 HX_3 HX_f0 HX_f1 HX_f2 HX_f3 HX_z
          clear HX2_0 HX2_1 HX2_2 HX2_3 HX2_f0 HX2_f1 HX2_f2 HX2_f3 HX2_z
          obtain ⟨HX3_0, HX3_1, HX3_2, HX3_3, HX3_f0, HX3_f1, HX3_f2, HX3_f3, HX3_z⟩ := HX3.out
          go_wp2_with fail
          refine (Read_any D3 s3 ⟨Ap, 0, cp⟩ k _ HD3.out).mono ?_
          rw [q2]
          rintro e w14 ⟨⟨u4, rfl, hu4⟩, hb_w14⟩
          have S_w14 : Below w13.heap.size w13 w14 := (Below.refl _ w13).trans (hb_w14.mono (by (try simp) <;> omega))
          have HD := Lib.hid (HD.out.step S_w14)
          have HX := Lib.hid (HX.out.step S_w14)
          have HBY := Lib.hid (HBY.out.step S_w14)
          have HCY := Lib.hid (HCY.out.step S_w14)
          have ba := Lib.hid (ba.out.trans (S_w14.mono ba.out.size))
          have HU0 := Lib.hid (HU0.out.step S_w14)
          have HD1 := Lib.hid (HD1.out.step S_w14)
          have HX1 := Lib.hid (HX1.out.step S_w14)
          have HU1 := Lib.hid (HU1.out.step S_w14)
          have HU2 := Lib.hid (HU2.out.step S_w14)
          have HD2 := Lib.hid (HD2.out.step S_w14)
          have HX2 := Lib.hid (HX2.out.step S_w14)
          have HD3 := Lib.hid (HD3.out.step S_w14)
          have HX3 := Lib.hid (HX3.out.step S_w14)
          have HU3 := Lib.hid (HU3.out.step S_w14)
          have z_w14 := S_w14.size
          have HU4 := Lib.hid (hu4)
          clear hu4
          have k5 := conv_by HU3.out
          have k6 := conv_by HU4.out
          generalize strOfNums (sectorD D2 k) = sb at k5 k6
          clear HX3_0 HX3_1 HX3_2 HX3_3 HX3_f0 HX3_f1 HX3_f2 HX3_f3 HX3_z
          go_wp2_with fail
          go_roundw
          case rel => exact ⟨HBR.out.trans ((S_w13.trans (S_w14.mono S_w13.size)).mono HBR.out.size), k + 1, by omega, by go_num⟩
          case measure => simp [intOf]; omega
        · obtain rfl : d.secs.length = k := by omega
          have hkl : decide ((d.secs.length : Int) < (d.secs.length : Int)) = false := by simp
          clear HX_0 HX_1 HX_2 HX_3 HX_f0 HX_f1 HX_f2 HX_f3 HX_z
          obtain ⟨HX_0, HX_1, HX_2, HX_3, HX_f0, HX_f1, HX_f2, HX_f3, HX_z⟩ := HX.out
          obtain ⟨HX3_0, HX3_1, HX3_2, HX3_3, HX3_f0, HX3_f1, HX3_f2, HX3_f3, HX3_z⟩ := HX3.out
          go_wp2_with fail
          refine (Check_any D3 s3 ⟨Ap, 0, cp⟩ _ HD3.out).mono ?_
          rw [H4.out]
          rintro e w15 ⟨rfl, hb_w15⟩
          have S_w15 : Below wr.heap.size wr w15 := (Below.refl _ wr).trans (hb_w15.mono (by (try simp) <;> omega))
          have HD := Lib.hid (HD.out.step S_w15)
          have HX := Lib.hid (HX.out.step S_w15)
          have HBY := Lib.hid (HBY.out.step S_w15)
          have HCY := Lib.hid (HCY.out.step S_w15)
          have ba := Lib.hid (ba.out.trans (S_w15.mono ba.out.size))
          have HU0 := Lib.hid (HU0.out.step S_w15)
          have HD1 := Lib.hid (HD1.out.step S_w15)
          have HX1 := Lib.hid (HX1.out.step S_w15)
          have HU1 := Lib.hid (HU1.out.step S_w15)
          have HU2 := Lib.hid (HU2.out.step S_w15)
          have HD2 := Lib.hid (HD2.out.step S_w15)
          have HX2 := Lib.hid (HX2.out.step S_w15)
          have HD3 := Lib.hid (HD3.out.step S_w15)
          have HX3 := Lib.hid (HX3.out.step S_w15)
          have z_w15 := S_w15.size
          clear HX_0 HX_1 HX_2 HX_3 HX_f0 HX_f1 HX_f2 HX_f3 HX_z
          clear HX3_0 HX3_1 HX3_2 HX3_3 HX3_f0 HX3_f1 HX3_f2 HX3_f3 HX3_z
          go_wp2_with fail
          go_ret
          exact ⟨rfl, ba.out⟩

theorem DiskReads_any {w : World} (x : Sl × Sl × Dk) (hx : Di w everyB x.1 x.2.1 x.2.2) (n : Int) (hn : (Lit.int .i64 n).wf = true) (m : Int) (hm : (Lit.int .i64 m).wf = true) (b : Sl × List Int) (hb : By w everyB b.1 b.2) (c : Sl × List Int) (hc : By w everyB c.1 c.2) :
    Calls Try.prog 7 #[dkV x.1 x.2.1 x.2.2, .int .i64 n, .int .i64 m, .slice b.1.a b.1.n b.1.c, .slice c.1.a c.1.n c.1.c] w fun e w' => e = .returned (.bool true) ∧ Below w.heap.size w w' :=
  Reads_walk x.1 x.2.1 x.2.2 n m b.1 c.1 b.2 c.2 w hx hb hc
end Go.Proofs.Ytebbmplbpgilaaa
