/- New, Check and Restart as the reference says -/
import Derived.Test.YtebbmplbpgilaaaDskQ
import Derived.BigQuiet
namespace Go.Proofs.Ytebbmplbpgilaaa
open Go.RowKit Go.Shelf
set_option linter.unusedSimpArgs false
set_option linter.unusedVariables false

set_option maxRecDepth 100000 in
set_option maxHeartbeats 8000000 in
theorem NewSpec_walk (n : Int) (hn : -9223372036854775808 ≤ n ∧ n ≤ 9223372036854775807) (sv pv : Sl) (d : Dk) (w : World) (hd : Di w everyB sv pv d) :
    Calls Try.prog 3 #[.int .i64 n, dkV sv pv d] w fun e w' => e = .returned (.bool true) ∧ Below w.heap.size w w' := by
  have hways : (decide (60 < n) = true ∧ decide (n ≤ 4096) = true) ∨ (decide (60 < n) = true ∧ decide (n ≤ 4096) = false) ∨ decide (60 < n) = false := by
    cases decide (60 < n) <;> cases decide (n ≤ 4096) <;> simp
  obtain ⟨D, E, hDE⟩ : ∃ D E, newD n = (D, E) := ⟨_, _, rfl⟩
  have hN := Lib.hid (fun W => New_any n hn W)
  have hR := Lib.hid (fun W => RNew_any n hn W)
  rw [hDE] at hN hR
  simp only [dkV] at hN hR ⊢
  clear hDE
  rcases hways with ⟨c1, c2⟩ | ⟨c1, c2⟩ | c1
  · go_enter Try.func3, Try.ntmps3
    go_wp2_with fail
    obtain ⟨W0, hW0⟩ : ∃ W, W = w.alloc (.cells #[.slice sv.a sv.n sv.c, .slice pv.a pv.n pv.c, .int .i64 d.left, .bool d.stopped] 25) := ⟨_, rfl⟩
    rw [← hW0]
    have b0 : Below w.heap.size w W0 := by rw [hW0]; exact (Below.refl _ _).alloc (Nat.le_refl _) _
    have x0 : Box4 W0 w.heap.size (.slice sv.a sv.n sv.c) (.slice pv.a pv.n pv.c) (.int .i64 d.left) (.bool d.stopped) := by rw [hW0]; exact Box4.new ..
    have HD := Lib.hid (hd.step b0)
    have HX := Lib.hid (x0)
    have ba := Lib.hid b0
    clear hW0 b0 x0
    refine (sane_any _).mono ?_
    rintro e w1 ⟨rfl, hb_w1⟩
    have S_w1 : Below W0.heap.size W0 w1 := (Below.refl _ W0).trans (hb_w1.mono (by (try simp) <;> omega))
    have HD := Lib.hid (HD.out.step S_w1)
    have HX := Lib.hid (HX.out.step S_w1)
    have ba := Lib.hid (ba.out.trans (S_w1.mono ba.out.size))
    have z_w1 := S_w1.size
    obtain ⟨HX_0, HX_1, HX_2, HX_3, HX_f0, HX_f1, HX_f2, HX_f3, HX_z⟩ := HX.out
    go_wp2_with fail
    go_ret
    exact ⟨rfl, ba.out⟩
  · go_enter Try.func3, Try.ntmps3
    go_wp2_with fail
    obtain ⟨W0, hW0⟩ : ∃ W, W = w.alloc (.cells #[.slice sv.a sv.n sv.c, .slice pv.a pv.n pv.c, .int .i64 d.left, .bool d.stopped] 25) := ⟨_, rfl⟩
    rw [← hW0]
    have b0 : Below w.heap.size w W0 := by rw [hW0]; exact (Below.refl _ _).alloc (Nat.le_refl _) _
    have x0 : Box4 W0 w.heap.size (.slice sv.a sv.n sv.c) (.slice pv.a pv.n pv.c) (.int .i64 d.left) (.bool d.stopped) := by rw [hW0]; exact Box4.new ..
    have HD := Lib.hid (hd.step b0)
    have HX := Lib.hid (x0)
    have ba := Lib.hid b0
    clear hW0 b0 x0
    refine (sane_any _).mono ?_
    rintro e w1 ⟨rfl, hb_w1⟩
    have S_w1 : Below W0.heap.size W0 w1 := (Below.refl _ W0).trans (hb_w1.mono (by (try simp) <;> omega))
    have HD := Lib.hid (HD.out.step S_w1)
    have HX := Lib.hid (HX.out.step S_w1)
    have ba := Lib.hid (ba.out.trans (S_w1.mono ba.out.size))
    have z_w1 := S_w1.size
    obtain ⟨HX_0, HX_1, HX_2, HX_3, HX_f0, HX_f1, HX_f2, HX_f3, HX_z⟩ := HX.out
    go_wp2_with fail
    refine (Few_any (P := everyB) d sv pv _ HD.out).mono ?_
    rintro e w2 ⟨⟨bf, rfl⟩, hb_w2⟩
    have S_w2 : Below w1.heap.size w1 w2 := (Below.refl _ w1).trans (hb_w2.mono (by (try simp) <;> omega))
    have HD := Lib.hid (HD.out.step S_w2)
    have HX := Lib.hid (HX.out.step S_w2)
    have ba := Lib.hid (ba.out.trans (S_w2.mono ba.out.size))
    have z_w2 := S_w2.size
    cases bf
    · go_wp2_with fail
      go_ret
      exact ⟨rfl, ba.out⟩
    clear HX_0 HX_1 HX_2 HX_3 HX_f0 HX_f1 HX_f2 HX_f3 HX_z
    obtain ⟨HX_0, HX_1, HX_2, HX_3, HX_f0, HX_f1, HX_f2, HX_f3, HX_z⟩ := HX.out
    go_wp2_with fail
    refine (hN.out _).mono ?_
    rintro e w3 ⟨⟨sx, px, rfl, hdx⟩, hb_w3⟩
    have S_w3 : Below w2.heap.size w2 w3 := (Below.refl _ w2).trans (hb_w3.mono (by (try simp) <;> omega))
    have HD := Lib.hid (HD.out.step S_w3)
    have HX := Lib.hid (HX.out.step S_w3)
    have ba := Lib.hid (ba.out.trans (S_w3.mono ba.out.size))
    have z_w3 := S_w3.size
    have HDX := Lib.hid (hdx.t)
    clear hdx
    go_wp2_with fail
    have xx := Box4.new w3 (.slice sx.a sx.n sx.c) (.slice px.a px.n px.c) (.int .i64 D.left) (.bool D.stopped) 25
    refine (hR.out _).mono ?_
    rintro e w4 ⟨⟨sy, py, rfl, hdy⟩, hb_w4⟩
    have HXX := Lib.hid (xx.step hb_w4)
    clear xx
    have S_w4 : Below w3.heap.size w3 w4 := ((Below.refl _ w3).alloc (by (try simp) <;> omega) _).trans (hb_w4.mono (by (try simp) <;> omega))
    have HD := Lib.hid (HD.out.step S_w4)
    have HX := Lib.hid (HX.out.step S_w4)
    have ba := Lib.hid (ba.out.trans (S_w4.mono ba.out.size))
    have HDX := Lib.hid (HDX.out.step S_w4)
    have z_w4 := S_w4.size
    have HDY := Lib.hid (hdy.t)
    clear hdy
    clear HX_0 HX_1 HX_2 HX_3 HX_f0 HX_f1 HX_f2 HX_f3 HX_z
    obtain ⟨HX_0, HX_1, HX_2, HX_3, HX_f0, HX_f1, HX_f2, HX_f3, HX_z⟩ := HX.out
    go_upto_region 7 with fail
    obtain ⟨W5, hW5⟩ : ∃ W, W = w4.alloc (.cells #[.slice sy.a sy.n sy.c, .slice py.a py.n py.c, .int .i64 D.left, .bool D.stopped] 25) := ⟨_, rfl⟩
    rw [← hW5]
    have hb5 : Below w4.heap.size w4 W5 := by rw [hW5]; exact (Below.refl _ _).alloc (Nat.le_refl _) _
    have HXY : Hid (Box4 W5 w4.heap.size (.slice sy.a sy.n sy.c) (.slice py.a py.n py.c) (.int .i64 D.left) (.bool D.stopped)) := Lib.hid (by rw [hW5]; exact Box4.new ..)
    clear hW5
    have hzx : w3.heap.size < w4.heap.size := HXX.out.z
    have S_W5 : Below w4.heap.size w4 W5 := (Below.refl _ w4).trans (hb5.mono (by (try simp) <;> omega))
    have HD := Lib.hid (HD.out.step S_W5)
    have HX := Lib.hid (HX.out.step S_W5)
    have ba := Lib.hid (ba.out.trans (S_W5.mono ba.out.size))
    have HDX := Lib.hid (HDX.out.step S_W5)
    have HXX := Lib.hid (HXX.out.step S_W5)
    have HDY := Lib.hid (HDY.out.step S_W5)
    have z_W5 := S_W5.size
    have S1 : Hid (∀ W, Below W5.heap.size W5 W → Calls Try.prog 14 #[.agg #[.slice sx.a sx.n sx.c, .slice px.a px.n px.c, .int .i64 D.left, .bool D.stopped], .agg #[.slice sy.a sy.n sy.c, .slice py.a py.n py.c, .int .i64 D.left, .bool D.stopped]] W fun e w' => e = .returned (.bool true) ∧ Below W5.heap.size W5 w') := Lib.hid (fun W h => (Same_any (P := everyB) (Q := everyB) D sx px sy py W (HDX.out.step h) (HDY.out.step h)).mono (fun e w' k => ⟨k.1, h.trans (k.2.mono h.size)⟩))
    have S2 : Hid (∀ W, Below W5.heap.size W5 W → Calls Try.prog 15 #[.agg #[.slice sv.a sv.n sv.c, .slice pv.a pv.n pv.c, .int .i64 d.left, .bool d.stopped]] W fun e w' => e = .returned (.int .i64 (checkD d)) ∧ Below W5.heap.size W5 w') := Lib.hid (fun W h => (Check_any (P := everyB) d sv pv W (HD.out.step h)).mono (fun e w' k => ⟨k.1, h.trans (k.2.mono h.size)⟩))
    have S3 : Hid (∀ W, Below W5.heap.size W5 W → Calls Try.prog 16 #[.agg #[.slice sv.a sv.n sv.c, .slice pv.a pv.n pv.c, .int .i64 d.left, .bool d.stopped]] W fun e w' => e = .returned (.int .i64 (checkD d)) ∧ Below W5.heap.size W5 w') := Lib.hid (fun W h => (RCheck_any (P := everyB) d sv pv W (HD.out.step h)).mono (fun e w' k => ⟨k.1, h.trans (k.2.mono h.size)⟩))
    have S4 : Hid (∀ W, Below W5.heap.size W5 W → Calls Try.prog 17 #[.agg #[.slice sv.a sv.n sv.c, .slice pv.a pv.n pv.c, .int .i64 d.left, .bool d.stopped]] W fun e w' => e = .returned (.agg #[.slice sv.a sv.n sv.c, .slice none 0 0, .int .i64 (-1), .bool false]) ∧ Below W5.heap.size W5 w') := Lib.hid (fun W h => (Restart_cell (P := everyB) d sv pv W (HD.out.step h)).mono (fun e w' k => ⟨k.1, h.trans (k.2.mono h.size)⟩))
    have S5 : Hid (∀ W, Below W5.heap.size W5 W → Calls Try.prog 18 #[.agg #[.slice sv.a sv.n sv.c, .slice pv.a pv.n pv.c, .int .i64 d.left, .bool d.stopped]] W fun e w' => e = .returned (.agg #[.slice sv.a sv.n sv.c, .slice none 0 0, .int .i64 (-1), .bool false]) ∧ Below W5.heap.size W5 w') := Lib.hid (fun W h => (RRestart_cell (P := everyB) d sv pv W (HD.out.step h)).mono (fun e w' k => ⟨k.1, h.trans (k.2.mono h.size)⟩))
    have S6 : Hid (∀ W, Below W5.heap.size W5 W → Calls Try.prog 14 #[.agg #[.slice sv.a sv.n sv.c, .slice none 0 0, .int .i64 (-1), .bool false], .agg #[.slice sv.a sv.n sv.c, .slice none 0 0, .int .i64 (-1), .bool false]] W fun e w' => e = .returned (.bool true) ∧ Below W5.heap.size W5 w') := Lib.hid (fun W h => (Same_any (P := everyB) (Q := everyB) (restartD d) sv ⟨none, 0, 0⟩ sv ⟨none, 0, 0⟩ W (HD.out.step h).restart (HD.out.step h).restart).mono (fun e w' k => ⟨k.1, h.trans (k.2.mono h.size)⟩))
    obtain ⟨ck, hck⟩ : ∃ ck, ck = checkD d := ⟨_, rfl⟩
    rw [← hck] at S2 S3
    clear hck
    clear HX_0 HX_1 HX_2 HX_3 HX_f0 HX_f1 HX_f2 HX_f3 HX_z
    obtain ⟨HX_0, HX_1, HX_2, HX_3, HX_f0, HX_f1, HX_f2, HX_f3, HX_z⟩ := HX.out
    obtain ⟨HXX_0, HXX_1, HXX_2, HXX_3, HXX_f0, HXX_f1, HXX_f2, HXX_f3, HXX_z⟩ := HXX.out
    obtain ⟨HXY_0, HXY_1, HXY_2, HXY_3, HXY_f0, HXY_f1, HXY_f2, HXY_f3, HXY_z⟩ := HXY.out
    refine wp_region_below (by kernel_rfl) (by kernel_rfl) ?_
    repeat (first
      | go_big_quiet_skip
      | (go_big_quiet_want
         first
           | (apply quiet_val
              focus (
                intro WC hWC
                obtain ⟨hcc0, hff0⟩ := bcell hWC
                go_simp
                all_goals rfl
                done)
              go_simp
              go_big_quiet_on)
           | (apply quiet_call
              focus (
                intro WC hWC
                go_simp
                all_goals (first | rfl | exact ⟨rfl, rfl⟩)
                done)
              focus (
                intro WC hWC
                with_reducible exact S1.out WC hWC
                done)
              go_simp
              go_big_quiet_on)
           | (apply quiet_call
              focus (
                intro WC hWC
                go_simp
                all_goals (first | rfl | exact ⟨rfl, rfl⟩)
                done)
              focus (
                intro WC hWC
                with_reducible exact S2.out WC hWC
                done)
              go_simp
              go_big_quiet_on)
           | (apply quiet_call
              focus (
                intro WC hWC
                go_simp
                all_goals (first | rfl | exact ⟨rfl, rfl⟩)
                done)
              focus (
                intro WC hWC
                with_reducible exact S3.out WC hWC
                done)
              go_simp
              go_big_quiet_on)
           | (apply quiet_call
              focus (
                intro WC hWC
                go_simp
                all_goals (first | rfl | exact ⟨rfl, rfl⟩)
                done)
              focus (
                intro WC hWC
                with_reducible exact S4.out WC hWC
                done)
              go_simp
              go_big_quiet_on)
           | (apply quiet_call
              focus (
                intro WC hWC
                go_simp
                all_goals (first | rfl | exact ⟨rfl, rfl⟩)
                done)
              focus (
                intro WC hWC
                with_reducible exact S5.out WC hWC
                done)
              go_simp
              go_big_quiet_on)
           | (apply quiet_call
              focus (
                intro WC hWC
                go_simp
                all_goals (first | rfl | exact ⟨rfl, rfl⟩)
                done)
              focus (
                intro WC hWC
                with_reducible exact S6.out WC hWC
                done)
              go_simp
              go_big_quiet_on)))
    refine wpQuiet_nil ?_
    intro W6 hW6
    go_wp2_with fail
    go_ret
    exact ⟨rfl, ba.out.trans (hW6.mono ba.out.size)⟩
  · go_enter Try.func3, Try.ntmps3
    go_wp2_with fail
    obtain ⟨W0, hW0⟩ : ∃ W, W = w.alloc (.cells #[.slice sv.a sv.n sv.c, .slice pv.a pv.n pv.c, .int .i64 d.left, .bool d.stopped] 25) := ⟨_, rfl⟩
    rw [← hW0]
    have b0 : Below w.heap.size w W0 := by rw [hW0]; exact (Below.refl _ _).alloc (Nat.le_refl _) _
    have x0 : Box4 W0 w.heap.size (.slice sv.a sv.n sv.c) (.slice pv.a pv.n pv.c) (.int .i64 d.left) (.bool d.stopped) := by rw [hW0]; exact Box4.new ..
    have HD := Lib.hid (hd.step b0)
    have HX := Lib.hid (x0)
    have ba := Lib.hid b0
    clear hW0 b0 x0
    refine (sane_any _).mono ?_
    rintro e w1 ⟨rfl, hb_w1⟩
    have S_w1 : Below W0.heap.size W0 w1 := (Below.refl _ W0).trans (hb_w1.mono (by (try simp) <;> omega))
    have HD := Lib.hid (HD.out.step S_w1)
    have HX := Lib.hid (HX.out.step S_w1)
    have ba := Lib.hid (ba.out.trans (S_w1.mono ba.out.size))
    have z_w1 := S_w1.size
    obtain ⟨HX_0, HX_1, HX_2, HX_3, HX_f0, HX_f1, HX_f2, HX_f3, HX_z⟩ := HX.out
    go_wp2_with fail
    refine (Few_any (P := everyB) d sv pv _ HD.out).mono ?_
    rintro e w2 ⟨⟨bf, rfl⟩, hb_w2⟩
    have S_w2 : Below w1.heap.size w1 w2 := (Below.refl _ w1).trans (hb_w2.mono (by (try simp) <;> omega))
    have HD := Lib.hid (HD.out.step S_w2)
    have HX := Lib.hid (HX.out.step S_w2)
    have ba := Lib.hid (ba.out.trans (S_w2.mono ba.out.size))
    have z_w2 := S_w2.size
    cases bf
    · go_wp2_with fail
      go_ret
      exact ⟨rfl, ba.out⟩
    clear HX_0 HX_1 HX_2 HX_3 HX_f0 HX_f1 HX_f2 HX_f3 HX_z
    obtain ⟨HX_0, HX_1, HX_2, HX_3, HX_f0, HX_f1, HX_f2, HX_f3, HX_z⟩ := HX.out
    go_wp2_with fail
    refine (hN.out _).mono ?_
    rintro e w3 ⟨⟨sx, px, rfl, hdx⟩, hb_w3⟩
    have S_w3 : Below w2.heap.size w2 w3 := (Below.refl _ w2).trans (hb_w3.mono (by (try simp) <;> omega))
    have HD := Lib.hid (HD.out.step S_w3)
    have HX := Lib.hid (HX.out.step S_w3)
    have ba := Lib.hid (ba.out.trans (S_w3.mono ba.out.size))
    have z_w3 := S_w3.size
    have HDX := Lib.hid (hdx.t)
    clear hdx
    go_wp2_with fail
    have xx := Box4.new w3 (.slice sx.a sx.n sx.c) (.slice px.a px.n px.c) (.int .i64 D.left) (.bool D.stopped) 25
    refine (hR.out _).mono ?_
    rintro e w4 ⟨⟨sy, py, rfl, hdy⟩, hb_w4⟩
    have HXX := Lib.hid (xx.step hb_w4)
    clear xx
    have S_w4 : Below w3.heap.size w3 w4 := ((Below.refl _ w3).alloc (by (try simp) <;> omega) _).trans (hb_w4.mono (by (try simp) <;> omega))
    have HD := Lib.hid (HD.out.step S_w4)
    have HX := Lib.hid (HX.out.step S_w4)
    have ba := Lib.hid (ba.out.trans (S_w4.mono ba.out.size))
    have HDX := Lib.hid (HDX.out.step S_w4)
    have z_w4 := S_w4.size
    have HDY := Lib.hid (hdy.t)
    clear hdy
    clear HX_0 HX_1 HX_2 HX_3 HX_f0 HX_f1 HX_f2 HX_f3 HX_z
    obtain ⟨HX_0, HX_1, HX_2, HX_3, HX_f0, HX_f1, HX_f2, HX_f3, HX_z⟩ := HX.out
    go_upto_region 7 with fail
    obtain ⟨W5, hW5⟩ : ∃ W, W = w4.alloc (.cells #[.slice sy.a sy.n sy.c, .slice py.a py.n py.c, .int .i64 D.left, .bool D.stopped] 25) := ⟨_, rfl⟩
    rw [← hW5]
    have hb5 : Below w4.heap.size w4 W5 := by rw [hW5]; exact (Below.refl _ _).alloc (Nat.le_refl _) _
    have HXY : Hid (Box4 W5 w4.heap.size (.slice sy.a sy.n sy.c) (.slice py.a py.n py.c) (.int .i64 D.left) (.bool D.stopped)) := Lib.hid (by rw [hW5]; exact Box4.new ..)
    clear hW5
    have hzx : w3.heap.size < w4.heap.size := HXX.out.z
    have S_W5 : Below w4.heap.size w4 W5 := (Below.refl _ w4).trans (hb5.mono (by (try simp) <;> omega))
    have HD := Lib.hid (HD.out.step S_W5)
    have HX := Lib.hid (HX.out.step S_W5)
    have ba := Lib.hid (ba.out.trans (S_W5.mono ba.out.size))
    have HDX := Lib.hid (HDX.out.step S_W5)
    have HXX := Lib.hid (HXX.out.step S_W5)
    have HDY := Lib.hid (HDY.out.step S_W5)
    have z_W5 := S_W5.size
    have S1 : Hid (∀ W, Below W5.heap.size W5 W → Calls Try.prog 14 #[.agg #[.slice sx.a sx.n sx.c, .slice px.a px.n px.c, .int .i64 D.left, .bool D.stopped], .agg #[.slice sy.a sy.n sy.c, .slice py.a py.n py.c, .int .i64 D.left, .bool D.stopped]] W fun e w' => e = .returned (.bool true) ∧ Below W5.heap.size W5 w') := Lib.hid (fun W h => (Same_any (P := everyB) (Q := everyB) D sx px sy py W (HDX.out.step h) (HDY.out.step h)).mono (fun e w' k => ⟨k.1, h.trans (k.2.mono h.size)⟩))
    have S2 : Hid (∀ W, Below W5.heap.size W5 W → Calls Try.prog 15 #[.agg #[.slice sv.a sv.n sv.c, .slice pv.a pv.n pv.c, .int .i64 d.left, .bool d.stopped]] W fun e w' => e = .returned (.int .i64 (checkD d)) ∧ Below W5.heap.size W5 w') := Lib.hid (fun W h => (Check_any (P := everyB) d sv pv W (HD.out.step h)).mono (fun e w' k => ⟨k.1, h.trans (k.2.mono h.size)⟩))
    have S3 : Hid (∀ W, Below W5.heap.size W5 W → Calls Try.prog 16 #[.agg #[.slice sv.a sv.n sv.c, .slice pv.a pv.n pv.c, .int .i64 d.left, .bool d.stopped]] W fun e w' => e = .returned (.int .i64 (checkD d)) ∧ Below W5.heap.size W5 w') := Lib.hid (fun W h => (RCheck_any (P := everyB) d sv pv W (HD.out.step h)).mono (fun e w' k => ⟨k.1, h.trans (k.2.mono h.size)⟩))
    have S4 : Hid (∀ W, Below W5.heap.size W5 W → Calls Try.prog 17 #[.agg #[.slice sv.a sv.n sv.c, .slice pv.a pv.n pv.c, .int .i64 d.left, .bool d.stopped]] W fun e w' => e = .returned (.agg #[.slice sv.a sv.n sv.c, .slice none 0 0, .int .i64 (-1), .bool false]) ∧ Below W5.heap.size W5 w') := Lib.hid (fun W h => (Restart_cell (P := everyB) d sv pv W (HD.out.step h)).mono (fun e w' k => ⟨k.1, h.trans (k.2.mono h.size)⟩))
    have S5 : Hid (∀ W, Below W5.heap.size W5 W → Calls Try.prog 18 #[.agg #[.slice sv.a sv.n sv.c, .slice pv.a pv.n pv.c, .int .i64 d.left, .bool d.stopped]] W fun e w' => e = .returned (.agg #[.slice sv.a sv.n sv.c, .slice none 0 0, .int .i64 (-1), .bool false]) ∧ Below W5.heap.size W5 w') := Lib.hid (fun W h => (RRestart_cell (P := everyB) d sv pv W (HD.out.step h)).mono (fun e w' k => ⟨k.1, h.trans (k.2.mono h.size)⟩))
    have S6 : Hid (∀ W, Below W5.heap.size W5 W → Calls Try.prog 14 #[.agg #[.slice sv.a sv.n sv.c, .slice none 0 0, .int .i64 (-1), .bool false], .agg #[.slice sv.a sv.n sv.c, .slice none 0 0, .int .i64 (-1), .bool false]] W fun e w' => e = .returned (.bool true) ∧ Below W5.heap.size W5 w') := Lib.hid (fun W h => (Same_any (P := everyB) (Q := everyB) (restartD d) sv ⟨none, 0, 0⟩ sv ⟨none, 0, 0⟩ W (HD.out.step h).restart (HD.out.step h).restart).mono (fun e w' k => ⟨k.1, h.trans (k.2.mono h.size)⟩))
    obtain ⟨ck, hck⟩ : ∃ ck, ck = checkD d := ⟨_, rfl⟩
    rw [← hck] at S2 S3
    clear hck
    clear HX_0 HX_1 HX_2 HX_3 HX_f0 HX_f1 HX_f2 HX_f3 HX_z
    obtain ⟨HX_0, HX_1, HX_2, HX_3, HX_f0, HX_f1, HX_f2, HX_f3, HX_z⟩ := HX.out
    obtain ⟨HXX_0, HXX_1, HXX_2, HXX_3, HXX_f0, HXX_f1, HXX_f2, HXX_f3, HXX_z⟩ := HXX.out
    obtain ⟨HXY_0, HXY_1, HXY_2, HXY_3, HXY_f0, HXY_f1, HXY_f2, HXY_f3, HXY_z⟩ := HXY.out
    refine wp_region_below (by kernel_rfl) (by kernel_rfl) ?_
    repeat (first
      | go_big_quiet_skip
      | (go_big_quiet_want
         first
           | (apply quiet_val
              focus (
                intro WC hWC
                obtain ⟨hcc0, hff0⟩ := bcell hWC
                go_simp
                all_goals rfl
                done)
              go_simp
              go_big_quiet_on)
           | (apply quiet_call
              focus (
                intro WC hWC
                go_simp
                all_goals (first | rfl | exact ⟨rfl, rfl⟩)
                done)
              focus (
                intro WC hWC
                with_reducible exact S1.out WC hWC
                done)
              go_simp
              go_big_quiet_on)
           | (apply quiet_call
              focus (
                intro WC hWC
                go_simp
                all_goals (first | rfl | exact ⟨rfl, rfl⟩)
                done)
              focus (
                intro WC hWC
                with_reducible exact S2.out WC hWC
                done)
              go_simp
              go_big_quiet_on)
           | (apply quiet_call
              focus (
                intro WC hWC
                go_simp
                all_goals (first | rfl | exact ⟨rfl, rfl⟩)
                done)
              focus (
                intro WC hWC
                with_reducible exact S3.out WC hWC
                done)
              go_simp
              go_big_quiet_on)
           | (apply quiet_call
              focus (
                intro WC hWC
                go_simp
                all_goals (first | rfl | exact ⟨rfl, rfl⟩)
                done)
              focus (
                intro WC hWC
                with_reducible exact S4.out WC hWC
                done)
              go_simp
              go_big_quiet_on)
           | (apply quiet_call
              focus (
                intro WC hWC
                go_simp
                all_goals (first | rfl | exact ⟨rfl, rfl⟩)
                done)
              focus (
                intro WC hWC
                with_reducible exact S5.out WC hWC
                done)
              go_simp
              go_big_quiet_on)
           | (apply quiet_call
              focus (
                intro WC hWC
                go_simp
                all_goals (first | rfl | exact ⟨rfl, rfl⟩)
                done)
              focus (
                intro WC hWC
                with_reducible exact S6.out WC hWC
                done)
              go_simp
              go_big_quiet_on)))
    refine wpQuiet_nil ?_
    intro W6 hW6
    go_wp2_with fail
    go_ret
    exact ⟨rfl, ba.out.trans (hW6.mono ba.out.size)⟩

theorem DiskNewSpec_any {w : World} (n : Int) (hn : (Lit.int .i64 n).wf = true) (x : Sl × Sl × Dk) (hx : Di w everyB x.1 x.2.1 x.2.2) :
    Calls Try.prog 3 #[.int .i64 n, dkV x.1 x.2.1 x.2.2] w fun e w' => e = .returned (.bool true) ∧ Below w.heap.size w w' :=
  NewSpec_walk n (by have := Go.bounds_i64 hn; omega) x.1 x.2.1 x.2.2 w hx
end Go.Proofs.Ytebbmplbpgilaaa
