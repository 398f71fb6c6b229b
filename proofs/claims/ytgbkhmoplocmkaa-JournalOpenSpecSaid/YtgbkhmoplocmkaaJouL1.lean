/- JournalOpenSpec (printed by gen_jouL1.py) -/
import Derived.Test.YtgbkhmoplocmkaaJouT
import Derived.Test.YtgbkhmoplocmkaaJouL
import Derived.Test.YtgbkhmoplocmkaaJouJ
import Derived.BigQuiet
namespace Go.Proofs.Ytgbkhmoplocmkaa
open Go.RowKit Go.Shelf
set_option linter.unusedSimpArgs false
set_option linter.unusedVariables false
set_option maxRecDepth 20000

set_option maxRecDepth 100000 in
set_option maxHeartbeats 8000000 in
theorem OpenSpec_walk (sv pv : Sl) (d : Dk) (w : World) (hd : Di w everyB sv pv d) :
    Calls Try.prog 3 #[dkV sv pv d] w fun e w' => e = .returned (.bool true) ∧ Below w.heap.size w w' := by
  obtain ⟨bf, hbf⟩ : ∃ bf, bf = fewB d [] := ⟨_, rfl⟩
  have HBF := Lib.hid hbf
  clear hbf
  obtain ⟨L, hL⟩ : ∃ L, L = (openJ d).1 := ⟨_, rfl⟩
  obtain ⟨E, hE⟩ : ∃ E, E = (openJ d).2 := ⟨_, rfl⟩
  have HO : Hid (∀ W, Di W everyB sv pv d → Calls Try.prog 12 #[.agg #[.slice sv.a sv.n sv.c, .slice pv.a pv.n pv.c, .int .i64 d.left, .bool d.stopped]] W fun e w' => (∃ r : Sl, e = .returned (.tuple #[.agg #[.slice r.a r.n r.c, .int .i64 L.many, .int .i64 L.synced], .int .i64 E]) ∧ Se w' everyB r L.recs) ∧ Below W.heap.size W w') := Lib.hid (fun W h => by
    rw [hL, hE]
    refine (Open_any d sv pv W h).mono ?_
    rintro e w' ⟨⟨r, rfl, h⟩, hb⟩
    exact ⟨⟨r, rfl, h.mono (fun _ _ => trivial)⟩, hb⟩)
  have HRO : Hid (∀ W, Di W everyB sv pv d → Calls Try.prog 13 #[.agg #[.slice sv.a sv.n sv.c, .slice pv.a pv.n pv.c, .int .i64 d.left, .bool d.stopped]] W fun e w' => (∃ r : Sl, e = .returned (.tuple #[.agg #[.slice r.a r.n r.c, .int .i64 L.many, .int .i64 L.synced], .int .i64 E]) ∧ Se w' everyB r L.recs) ∧ Below W.heap.size W w') := Lib.hid (fun W h => by
    rw [hL, hE]
    refine (ROpen_any d sv pv W h).mono ?_
    rintro e w' ⟨⟨r, rfl, h⟩, hb⟩
    exact ⟨⟨r, rfl, h.mono (fun _ _ => trivial)⟩, hb⟩)
  clear hL hE
  unfold dkV
  go_enter Try.func3, Try.ntmps3
  have ba : Hid (Below w.heap.size w w) := Lib.hid (Below.refl _ _)
  have HD := Lib.hid (hd)
  clear hd
  go_upto_region 1 with fail
  obtain ⟨W0, hW0⟩ : ∃ X, X = (w.alloc (.cells #[.slice sv.a sv.n sv.c, .slice pv.a pv.n pv.c, .int .i64 d.left, .bool d.stopped] 25)) := ⟨_, rfl⟩
  rw [← hW0]
  have hb_W0 : Below w.heap.size w W0 := by rw [hW0]; exact (Below.refl _ _).alloc (by (try simp) <;> omega) _
  have N_X1 : Box4 W0 (w.heap.size) (.slice sv.a sv.n sv.c) (.slice pv.a pv.n pv.c) (.int .i64 d.left) (.bool d.stopped) := by rw [hW0]; exact (Box4.at_ _ (.slice sv.a sv.n sv.c) (.slice pv.a pv.n pv.c) (.int .i64 d.left) (.bool d.stopped) _ _ (by simp))
  clear hW0
  have S_W0 : Below w.heap.size w W0 := (Below.refl _ w).trans (hb_W0.mono (by (try simp) <;> omega))
  have ba := Lib.hid (ba.out.trans (S_W0.mono ba.out.size))
  have HD := Lib.hid (HD.out.step S_W0)
  have z_W0 := S_W0.size
  have X1 := Lib.hid (N_X1)
  clear N_X1
  go_wp2_with fail
  refine (sane_any _).mono ?_
  rintro e w1 ⟨rfl, hb_w1⟩
  have S_w1 : Below W0.heap.size W0 w1 := (Below.refl _ W0).trans (hb_w1.mono (by (try simp) <;> omega))
  have ba := Lib.hid (ba.out.trans (S_w1.mono ba.out.size))
  have HD := Lib.hid (HD.out.step S_w1)
  have X1 := Lib.hid (X1.out.step S_w1)
  have z_w1 := S_w1.size
  obtain ⟨X1_0, X1_1, X1_2, X1_3, X1_f0, X1_f1, X1_f2, X1_f3, X1_z⟩ := X1.out
  go_wp2_with fail
  refine (few_any (P := everyB) (Q := everyB) d sv pv ⟨none, 0, 0⟩ [] _ HD.out (Se.nil_ _ _)).mono ?_
  rw [← HBF.out]
  rintro e w2 ⟨rfl, hb_w2⟩
  have S_w2 : Below w1.heap.size w1 w2 := (Below.refl _ w1).trans (hb_w2.mono (by (try simp) <;> omega))
  have ba := Lib.hid (ba.out.trans (S_w2.mono ba.out.size))
  have HD := Lib.hid (HD.out.step S_w2)
  have X1 := Lib.hid (X1.out.step S_w2)
  have z_w2 := S_w2.size
  clear X1_0 X1_1 X1_2 X1_3 X1_f0 X1_f1 X1_f2 X1_f3 X1_z
  obtain ⟨X1_0, X1_1, X1_2, X1_3, X1_f0, X1_f1, X1_f2, X1_f3, X1_z⟩ := X1.out
  cases bf
  · go_wp2_with fail
    go_ret
    exact ⟨rfl, ba.out⟩
  · go_wp2_with fail
    refine (HO.out _ HD.out).mono ?_
    rintro e w3 ⟨⟨r3, rfl, hr3⟩, hb_w3⟩
    have S_w3 : Below w2.heap.size w2 w3 := (Below.refl _ w2).trans (hb_w3.mono (by (try simp) <;> omega))
    have ba := Lib.hid (ba.out.trans (S_w3.mono ba.out.size))
    have HD := Lib.hid (HD.out.step S_w3)
    have X1 := Lib.hid (X1.out.step S_w3)
    have z_w3 := S_w3.size
    have HR3 := Lib.hid (hr3)
    clear hr3
    clear X1_0 X1_1 X1_2 X1_3 X1_f0 X1_f1 X1_f2 X1_f3 X1_z
    go_upto_region 6 with fail
    obtain ⟨W3, hW3⟩ : ∃ X, X = (w3.alloc (.cells #[.slice r3.a r3.n r3.c, .int .i64 L.many, .int .i64 L.synced] 29)) := ⟨_, rfl⟩
    rw [← hW3]
    have hb_W3 : Below w3.heap.size w3 W3 := by rw [hW3]; exact (Below.refl _ _).alloc (by (try simp) <;> omega) _
    have N_X3 : Box3 W3 (w3.heap.size) (.slice r3.a r3.n r3.c) (.int .i64 L.many) (.int .i64 L.synced) := by rw [hW3]; exact (Box3.at_ _ (.slice r3.a r3.n r3.c) (.int .i64 L.many) (.int .i64 L.synced) _ _ (by simp))
    clear hW3
    have S_W3 : Below w3.heap.size w3 W3 := (Below.refl _ w3).trans (hb_W3.mono (by (try simp) <;> omega))
    have ba := Lib.hid (ba.out.trans (S_W3.mono ba.out.size))
    have HD := Lib.hid (HD.out.step S_W3)
    have X1 := Lib.hid (X1.out.step S_W3)
    have HR3 := Lib.hid (HR3.out.step S_W3)
    have z_W3 := S_W3.size
    have X3 := Lib.hid (N_X3)
    clear N_X3
    obtain ⟨X1_0, X1_1, X1_2, X1_3, X1_f0, X1_f1, X1_f2, X1_f3, X1_z⟩ := X1.out
    go_wp2_with fail
    refine (HRO.out _ HD.out).mono ?_
    rintro e w4 ⟨⟨r5, rfl, hr5⟩, hb_w4⟩
    have S_w4 : Below W3.heap.size W3 w4 := (Below.refl _ W3).trans (hb_w4.mono (by (try simp) <;> omega))
    have ba := Lib.hid (ba.out.trans (S_w4.mono ba.out.size))
    have HD := Lib.hid (HD.out.step S_w4)
    have X1 := Lib.hid (X1.out.step S_w4)
    have HR3 := Lib.hid (HR3.out.step S_w4)
    have X3 := Lib.hid (X3.out.step S_w4)
    have z_w4 := S_w4.size
    have HR5 := Lib.hid (hr5)
    clear hr5
    clear X1_0 X1_1 X1_2 X1_3 X1_f0 X1_f1 X1_f2 X1_f3 X1_z
    go_upto_region 7 with fail
    obtain ⟨W4, hW4⟩ : ∃ X, X = (w4.alloc (.cells #[.slice r5.a r5.n r5.c, .int .i64 L.many, .int .i64 L.synced] 29)) := ⟨_, rfl⟩
    rw [← hW4]
    have hb_W4 : Below w4.heap.size w4 W4 := by rw [hW4]; exact (Below.refl _ _).alloc (by (try simp) <;> omega) _
    have N_X5 : Box3 W4 (w4.heap.size) (.slice r5.a r5.n r5.c) (.int .i64 L.many) (.int .i64 L.synced) := by rw [hW4]; exact (Box3.at_ _ (.slice r5.a r5.n r5.c) (.int .i64 L.many) (.int .i64 L.synced) _ _ (by simp))
    clear hW4
    have S_W4 : Below w4.heap.size w4 W4 := (Below.refl _ w4).trans (hb_W4.mono (by (try simp) <;> omega))
    have ba := Lib.hid (ba.out.trans (S_W4.mono ba.out.size))
    have HD := Lib.hid (HD.out.step S_W4)
    have X1 := Lib.hid (X1.out.step S_W4)
    have HR3 := Lib.hid (HR3.out.step S_W4)
    have X3 := Lib.hid (X3.out.step S_W4)
    have HR5 := Lib.hid (HR5.out.step S_W4)
    have z_W4 := S_W4.size
    have X5 := Lib.hid (N_X5)
    clear N_X5
    obtain ⟨X3_0, X3_1, X3_2, X3_f0, X3_f1, X3_f2, X3_z⟩ := X3.out
    obtain ⟨X5_0, X5_1, X5_2, X5_f0, X5_f1, X5_f2, X5_z⟩ := X5.out
    go_wp2_with fail
    refine (JSame_any (P := everyB) (Q := everyB) L L r3 r5 _ HR3.out HR5.out).mono ?_
    rw [sameJ_self]
    rintro e w5 ⟨rfl, hb_w5⟩
    have S_w5 : Below W4.heap.size W4 w5 := (Below.refl _ W4).trans (hb_w5.mono (by (try simp) <;> omega))
    have ba := Lib.hid (ba.out.trans (S_w5.mono ba.out.size))
    have HD := Lib.hid (HD.out.step S_w5)
    have X1 := Lib.hid (X1.out.step S_w5)
    have HR3 := Lib.hid (HR3.out.step S_w5)
    have X3 := Lib.hid (X3.out.step S_w5)
    have HR5 := Lib.hid (HR5.out.step S_w5)
    have X5 := Lib.hid (X5.out.step S_w5)
    have z_w5 := S_w5.size
    clear X3_0 X3_1 X3_2 X3_f0 X3_f1 X3_f2 X3_z
    clear X5_0 X5_1 X5_2 X5_f0 X5_f1 X5_f2 X5_z
    go_wp2_with fail
    go_ret
    exact ⟨rfl, ba.out⟩

theorem JournalOpenSpec_any {w : World} (x : Sl × Sl × Dk) (hx : Di w everyB x.1 x.2.1 x.2.2) :
    Calls Try.prog 3 #[dkV x.1 x.2.1 x.2.2] w fun e w' => e = .returned (.bool true) ∧ Below w.heap.size w w' :=
  OpenSpec_walk x.1 x.2.1 x.2.2 w hx
end Go.Proofs.Ytgbkhmoplocmkaa
