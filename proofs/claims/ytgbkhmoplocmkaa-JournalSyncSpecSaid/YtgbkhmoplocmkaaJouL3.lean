/- JournalSyncSpec (printed by gen_jouL1.py) -/
import Derived.Test.YtgbkhmoplocmkaaJouT
import Derived.Test.YtgbkhmoplocmkaaJouL
import Derived.Test.YtgbkhmoplocmkaaJouR
import Derived.BigQuiet
namespace Go.Proofs.Ytgbkhmoplocmkaa
open Go.RowKit Go.Shelf
set_option linter.unusedSimpArgs false
set_option linter.unusedVariables false
set_option maxRecDepth 20000

set_option maxRecDepth 100000 in
set_option maxHeartbeats 8000000 in
theorem SyncSpec_walk (sj sv pv : Sl) (l : Jl) (d : Dk) (w : World) (hl : Se w everyB sj l.recs) (hd : Di w everyB sv pv d) :
    Calls Try.prog 5 #[jlV sj l, dkV sv pv d] w fun e w' => e = .returned (.bool true) ∧ Below w.heap.size w w' := by
  obtain ⟨bf, hbf⟩ : ∃ bf, bf = fewB d l.recs := ⟨_, rfl⟩
  have HBF := Lib.hid hbf
  clear hbf
  obtain ⟨L, hL⟩ : ∃ L, L = (syncJ l d).1 := ⟨_, rfl⟩
  obtain ⟨D, hD⟩ : ∃ D, D = (syncJ l d).2.1 := ⟨_, rfl⟩
  obtain ⟨E, hE⟩ : ∃ E, E = (syncJ l d).2.2 := ⟨_, rfl⟩
  have HO : Hid (∀ W, Se W everyB sj l.recs → Di W everyB sv pv d → Calls Try.prog 21 #[.agg #[.slice sj.a sj.n sj.c, .int .i64 l.many, .int .i64 l.synced], .agg #[.slice sv.a sv.n sv.c, .slice pv.a pv.n pv.c, .int .i64 d.left, .bool d.stopped]] W fun e w' => (∃ r s p : Sl, e = .returned (.tuple #[.agg #[.slice r.a r.n r.c, .int .i64 L.many, .int .i64 L.synced], .agg #[.slice s.a s.n s.c, .slice p.a p.n p.c, .int .i64 D.left, .bool D.stopped], .int .i64 E]) ∧ Se w' everyB r L.recs ∧ Di w' everyB s p D) ∧ Below W.heap.size W w') := Lib.hid (fun W h h2 => by
    rw [hL, hD, hE]
    refine (JSync_any l d sj sv pv W h h2).mono ?_
    rintro e w' ⟨⟨r, s, p, rfl, h, h3⟩, hb⟩
    exact ⟨⟨r, s, p, rfl, h.mono (fun _ _ => trivial), h3.mono (fun _ _ => trivial)⟩, hb⟩)
  have HRO : Hid (∀ W, Se W everyB sj l.recs → Di W everyB sv pv d → Calls Try.prog 22 #[.agg #[.slice sj.a sj.n sj.c, .int .i64 l.many, .int .i64 l.synced], .agg #[.slice sv.a sv.n sv.c, .slice pv.a pv.n pv.c, .int .i64 d.left, .bool d.stopped]] W fun e w' => (∃ r s p : Sl, e = .returned (.tuple #[.agg #[.slice r.a r.n r.c, .int .i64 L.many, .int .i64 L.synced], .agg #[.slice s.a s.n s.c, .slice p.a p.n p.c, .int .i64 D.left, .bool D.stopped], .int .i64 E]) ∧ Se w' everyB r L.recs ∧ Di w' everyB s p D) ∧ Below W.heap.size W w') := Lib.hid (fun W h h2 => by
    rw [hL, hD, hE]
    refine (RJSync_any l d sj sv pv W h h2).mono ?_
    rintro e w' ⟨⟨r, s, p, rfl, h, h3⟩, hb⟩
    exact ⟨⟨r, s, p, rfl, h.mono (fun _ _ => trivial), h3.mono (fun _ _ => trivial)⟩, hb⟩)
  clear hL hD hE
  unfold dkV jlV
  go_enter Try.func5, Try.ntmps5
  have ba : Hid (Below w.heap.size w w) := Lib.hid (Below.refl _ _)
  have HL := Lib.hid (hl)
  have HD := Lib.hid (hd)
  clear hl hd
  go_upto_region 1 with fail
  obtain ⟨W0, hW0⟩ : ∃ X, X = ((w.alloc (.cells #[.slice sj.a sj.n sj.c, .int .i64 l.many, .int .i64 l.synced] 29)).alloc (.cells #[.slice sv.a sv.n sv.c, .slice pv.a pv.n pv.c, .int .i64 d.left, .bool d.stopped] 25)) := ⟨_, rfl⟩
  rw [← hW0]
  have hb_W0 : Below w.heap.size w W0 := by rw [hW0]; exact ((Below.refl _ _).alloc (by (try simp) <;> omega) _).alloc (by (try simp) <;> omega) _
  have N_X2 : Box3 W0 (w.heap.size) (.slice sj.a sj.n sj.c) (.int .i64 l.many) (.int .i64 l.synced) := by rw [hW0]; exact (Box3.at_ _ (.slice sj.a sj.n sj.c) (.int .i64 l.many) (.int .i64 l.synced) _ _ (by simp)).step ((Below.refl _ _).alloc (Nat.le_refl _) _)
  have N_X3 : Box4 W0 (w.heap.size + 1) (.slice sv.a sv.n sv.c) (.slice pv.a pv.n pv.c) (.int .i64 d.left) (.bool d.stopped) := by rw [hW0]; exact (Box4.at_ _ (.slice sv.a sv.n sv.c) (.slice pv.a pv.n pv.c) (.int .i64 d.left) (.bool d.stopped) _ _ (by simp))
  clear hW0
  have S_W0 : Below w.heap.size w W0 := (Below.refl _ w).trans (hb_W0.mono (by (try simp) <;> omega))
  have ba := Lib.hid (ba.out.trans (S_W0.mono ba.out.size))
  have HL := Lib.hid (HL.out.step S_W0)
  have HD := Lib.hid (HD.out.step S_W0)
  have z_W0 := S_W0.size
  have X2 := Lib.hid (N_X2)
  clear N_X2
  have X3 := Lib.hid (N_X3)
  clear N_X3
  go_wp2_with fail
  refine (sane_any _).mono ?_
  rintro e w1 ⟨rfl, hb_w1⟩
  have S_w1 : Below W0.heap.size W0 w1 := (Below.refl _ W0).trans (hb_w1.mono (by (try simp) <;> omega))
  have ba := Lib.hid (ba.out.trans (S_w1.mono ba.out.size))
  have HL := Lib.hid (HL.out.step S_w1)
  have HD := Lib.hid (HD.out.step S_w1)
  have X2 := Lib.hid (X2.out.step S_w1)
  have X3 := Lib.hid (X3.out.step S_w1)
  have z_w1 := S_w1.size
  obtain ⟨X2_0, X2_1, X2_2, X2_f0, X2_f1, X2_f2, X2_z⟩ := X2.out
  obtain ⟨X3_0, X3_1, X3_2, X3_3, X3_f0, X3_f1, X3_f2, X3_f3, X3_z⟩ := X3.out
  go_wp2_with fail
  refine (few_any (P := everyB) (Q := everyB) d sv pv sj l.recs _ HD.out HL.out).mono ?_
  rw [← HBF.out]
  rintro e w2 ⟨rfl, hb_w2⟩
  have S_w2 : Below w1.heap.size w1 w2 := (Below.refl _ w1).trans (hb_w2.mono (by (try simp) <;> omega))
  have ba := Lib.hid (ba.out.trans (S_w2.mono ba.out.size))
  have HL := Lib.hid (HL.out.step S_w2)
  have HD := Lib.hid (HD.out.step S_w2)
  have X2 := Lib.hid (X2.out.step S_w2)
  have X3 := Lib.hid (X3.out.step S_w2)
  have z_w2 := S_w2.size
  clear X2_0 X2_1 X2_2 X2_f0 X2_f1 X2_f2 X2_z
  clear X3_0 X3_1 X3_2 X3_3 X3_f0 X3_f1 X3_f2 X3_f3 X3_z
  obtain ⟨X2_0, X2_1, X2_2, X2_f0, X2_f1, X2_f2, X2_z⟩ := X2.out
  obtain ⟨X3_0, X3_1, X3_2, X3_3, X3_f0, X3_f1, X3_f2, X3_f3, X3_z⟩ := X3.out
  cases bf
  · go_wp2_with fail
    go_ret
    exact ⟨rfl, ba.out⟩
  · go_wp2_with fail
    refine (HO.out _ HL.out HD.out).mono ?_
    rintro e w3 ⟨⟨r5, s6, p6, rfl, hr5, hd6⟩, hb_w3⟩
    have S_w3 : Below w2.heap.size w2 w3 := (Below.refl _ w2).trans (hb_w3.mono (by (try simp) <;> omega))
    have ba := Lib.hid (ba.out.trans (S_w3.mono ba.out.size))
    have HL := Lib.hid (HL.out.step S_w3)
    have HD := Lib.hid (HD.out.step S_w3)
    have X2 := Lib.hid (X2.out.step S_w3)
    have X3 := Lib.hid (X3.out.step S_w3)
    have z_w3 := S_w3.size
    have HR5 := Lib.hid (hr5)
    have HD6 := Lib.hid (hd6)
    clear hr5 hd6
    clear X2_0 X2_1 X2_2 X2_f0 X2_f1 X2_f2 X2_z
    clear X3_0 X3_1 X3_2 X3_3 X3_f0 X3_f1 X3_f2 X3_f3 X3_z
    go_upto_region 6 with fail
    obtain ⟨W3, hW3⟩ : ∃ X, X = ((w3.alloc (.cells #[.slice r5.a r5.n r5.c, .int .i64 L.many, .int .i64 L.synced] 29)).alloc (.cells #[.slice s6.a s6.n s6.c, .slice p6.a p6.n p6.c, .int .i64 D.left, .bool D.stopped] 25)) := ⟨_, rfl⟩
    rw [← hW3]
    have hb_W3 : Below w3.heap.size w3 W3 := by rw [hW3]; exact ((Below.refl _ _).alloc (by (try simp) <;> omega) _).alloc (by (try simp) <;> omega) _
    have N_X5 : Box3 W3 (w3.heap.size) (.slice r5.a r5.n r5.c) (.int .i64 L.many) (.int .i64 L.synced) := by rw [hW3]; exact (Box3.at_ _ (.slice r5.a r5.n r5.c) (.int .i64 L.many) (.int .i64 L.synced) _ _ (by simp)).step ((Below.refl _ _).alloc (Nat.le_refl _) _)
    have N_X6 : Box4 W3 (w3.heap.size + 1) (.slice s6.a s6.n s6.c) (.slice p6.a p6.n p6.c) (.int .i64 D.left) (.bool D.stopped) := by rw [hW3]; exact (Box4.at_ _ (.slice s6.a s6.n s6.c) (.slice p6.a p6.n p6.c) (.int .i64 D.left) (.bool D.stopped) _ _ (by simp))
    clear hW3
    have S_W3 : Below w3.heap.size w3 W3 := (Below.refl _ w3).trans (hb_W3.mono (by (try simp) <;> omega))
    have ba := Lib.hid (ba.out.trans (S_W3.mono ba.out.size))
    have HL := Lib.hid (HL.out.step S_W3)
    have HD := Lib.hid (HD.out.step S_W3)
    have X2 := Lib.hid (X2.out.step S_W3)
    have X3 := Lib.hid (X3.out.step S_W3)
    have HR5 := Lib.hid (HR5.out.step S_W3)
    have HD6 := Lib.hid (HD6.out.step S_W3)
    have z_W3 := S_W3.size
    have X5 := Lib.hid (N_X5)
    clear N_X5
    have X6 := Lib.hid (N_X6)
    clear N_X6
    obtain ⟨X2_0, X2_1, X2_2, X2_f0, X2_f1, X2_f2, X2_z⟩ := X2.out
    obtain ⟨X3_0, X3_1, X3_2, X3_3, X3_f0, X3_f1, X3_f2, X3_f3, X3_z⟩ := X3.out
    go_wp2_with fail
    refine (HRO.out _ HL.out HD.out).mono ?_
    rintro e w4 ⟨⟨r8, s9, p9, rfl, hr8, hd9⟩, hb_w4⟩
    have S_w4 : Below W3.heap.size W3 w4 := (Below.refl _ W3).trans (hb_w4.mono (by (try simp) <;> omega))
    have ba := Lib.hid (ba.out.trans (S_w4.mono ba.out.size))
    have HL := Lib.hid (HL.out.step S_w4)
    have HD := Lib.hid (HD.out.step S_w4)
    have X2 := Lib.hid (X2.out.step S_w4)
    have X3 := Lib.hid (X3.out.step S_w4)
    have HR5 := Lib.hid (HR5.out.step S_w4)
    have HD6 := Lib.hid (HD6.out.step S_w4)
    have X5 := Lib.hid (X5.out.step S_w4)
    have X6 := Lib.hid (X6.out.step S_w4)
    have z_w4 := S_w4.size
    have HR8 := Lib.hid (hr8)
    have HD9 := Lib.hid (hd9)
    clear hr8 hd9
    clear X2_0 X2_1 X2_2 X2_f0 X2_f1 X2_f2 X2_z
    clear X3_0 X3_1 X3_2 X3_3 X3_f0 X3_f1 X3_f2 X3_f3 X3_z
    go_upto_region 7 with fail
    obtain ⟨W4, hW4⟩ : ∃ X, X = ((w4.alloc (.cells #[.slice r8.a r8.n r8.c, .int .i64 L.many, .int .i64 L.synced] 29)).alloc (.cells #[.slice s9.a s9.n s9.c, .slice p9.a p9.n p9.c, .int .i64 D.left, .bool D.stopped] 25)) := ⟨_, rfl⟩
    rw [← hW4]
    have hb_W4 : Below w4.heap.size w4 W4 := by rw [hW4]; exact ((Below.refl _ _).alloc (by (try simp) <;> omega) _).alloc (by (try simp) <;> omega) _
    have N_X8 : Box3 W4 (w4.heap.size) (.slice r8.a r8.n r8.c) (.int .i64 L.many) (.int .i64 L.synced) := by rw [hW4]; exact (Box3.at_ _ (.slice r8.a r8.n r8.c) (.int .i64 L.many) (.int .i64 L.synced) _ _ (by simp)).step ((Below.refl _ _).alloc (Nat.le_refl _) _)
    have N_X9 : Box4 W4 (w4.heap.size + 1) (.slice s9.a s9.n s9.c) (.slice p9.a p9.n p9.c) (.int .i64 D.left) (.bool D.stopped) := by rw [hW4]; exact (Box4.at_ _ (.slice s9.a s9.n s9.c) (.slice p9.a p9.n p9.c) (.int .i64 D.left) (.bool D.stopped) _ _ (by simp))
    clear hW4
    have S_W4 : Below w4.heap.size w4 W4 := (Below.refl _ w4).trans (hb_W4.mono (by (try simp) <;> omega))
    have ba := Lib.hid (ba.out.trans (S_W4.mono ba.out.size))
    have HL := Lib.hid (HL.out.step S_W4)
    have HD := Lib.hid (HD.out.step S_W4)
    have X2 := Lib.hid (X2.out.step S_W4)
    have X3 := Lib.hid (X3.out.step S_W4)
    have HR5 := Lib.hid (HR5.out.step S_W4)
    have HD6 := Lib.hid (HD6.out.step S_W4)
    have X5 := Lib.hid (X5.out.step S_W4)
    have X6 := Lib.hid (X6.out.step S_W4)
    have HR8 := Lib.hid (HR8.out.step S_W4)
    have HD9 := Lib.hid (HD9.out.step S_W4)
    have z_W4 := S_W4.size
    have X8 := Lib.hid (N_X8)
    clear N_X8
    have X9 := Lib.hid (N_X9)
    clear N_X9
    obtain ⟨X5_0, X5_1, X5_2, X5_f0, X5_f1, X5_f2, X5_z⟩ := X5.out
    obtain ⟨X8_0, X8_1, X8_2, X8_f0, X8_f1, X8_f2, X8_z⟩ := X8.out
    go_wp2_with fail
    refine (JSame_any (P := everyB) (Q := everyB) L L r5 r8 _ HR5.out HR8.out).mono ?_
    rw [sameJ_self]
    rintro e w5 ⟨rfl, hb_w5⟩
    have S_w5 : Below W4.heap.size W4 w5 := (Below.refl _ W4).trans (hb_w5.mono (by (try simp) <;> omega))
    have ba := Lib.hid (ba.out.trans (S_w5.mono ba.out.size))
    have HL := Lib.hid (HL.out.step S_w5)
    have HD := Lib.hid (HD.out.step S_w5)
    have X2 := Lib.hid (X2.out.step S_w5)
    have X3 := Lib.hid (X3.out.step S_w5)
    have HR5 := Lib.hid (HR5.out.step S_w5)
    have HD6 := Lib.hid (HD6.out.step S_w5)
    have X5 := Lib.hid (X5.out.step S_w5)
    have X6 := Lib.hid (X6.out.step S_w5)
    have HR8 := Lib.hid (HR8.out.step S_w5)
    have HD9 := Lib.hid (HD9.out.step S_w5)
    have X8 := Lib.hid (X8.out.step S_w5)
    have X9 := Lib.hid (X9.out.step S_w5)
    have z_w5 := S_w5.size
    clear X5_0 X5_1 X5_2 X5_f0 X5_f1 X5_f2 X5_z
    clear X8_0 X8_1 X8_2 X8_f0 X8_f1 X8_f2 X8_z
    obtain ⟨X6_0, X6_1, X6_2, X6_3, X6_f0, X6_f1, X6_f2, X6_f3, X6_z⟩ := X6.out
    obtain ⟨X9_0, X9_1, X9_2, X9_3, X9_f0, X9_f1, X9_f2, X9_f3, X9_z⟩ := X9.out
    go_wp2_with fail
    refine (Same_any (P := everyB) (Q := everyB) D s6 p6 s9 p9 _ HD6.out HD9.out).mono ?_
    rintro e w6 ⟨rfl, hb_w6⟩
    have S_w6 : Below w5.heap.size w5 w6 := (Below.refl _ w5).trans (hb_w6.mono (by (try simp) <;> omega))
    have ba := Lib.hid (ba.out.trans (S_w6.mono ba.out.size))
    have HL := Lib.hid (HL.out.step S_w6)
    have HD := Lib.hid (HD.out.step S_w6)
    have X2 := Lib.hid (X2.out.step S_w6)
    have X3 := Lib.hid (X3.out.step S_w6)
    have HR5 := Lib.hid (HR5.out.step S_w6)
    have HD6 := Lib.hid (HD6.out.step S_w6)
    have X5 := Lib.hid (X5.out.step S_w6)
    have X6 := Lib.hid (X6.out.step S_w6)
    have HR8 := Lib.hid (HR8.out.step S_w6)
    have HD9 := Lib.hid (HD9.out.step S_w6)
    have X8 := Lib.hid (X8.out.step S_w6)
    have X9 := Lib.hid (X9.out.step S_w6)
    have z_w6 := S_w6.size
    clear X6_0 X6_1 X6_2 X6_3 X6_f0 X6_f1 X6_f2 X6_f3 X6_z
    clear X9_0 X9_1 X9_2 X9_3 X9_f0 X9_f1 X9_f2 X9_f3 X9_z
    go_wp2_with fail
    go_ret
    exact ⟨rfl, ba.out⟩

theorem JournalSyncSpec_any {w : World} (y : Sl × Jl) (hy : Se w everyB y.1 y.2.recs) (x : Sl × Sl × Dk) (hx : Di w everyB x.1 x.2.1 x.2.2) :
    Calls Try.prog 5 #[jlV y.1 y.2, dkV x.1 x.2.1 x.2.2] w fun e w' => e = .returned (.bool true) ∧ Below w.heap.size w w' :=
  SyncSpec_walk y.1 x.1 x.2.1 y.2 x.2.2 w hy hx
end Go.Proofs.Ytgbkhmoplocmkaa
