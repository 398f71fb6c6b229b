/- JournalAppendSpec (printed by gen_jouL1.py) -/
import Derived.Test.YtgbkhmoplocmkaaJouT
import Derived.Test.YtgbkhmoplocmkaaJouL
import Derived.Test.YtgbkhmoplocmkaaJouK
import Derived.BigQuiet
namespace Go.Proofs.Ytgbkhmoplocmkaa
open Go.RowKit Go.Shelf
set_option linter.unusedSimpArgs false
set_option linter.unusedVariables false
set_option maxRecDepth 20000

set_option maxRecDepth 100000 in
set_option maxHeartbeats 8000000 in
theorem AppendSpec_walk (sv bv : Sl) (l : Jl) (b : List Int) (w : World) (hl : Se w everyB sv l.recs) (hb : By w everyB bv b) (hrl : (l.recs.length + 1) * 24 ≤ 140737488355328) :
    Calls Try.prog 4 #[jlV sv l, .slice bv.a bv.n bv.c] w fun e w' => e = .returned (.bool true) ∧ Below w.heap.size w w' := by
  obtain ⟨bf, hbf⟩ : ∃ bf, bf = fewB Dk.zero l.recs := ⟨_, rfl⟩
  have HBF := Lib.hid hbf
  clear hbf
  obtain ⟨L, hL⟩ : ∃ L, L = (appendJ l b).1 := ⟨_, rfl⟩
  obtain ⟨E, hE⟩ : ∃ E, E = (appendJ l b).2 := ⟨_, rfl⟩
  obtain ⟨BA, bn, BC⟩ := bv
  obtain rfl : bn = b.length := hb.1.1
  obtain ⟨LN, hLN⟩ : ∃ n, n = b.length := ⟨_, rfl⟩
  have hble := hb.le
  have HO : Hid (b.length ≤ 70000 → ∀ W, Se W everyB sv l.recs → By W everyB ⟨BA, b.length, BC⟩ b → Calls Try.prog 15 #[.agg #[.slice sv.a sv.n sv.c, .int .i64 l.many, .int .i64 l.synced], .slice BA b.length BC] W fun e w' => (∃ r : Sl, e = .returned (.tuple #[.agg #[.slice r.a r.n r.c, .int .i64 L.many, .int .i64 L.synced], .int .i64 E]) ∧ Se w' everyB r L.recs) ∧ Below W.heap.size W w') := Lib.hid (fun h7 W h h2 => by
    rw [hL, hE]
    refine (JAppend_any l sv ⟨BA, b.length, BC⟩ b W h h2 hrl (fun _ => by omega)).mono ?_
    rintro e w' ⟨⟨r, rfl, h⟩, hb⟩
    exact ⟨⟨r, rfl, h.mono (fun _ _ => trivial)⟩, hb⟩)
  have HRO : Hid (b.length ≤ 70000 → ∀ W, Se W everyB sv l.recs → By W everyB ⟨BA, b.length, BC⟩ b → Calls Try.prog 16 #[.agg #[.slice sv.a sv.n sv.c, .int .i64 l.many, .int .i64 l.synced], .slice BA b.length BC] W fun e w' => (∃ r : Sl, e = .returned (.tuple #[.agg #[.slice r.a r.n r.c, .int .i64 L.many, .int .i64 L.synced], .int .i64 E]) ∧ Se w' everyB r L.recs) ∧ Below W.heap.size W w') := Lib.hid (fun h7 W h h2 => by
    rw [hL, hE]
    refine (RJAppend_any l sv ⟨BA, b.length, BC⟩ b W h h2 hrl (fun _ => by omega)).mono ?_
    rintro e w' ⟨⟨r, rfl, h⟩, hb⟩
    exact ⟨⟨r, rfl, h.mono (fun _ _ => trivial)⟩, hb⟩)
  have HRL := Lib.hid hrl
  clear hL hE hrl
  have hways : (decide ((70000 : Int) < (b.length : Int)) = true ∧ decide (70000 < b.length) = true) ∨ (decide ((70000 : Int) < (b.length : Int)) = false ∧ decide (70000 < b.length) = false ∧ Hid (b.length ≤ 70000)) := by
    by_cases h : b.length ≤ 70000
    · exact .inr ⟨decide_eq_false (by omega), decide_eq_false (by omega), Lib.hid h⟩
    · exact .inl ⟨decide_eq_true (by omega), decide_eq_true (by omega)⟩
  clear hLN LN hble
  unfold jlV
  go_enter Try.func4, Try.ntmps4
  have ba : Hid (Below w.heap.size w w) := Lib.hid (Below.refl _ _)
  have HL := Lib.hid (hl)
  have HB := Lib.hid (hb)
  clear hl hb
  go_upto_region 1 with fail
  obtain ⟨W0, hW0⟩ : ∃ X, X = (w.alloc (.cells #[.slice sv.a sv.n sv.c, .int .i64 l.many, .int .i64 l.synced] 29)) := ⟨_, rfl⟩
  rw [← hW0]
  have hb_W0 : Below w.heap.size w W0 := by rw [hW0]; exact (Below.refl _ _).alloc (by (try simp) <;> omega) _
  have N_X2 : Box3 W0 (w.heap.size) (.slice sv.a sv.n sv.c) (.int .i64 l.many) (.int .i64 l.synced) := by rw [hW0]; exact (Box3.at_ _ (.slice sv.a sv.n sv.c) (.int .i64 l.many) (.int .i64 l.synced) _ _ (by simp))
  clear hW0
  have S_W0 : Below w.heap.size w W0 := (Below.refl _ w).trans (hb_W0.mono (by (try simp) <;> omega))
  have ba := Lib.hid (ba.out.trans (S_W0.mono ba.out.size))
  have HL := Lib.hid (HL.out.step S_W0)
  have HB := Lib.hid (HB.out.step S_W0)
  have z_W0 := S_W0.size
  have X2 := Lib.hid (N_X2)
  clear N_X2
  go_wp2_with fail
  refine (sane_any _).mono ?_
  rintro e w1 ⟨rfl, hb_w1⟩
  have S_w1 : Below W0.heap.size W0 w1 := (Below.refl _ W0).trans (hb_w1.mono (by (try simp) <;> omega))
  have ba := Lib.hid (ba.out.trans (S_w1.mono ba.out.size))
  have HL := Lib.hid (HL.out.step S_w1)
  have HB := Lib.hid (HB.out.step S_w1)
  have X2 := Lib.hid (X2.out.step S_w1)
  have z_w1 := S_w1.size
  obtain ⟨X2_0, X2_1, X2_2, X2_f0, X2_f1, X2_f2, X2_z⟩ := X2.out
  go_wp2_with fail
  refine (few_any (P := everyB) (Q := everyB) Dk.zero ⟨none, 0, 0⟩ ⟨none, 0, 0⟩ sv l.recs _ (Di.zero _ _) HL.out).mono ?_
  rw [← HBF.out]
  rintro e w2 ⟨rfl, hb_w2⟩
  have S_w2 : Below w1.heap.size w1 w2 := (Below.refl _ w1).trans (hb_w2.mono (by (try simp) <;> omega))
  have ba := Lib.hid (ba.out.trans (S_w2.mono ba.out.size))
  have HL := Lib.hid (HL.out.step S_w2)
  have HB := Lib.hid (HB.out.step S_w2)
  have X2 := Lib.hid (X2.out.step S_w2)
  have z_w2 := S_w2.size
  clear X2_0 X2_1 X2_2 X2_f0 X2_f1 X2_f2 X2_z
  obtain ⟨X2_0, X2_1, X2_2, X2_f0, X2_f1, X2_f2, X2_z⟩ := X2.out
  cases bf
  · go_wp2_with fail
    go_ret
    exact ⟨rfl, ba.out⟩
  · rcases hways with ⟨t1, t2⟩ | ⟨t1, t2, H7⟩
    · go_wp2_with fail
      go_ret
      exact ⟨rfl, ba.out⟩
    · go_wp2_with fail
      refine (HO.out H7.out _ HL.out HB.out).mono ?_
      rintro e w3 ⟨⟨r3, rfl, hr3⟩, hb_w3⟩
      have S_w3 : Below w2.heap.size w2 w3 := (Below.refl _ w2).trans (hb_w3.mono (by (try simp) <;> omega))
      have ba := Lib.hid (ba.out.trans (S_w3.mono ba.out.size))
      have HL := Lib.hid (HL.out.step S_w3)
      have HB := Lib.hid (HB.out.step S_w3)
      have X2 := Lib.hid (X2.out.step S_w3)
      have z_w3 := S_w3.size
      have HR3 := Lib.hid (hr3)
      clear hr3
      clear X2_0 X2_1 X2_2 X2_f0 X2_f1 X2_f2 X2_z
      go_upto_region 6 with fail
      obtain ⟨W3, hW3⟩ : ∃ X, X = (w3.alloc (.cells #[.slice r3.a r3.n r3.c, .int .i64 L.many, .int .i64 L.synced] 29)) := ⟨_, rfl⟩
      rw [← hW3]
      have hb_W3 : Below w3.heap.size w3 W3 := by rw [hW3]; exact (Below.refl _ _).alloc (by (try simp) <;> omega) _
      have N_X5 : Box3 W3 (w3.heap.size) (.slice r3.a r3.n r3.c) (.int .i64 L.many) (.int .i64 L.synced) := by rw [hW3]; exact (Box3.at_ _ (.slice r3.a r3.n r3.c) (.int .i64 L.many) (.int .i64 L.synced) _ _ (by simp))
      clear hW3
      have S_W3 : Below w3.heap.size w3 W3 := (Below.refl _ w3).trans (hb_W3.mono (by (try simp) <;> omega))
      have ba := Lib.hid (ba.out.trans (S_W3.mono ba.out.size))
      have HL := Lib.hid (HL.out.step S_W3)
      have HB := Lib.hid (HB.out.step S_W3)
      have X2 := Lib.hid (X2.out.step S_W3)
      have HR3 := Lib.hid (HR3.out.step S_W3)
      have z_W3 := S_W3.size
      have X5 := Lib.hid (N_X5)
      clear N_X5
      obtain ⟨X2_0, X2_1, X2_2, X2_f0, X2_f1, X2_f2, X2_z⟩ := X2.out
      go_wp2_with fail
      refine (HRO.out H7.out _ HL.out HB.out).mono ?_
      rintro e w4 ⟨⟨r5, rfl, hr5⟩, hb_w4⟩
      have S_w4 : Below W3.heap.size W3 w4 := (Below.refl _ W3).trans (hb_w4.mono (by (try simp) <;> omega))
      have ba := Lib.hid (ba.out.trans (S_w4.mono ba.out.size))
      have HL := Lib.hid (HL.out.step S_w4)
      have HB := Lib.hid (HB.out.step S_w4)
      have X2 := Lib.hid (X2.out.step S_w4)
      have HR3 := Lib.hid (HR3.out.step S_w4)
      have X5 := Lib.hid (X5.out.step S_w4)
      have z_w4 := S_w4.size
      have HR5 := Lib.hid (hr5)
      clear hr5
      clear X2_0 X2_1 X2_2 X2_f0 X2_f1 X2_f2 X2_z
      go_upto_region 7 with fail
      obtain ⟨W4, hW4⟩ : ∃ X, X = (w4.alloc (.cells #[.slice r5.a r5.n r5.c, .int .i64 L.many, .int .i64 L.synced] 29)) := ⟨_, rfl⟩
      rw [← hW4]
      have hb_W4 : Below w4.heap.size w4 W4 := by rw [hW4]; exact (Below.refl _ _).alloc (by (try simp) <;> omega) _
      have N_X7 : Box3 W4 (w4.heap.size) (.slice r5.a r5.n r5.c) (.int .i64 L.many) (.int .i64 L.synced) := by rw [hW4]; exact (Box3.at_ _ (.slice r5.a r5.n r5.c) (.int .i64 L.many) (.int .i64 L.synced) _ _ (by simp))
      clear hW4
      have S_W4 : Below w4.heap.size w4 W4 := (Below.refl _ w4).trans (hb_W4.mono (by (try simp) <;> omega))
      have ba := Lib.hid (ba.out.trans (S_W4.mono ba.out.size))
      have HL := Lib.hid (HL.out.step S_W4)
      have HB := Lib.hid (HB.out.step S_W4)
      have X2 := Lib.hid (X2.out.step S_W4)
      have HR3 := Lib.hid (HR3.out.step S_W4)
      have X5 := Lib.hid (X5.out.step S_W4)
      have HR5 := Lib.hid (HR5.out.step S_W4)
      have z_W4 := S_W4.size
      have X7 := Lib.hid (N_X7)
      clear N_X7
      obtain ⟨X2_0, X2_1, X2_2, X2_f0, X2_f1, X2_f2, X2_z⟩ := X2.out
      obtain ⟨X5_0, X5_1, X5_2, X5_f0, X5_f1, X5_f2, X5_z⟩ := X5.out
      obtain ⟨X7_0, X7_1, X7_2, X7_f0, X7_f1, X7_f2, X7_z⟩ := X7.out
      obtain ⟨ck, hck⟩ : ∃ x, x = checkJ l := ⟨_, rfl⟩
      obtain ⟨rm, hrm⟩ : ∃ x, x = roomJ l := ⟨_, rfl⟩
      have S1 : Hid (∀ W, Below W4.heap.size W4 W → Calls Try.prog 17 #[.agg #[.slice sv.a sv.n sv.c, .int .i64 l.many, .int .i64 l.synced]] W fun e w' => e = .returned (.int .i64 ck) ∧ Below W4.heap.size W4 w') := Lib.hid (fun W h => (hck ▸ JCheck_any (P := everyB) l sv W (HL.out.step h)).mono (fun e w' k => ⟨k.1, h.trans (k.2.mono h.size)⟩))
      have S2 : Hid (∀ W, Below W4.heap.size W4 W → Calls Try.prog 18 #[.agg #[.slice sv.a sv.n sv.c, .int .i64 l.many, .int .i64 l.synced]] W fun e w' => e = .returned (.int .i64 ck) ∧ Below W4.heap.size W4 w') := Lib.hid (fun W h => (hck ▸ RJCheck_any (P := everyB) l sv W (HL.out.step h)).mono (fun e w' k => ⟨k.1, h.trans (k.2.mono h.size)⟩))
      have S3 : Hid (∀ W, Below W4.heap.size W4 W → Calls Try.prog 19 #[.agg #[.slice sv.a sv.n sv.c, .int .i64 l.many, .int .i64 l.synced]] W fun e w' => e = .returned (.int .i64 rm) ∧ Below W4.heap.size W4 w') := Lib.hid (fun W h => (hrm ▸ JRoom_any (P := everyB) l sv W (HL.out.step h)).mono (fun e w' k => ⟨k.1, h.trans (k.2.mono h.size)⟩))
      have S4 : Hid (∀ W, Below W4.heap.size W4 W → Calls Try.prog 20 #[.agg #[.slice sv.a sv.n sv.c, .int .i64 l.many, .int .i64 l.synced]] W fun e w' => e = .returned (.int .i64 rm) ∧ Below W4.heap.size W4 w') := Lib.hid (fun W h => (hrm ▸ RJRoom_any (P := everyB) l sv W (HL.out.step h)).mono (fun e w' k => ⟨k.1, h.trans (k.2.mono h.size)⟩))
      have S5 : Hid (∀ W, Below W4.heap.size W4 W → Calls Try.prog 14 #[.agg #[.slice r3.a r3.n r3.c, .int .i64 L.many, .int .i64 L.synced], .agg #[.slice r5.a r5.n r5.c, .int .i64 L.many, .int .i64 L.synced]] W fun e w' => e = .returned (.bool true) ∧ Below W4.heap.size W4 w') := Lib.hid (fun W h => ((sameJ_self L) ▸ JSame_any (P := everyB) (Q := everyB) L L r3 r5 W (HR3.out.step h) (HR5.out.step h)).mono (fun e w' k => ⟨k.1, h.trans (k.2.mono h.size)⟩))
      clear hck hrm
      refine wp_region_below (by kernel_rfl) (by kernel_rfl) ?_
      repeat (first
        | go_big_quiet_skip
        | (go_big_quiet_want
           first
             | (apply quiet_val
                focus (
                  intro WC hWC
                  obtain ⟨hcc0, hff0⟩ := bcell hWC
                  go_simp
                  all_goals rfl
                  done)
                go_simp
                go_big_quiet_on)
             | (apply quiet_call
                focus (
                  intro WC hWC
                  go_simp
                  all_goals (first | rfl | exact ⟨rfl, rfl⟩)
                  done)
                focus (
                  intro WC hWC
                  with_reducible exact S1.out WC hWC
                  done)
                go_simp
                go_big_quiet_on)
             | (apply quiet_call
                focus (
                  intro WC hWC
                  go_simp
                  all_goals (first | rfl | exact ⟨rfl, rfl⟩)
                  done)
                focus (
                  intro WC hWC
                  with_reducible exact S2.out WC hWC
                  done)
                go_simp
                go_big_quiet_on)
             | (apply quiet_call
                focus (
                  intro WC hWC
                  go_simp
                  all_goals (first | rfl | exact ⟨rfl, rfl⟩)
                  done)
                focus (
                  intro WC hWC
                  with_reducible exact S3.out WC hWC
                  done)
                go_simp
                go_big_quiet_on)
             | (apply quiet_call
                focus (
                  intro WC hWC
                  go_simp
                  all_goals (first | rfl | exact ⟨rfl, rfl⟩)
                  done)
                focus (
                  intro WC hWC
                  with_reducible exact S4.out WC hWC
                  done)
                go_simp
                go_big_quiet_on)
             | (apply quiet_call
                focus (
                  intro WC hWC
                  go_simp
                  all_goals (first | rfl | exact ⟨rfl, rfl⟩)
                  done)
                focus (
                  intro WC hWC
                  with_reducible exact S5.out WC hWC
                  done)
                go_simp
                go_big_quiet_on)))
      refine wpQuiet_nil ?_
      intro W6 hW6
      go_wp2_with fail
      go_ret
      exact ⟨rfl, ba.out.trans (hW6.mono ba.out.size)⟩

theorem JournalAppendSpec_any {w : World} (x : Sl × Jl) (hx : Se w everyB x.1 x.2.recs) (hn : x.2.recs.length * 24 ≤ reachBytes) (y : Sl × List Int) (hy : By w everyB y.1 y.2) :
    Calls Try.prog 4 #[jlV x.1 x.2, .slice y.1.a y.1.n y.1.c] w fun e w' => e = .returned (.bool true) ∧ Below w.heap.size w w' :=
  AppendSpec_walk x.1 y.1 x.2 y.2 w hx hy (by simp only [reachBytes] at hn; omega)
end Go.Proofs.Ytgbkhmoplocmkaa
