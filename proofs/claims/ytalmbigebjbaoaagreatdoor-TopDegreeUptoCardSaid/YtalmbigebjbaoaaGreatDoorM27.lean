/- TopDegree, what its proof leans on: the texts TopG. -/
import Derived.Test.YtalmbigebjbaoaaGreatDoorM26
namespace Go.Proofs.YtalmbigebjbaoaaGreatDoor
open Go.RowKit Go.Shelf
set_option linter.unusedSimpArgs false
set_option linter.unusedVariables false
attribute [local go_sem] Oper.semAt_some
theorem ruWithin_any (n lo hi : Int) (w : World) :
 Calls Tryz.prog 179 #[.int .i64 n, .int .i64 lo, .int .i64 hi] w fun e w' => e = .returned (.bool (inB n lo hi)) ∧ w = w' := by
 go_enter Tryz.func179, Tryz.ntmps179
 go_wp2
 all_goals go_ret
 all_goals refine ⟨ret_bool ?_, rfl⟩
 all_goals (unfold inB; simp_all <;> omega)
theorem ruCourse_any (r : RT) (w : World) :
 Calls Tryz.prog 205 #[r.v] w fun e w' => e = .returned (.bool (inB r.course 0 4095)) ∧ Below w.heap.size w w' := by
 obtain ⟨op, co, nm, n, d, ks, s⟩ := r
 simp only [RT.v, RT.course]
 go_enter Tryz.func205, Tryz.ntmps205
 go_wp2_with fail
 refine (ruWithin_any _ _ _ _).mono ?_
 rintro e w1 ⟨rfl, rfl⟩
 go_wp2_with fail
 go_ret
 exact ⟨rfl, by go_grown⟩
def rmeanB (r : Ra) : Bool := okR' r && (decide (0 ≤ r.num) && decide (r.num ≤ 12 * r.den))
set_option maxHeartbeats 2000000 in
theorem ruMean_any (r : Ra) (hi : r.i64) (w : World) :
 Calls Tryz.prog 213 #[.agg #[.int .i64 r.num, .int .i64 r.den]] w fun e w' => e = .returned (.bool (rmeanB r)) ∧ Below w.heap.size w w' := by
 have HC := Lib.hid (fun W => Check_any r hi W)
 have hden : okR' r = true → 1 ≤ r.den ∧ r.den ≤ 1073741824 := fun h => by
  have := checkR_zero (of_decide_eq_true h)
  exact ⟨this.1, this.2.1⟩
 obtain ⟨E, hE⟩ : ∃ E, E = rmeanB r := ⟨_, rfl⟩
 rw [← hE]
 simp only [Ra.v] at HC
 clear hi
 have HB0 : Hid (Below w.heap.size w (w.alloc (.cells #[.int .i64 r.num, .int .i64 r.den] 41))) := Lib.hid ((Below.refl _ _).alloc (Nat.le_refl _) _)
 have HX0 := Lib.hid (Bx.new w [.int .i64 r.num, .int .i64 r.den] 41)
 cases b4 : okR' r
 ·obtain rfl : E = false := by rw [hE]; simp [rmeanB, b4]
  have B4 : Hid (checkR r = 50) := Lib.hid (by unfold okR' at b4; have := of_decide_eq_false b4; unfold checkR at this ⊢; split <;> simp_all)
  clear hE b4 hden
  go_enter Tryz.func213, Tryz.ntmps213
  go_wp2_with fail
  refine (HC.out _).mono ?_
  rw [B4.out]
  rintro e w2 ⟨rfl, hb2⟩
  have HBE := Lib.hid (HB0.out.trans (hb2.mono (by simp)))
  clear hb2
  go_wp2_with fail
  go_ret
  exact ⟨rfl, HBE.out⟩
 ·have B4 : Hid (checkR r = 0) := Lib.hid (of_decide_eq_true b4)
  obtain ⟨hd1, hd2⟩ := hden b4
  have hw : wrap64 (12 * r.den) = 12 * r.den := IntWalk.wrap64_in _ ⟨by omega, by omega⟩
  have HE : Hid (E = (decide (0 ≤ r.num) && decide (r.num ≤ 12 * r.den))) := Lib.hid (by rw [hE]; simp [rmeanB, b4])
  clear hE b4 hden
  cases t1 : decide (0 ≤ r.num)
  ·obtain rfl : E = false := by rw [HE.out, t1]; rfl
   go_enter Tryz.func213, Tryz.ntmps213
   go_wp2_with fail
   refine (HC.out _).mono ?_
   rw [B4.out]
   rintro e w2 ⟨rfl, hb2⟩
   obtain ⟨x0, x1, x2⟩ := HX0.out.step hb2
   have p0 := x0 0 _ rfl
   have HBE := Lib.hid (HB0.out.trans (hb2.mono (by simp)))
   clear hb2 x0
   go_wp2_with fail
   go_ret
   exact ⟨rfl, HBE.out⟩
  cases t2 : decide (r.num ≤ 12 * r.den)
  all_goals
   obtain ⟨F, hF⟩ : ∃ F, F = E := ⟨_, rfl⟩
   rw [HE.out, t1, t2] at hF
   simp only [Bool.true_and] at hF
   obtain rfl : E = F := by rw [hF, HE.out, t1, t2]; rfl
   go_enter Tryz.func213, Tryz.ntmps213
   go_wp2_with fail
   refine (HC.out _).mono ?_
   rw [B4.out]
   rintro e w2 ⟨rfl, hb2⟩
   obtain ⟨x0, x1, x2⟩ := HX0.out.step hb2
   have p0 := x0 0 _ rfl
   have p1 := x0 1 _ rfl
   have HBE := Lib.hid (HB0.out.trans (hb2.mono (by simp)))
   clear hb2 x0
   go_wp2_with fail
   go_ret
   exact ⟨by rw [hF]; rfl, HBE.out⟩
def rightF (r : RT) : Bool :=
 if r.op = 1 then true else if r.op = 2 then true else if r.op = 3 then inB r.n 0 200 else if r.op = 4 then r.kids.length == 1
 else if r.op = 5 then inB r.course 0 4095 && inB r.n 0 12 else if r.op = 6 then inB r.course 0 4095 && inB r.n 1 100
 else if r.op = 7 then inB r.n 0 10000 else if r.op = 8 then rmeanB ⟨r.n, r.d⟩ else inB r.course 0 4095
theorem ruK1_any (r : RT) (w : World) :
 Calls Tryz.prog 196 #[r.v] w fun e w' => e = .returned (.bool true) ∧ Below w.heap.size w w' := by
 obtain ⟨op, co, nm, n, d, ks, s⟩ := r
 simp only [RT.v]
 go_enter Tryz.func196, Tryz.ntmps196
 go_wp2_with fail
 go_ret
 exact ⟨rfl, by go_grown⟩
theorem ruK2_any (r : RT) (w : World) :
 Calls Tryz.prog 198 #[r.v] w fun e w' => e = .returned (.bool true) ∧ Below w.heap.size w w' := by
 obtain ⟨op, co, nm, n, d, ks, s⟩ := r
 simp only [RT.v]
 go_enter Tryz.func198, Tryz.ntmps198
 go_wp2_with fail
 go_ret
 exact ⟨rfl, by go_grown⟩
theorem ruK3_any (r : RT) (w : World) :
 Calls Tryz.prog 200 #[r.v] w fun e w' => e = .returned (.bool (inB r.n 0 200)) ∧ Below w.heap.size w w' := by
 obtain ⟨op, co, nm, n, d, ks, s⟩ := r
 simp only [RT.v, RT.n]
 go_enter Tryz.func200, Tryz.ntmps200
 go_wp2_with fail
 refine (ruWithin_any _ _ _ _).mono ?_
 rintro e w1 ⟨rfl, rfl⟩
 go_wp2_with fail
 go_ret
 exact ⟨rfl, by go_grown⟩
theorem ruK7_any (r : RT) (w : World) :
 Calls Tryz.prog 210 #[r.v] w fun e w' => e = .returned (.bool (inB r.n 0 10000)) ∧ Below w.heap.size w w' := by
 obtain ⟨op, co, nm, n, d, ks, s⟩ := r
 simp only [RT.v, RT.n]
 go_enter Tryz.func210, Tryz.ntmps210
 go_wp2_with fail
 refine (ruWithin_any _ _ _ _).mono ?_
 rintro e w1 ⟨rfl, rfl⟩
 go_wp2_with fail
 go_ret
 exact ⟨rfl, by go_grown⟩
theorem ruK4_any (r : RT) (w : World) (hs : r.s.n = r.kids.length) :
 Calls Tryz.prog 202 #[r.v] w fun e w' => e = .returned (.bool (r.kids.length == 1)) ∧ Below w.heap.size w w' := by
 obtain ⟨op, co, nm, n, d, ks, ⟨sa, sn, sc⟩⟩ := r
 simp only [RT.s, RT.kids] at hs
 subst hs
 simp only [RT.v, RT.kids]
 go_enter Tryz.func202, Tryz.ntmps202
 go_wp2_with fail
 go_ret
 exact ⟨ret_bool (by rw [Bool.eq_iff_iff]; simp; omega), by go_grown⟩
theorem ruK5_any (r : RT) (w : World) :
 Calls Tryz.prog 204 #[r.v] w fun e w' => e = .returned (.bool (inB r.course 0 4095 && inB r.n 0 12)) ∧ Below w.heap.size w w' := by
 have HC := Lib.hid (fun W => ruCourse_any r W)
 have HB0 : Hid (Below w.heap.size w (w.alloc (.cells r.enc.toArray 121))) := Lib.hid ((Below.refl _ _).alloc (Nat.le_refl _) _)
 have HX0 := Lib.hid (Bx.new w r.enc 121)
 obtain ⟨op, co, nm, n, d, ks, s⟩ := r
 simp only [RT.v, RT.n, RT.course, RT.enc] at *
 cases t1 : inB co 0 4095
 all_goals
  rw [t1] at HC
  go_enter Tryz.func204, Tryz.ntmps204
  go_wp2_with fail
  refine (HC.out _).mono ?_
  rintro e w1 ⟨rfl, hb1⟩
  have HB1 := Lib.hid (HB0.out.trans (hb1.mono HB0.out.size))
  obtain ⟨x0, x1, x2⟩ := HX0.out.step hb1
  have p3 := x0 3 _ rfl
  clear x0 hb1
  go_wp2_with fail
 ·go_ret
  exact ⟨rfl, HB1.out⟩
 ·refine (ruWithin_any _ _ _ _).mono ?_
  rintro e w1 ⟨rfl, rfl⟩
  go_wp2_with fail
  go_ret
  exact ⟨by rw [Bool.true_and]; rfl, HB1.out⟩
theorem ruK6_any (r : RT) (w : World) :
 Calls Tryz.prog 208 #[r.v] w fun e w' => e = .returned (.bool (inB r.course 0 4095 && inB r.n 1 100)) ∧ Below w.heap.size w w' := by
 have HC := Lib.hid (fun W => ruCourse_any r W)
 have HB0 : Hid (Below w.heap.size w (w.alloc (.cells r.enc.toArray 121))) := Lib.hid ((Below.refl _ _).alloc (Nat.le_refl _) _)
 have HX0 := Lib.hid (Bx.new w r.enc 121)
 obtain ⟨op, co, nm, n, d, ks, s⟩ := r
 simp only [RT.v, RT.n, RT.course, RT.enc] at *
 cases t1 : inB co 0 4095
 all_goals
  rw [t1] at HC
  go_enter Tryz.func208, Tryz.ntmps208
  go_wp2_with fail
  refine (HC.out _).mono ?_
  rintro e w1 ⟨rfl, hb1⟩
  have HB1 := Lib.hid (HB0.out.trans (hb1.mono HB0.out.size))
  obtain ⟨x0, x1, x2⟩ := HX0.out.step hb1
  have p3 := x0 3 _ rfl
  clear x0 hb1
  go_wp2_with fail
 ·go_ret
  exact ⟨rfl, HB1.out⟩
 ·refine (ruWithin_any _ _ _ _).mono ?_
  rintro e w1 ⟨rfl, rfl⟩
  go_wp2_with fail
  go_ret
  exact ⟨by rw [Bool.true_and]; rfl, HB1.out⟩
theorem ruK8_any (r : RT) (w : World) (hi : (⟨r.n, r.d⟩ : Ra).i64) :
 Calls Tryz.prog 212 #[r.v] w fun e w' => e = .returned (.bool (rmeanB ⟨r.n, r.d⟩)) ∧ Below w.heap.size w w' := by
 have HC := Lib.hid (fun W => ruMean_any ⟨r.n, r.d⟩ hi W)
 have HB0 : Hid (Below w.heap.size w (w.alloc (.cells r.enc.toArray 121))) := Lib.hid ((Below.refl _ _).alloc (Nat.le_refl _) _)
 clear hi
 obtain ⟨op, co, nm, n, d, ks, s⟩ := r
 simp only [RT.v, RT.n, RT.d, RT.enc] at *
 go_enter Tryz.func212, Tryz.ntmps212
 go_wp2_with fail
 refine (HC.out _).mono ?_
 rintro e w1 ⟨rfl, hb1⟩
 have HB1 := Lib.hid (HB0.out.trans (hb1.mono HB0.out.size))
 clear hb1
 go_wp2_with fail
 go_ret
 exact ⟨rfl, HB1.out⟩
end Go.Proofs.YtalmbigebjbaoaaGreatDoor
