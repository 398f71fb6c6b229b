/- TopDegree, what its proof leans on: the texts AvRat, Av4. -/
import Derived.Test.YtalmbigebjbaoaaGreatDoorM03
import Derived.LoopN
import Derived.Test.YtalmbigebjbaoaaGreatDoorM02
import Derived.Test.YtalmbigebjbaoaaGreatDoorM01
import Derived.Test.YtalmbigebjbaoaaGreatDoorRows
import Derived.BigQuiet
import Derived.BigRegion
import Derived.Deep.QuietTactic
import Derived.StillTailTactics
import Derived.Laws.EntriesVeiled
import Derived.Handy
import Derived.RegionTactic
namespace Go.Proofs.YtalmbigebjbaoaaGreatDoor
open Go.RowKit Go.Shelf
set_option linter.unusedSimpArgs false
set_option linter.unusedVariables false
theorem two_boxes {w w' : World} {cs ds : Array Value} {t t' : TypeId} (h : Below (w.heap.size + 2) ((w.alloc (.cells cs t)).alloc (.cells ds t')) w') :
 (∀ i, w'.cell? ⟨w.heap.size, i, none⟩ = cs[i]?) ∧ (∀ i, w'.cell? ⟨w.heap.size + 1, i, none⟩ = ds[i]?) := by
 have h1 : Below (w.heap.size + 1) (w.alloc (.cells cs t)) w' := ((Below.refl _ _).alloc (by simp) _).trans (h.mono (by omega))
 exact ⟨(below_at w.heap.size rfl h1 (by omega)).1, (below_at (w.heap.size + 1) (by simp) h (by omega)).1⟩
theorem ab_cells {w w' : World} {a b : Ra} {t t' : TypeId} (h : Below (w.heap.size + 2) ((w.alloc (.cells #[.int .i64 a.num, .int .i64 a.den] t)).alloc (.cells #[.int .i64 b.num, .int .i64 b.den] t')) w') :
 w'.cell? ⟨w.heap.size, 0, none⟩ = some (.int .i64 a.num) ∧ w'.cell? ⟨w.heap.size, 1, none⟩ = some (.int .i64 a.den) ∧
 w'.cell? ⟨w.heap.size + 1, 0, none⟩ = some (.int .i64 b.num) ∧ w'.cell? ⟨w.heap.size + 1, 1, none⟩ = some (.int .i64 b.den) ∧
 w.heap.size < w'.heap.size ∧ w.heap.size + 1 < w'.heap.size := by
 obtain ⟨ca, cb⟩ := two_boxes h
 have hs := h.size
 simp only [World.size_alloc] at hs
 exact ⟨ca 0, ca 1, cb 0, cb 1, by omega, by omega⟩
def Ra.i64 (r : Ra) : Prop := I64 r.num ∧ I64 r.den
theorem checkR_ok {r : Ra} (h : okR r) : checkR r = 0 := by simp [checkR, h]
theorem checkR_no {r : Ra} (h : ¬ okR r) : checkR r = 50 := by simp [checkR, h]
theorem checkR_zero {r : Ra} (h : checkR r = 0) : okR r := by
 unfold checkR at h
 split at h
 ·assumption
 ·simp at h
set_option maxHeartbeats 2000000 in
theorem Check_any (r : Ra) (hi : r.i64) (w : World) :
 Calls Tryz.prog 73 #[r.v] w fun e w' => e = .returned (.int .i64 (checkR r)) ∧ Below w.heap.size w w' := by
 obtain ⟨h1, h2⟩ := hi
 have H1 := Lib.hid h1
 have H2 := Lib.hid h2
 clear h1 h2
 cases b1 : decide (r.den < 1)
 rotate_left
 ·rw [checkR_no (r := r) (fun h => by simp at b1; obtain ⟨p1, p2, p3, p4, p5⟩ := h; omega)]
  obtain ⟨n, d⟩ := r
  unfold Ra.v
  simp only at *
  go_enter Tryz.func73, Tryz.ntmps73
  go_wp2_with fail
  all_goals go_ret
  all_goals exact ⟨rfl, by go_grown⟩
 cases b2 : decide ((1073741824 : Int) < r.den)
 rotate_left
 ·rw [checkR_no (r := r) (fun h => by simp at b2; obtain ⟨p1, p2, p3, p4, p5⟩ := h; omega)]
  obtain ⟨n, d⟩ := r
  unfold Ra.v
  simp only at *
  go_enter Tryz.func73, Tryz.ntmps73
  go_wp2_with fail
  all_goals go_ret
  all_goals exact ⟨rfl, by go_grown⟩
 cases b3 : decide (r.num < -1073741824)
 rotate_left
 ·rw [checkR_no (r := r) (fun h => by simp at b3; obtain ⟨p1, p2, p3, p4, p5⟩ := h; omega)]
  obtain ⟨n, d⟩ := r
  unfold Ra.v
  simp only at *
  go_enter Tryz.func73, Tryz.ntmps73
  go_wp2_with fail
  all_goals go_ret
  all_goals exact ⟨rfl, by go_grown⟩
 cases b4 : decide ((1073741824 : Int) < r.num)
 rotate_left
 ·rw [checkR_no (r := r) (fun h => by simp at b4; obtain ⟨p1, p2, p3, p4, p5⟩ := h; omega)]
  obtain ⟨n, d⟩ := r
  unfold Ra.v
  simp only at *
  go_enter Tryz.func73, Tryz.ntmps73
  go_wp2_with fail
  all_goals go_ret
  all_goals exact ⟨rfl, by go_grown⟩
 have c0 : Hid (r.num.natAbs.gcd r.den.natAbs = r.num.natAbs.gcd r.den.natAbs) := Lib.hid rfl
 obtain ⟨g, hg⟩ : ∃ g, g = r.num.natAbs.gcd r.den.natAbs := ⟨_, rfl⟩
 have HG := Lib.hid hg.symm
 by_cases hg1 : g = 1
 ·rw [checkR_ok (r := r) (by simp at b1 b2 b3 b4; exact ⟨by omega, by omega, by omega, by omega, by rw [← hg, hg1]⟩)]
  have q : ((g : Int) == 1) = true := by simp [hg1]
  clear hg hg1
  obtain ⟨n, d⟩ := r
  unfold Ra.v
  simp only at *
  go_enter Tryz.func73, Tryz.ntmps73
  go_wp2_with fail
  refine (common_any n d H1.out H2.out _).mono ?_
  rw [HG.out]
  rintro e w1 ⟨rfl, hb1⟩
  go_wp2_with fail
  go_ret
  exact ⟨rfl, ((Below.refl _ _).alloc (Nat.le_refl _) _).trans (hb1.mono (by simp))⟩
 ·rw [checkR_no (r := r) (fun h => hg1 (by rw [hg]; exact h.2.2.2.2))]
  have q : ((g : Int) == 1) = false := by simp; omega
  clear hg hg1
  obtain ⟨n, d⟩ := r
  unfold Ra.v
  simp only at *
  go_enter Tryz.func73, Tryz.ntmps73
  go_wp2_with fail
  refine (common_any n d H1.out H2.out _).mono ?_
  rw [HG.out]
  rintro e w1 ⟨rfl, hb1⟩
  go_wp2_with fail
  go_ret
  exact ⟨rfl, ((Below.refl _ _).alloc (Nat.le_refl _) _).trans (hb1.mono (by simp))⟩
theorem mul_le {x y : Int} (h1 : -1073741824 ≤ x) (h2 : x ≤ 1073741824) (h3 : -1073741824 ≤ y) (h4 : y ≤ 1073741824) : -1152921504606846976 ≤ x * y ∧ x * y ≤ 1152921504606846976 := by
 have hx : x.natAbs ≤ 1073741824 := by omega
 have hy : y.natAbs ≤ 1073741824 := by omega
 have h : (x * y).natAbs ≤ 1073741824 * 1073741824 := by rw [Int.natAbs_mul]; exact Nat.mul_le_mul hx hy
 omega
theorem I64_of {x : Int} (h1 : -9000000000000000000 ≤ x) (h2 : x ≤ 9000000000000000000) : I64 x := by unfold I64; omega
theorem prods {a b : Ra} (ha : okR a) (hb : okR b) : ∃ P Q R T : Int, a.num * b.den = P ∧ b.num * a.den = Q ∧ a.den * b.den = R ∧ a.num * b.num = T ∧
 -1152921504606846976 ≤ P ∧ P ≤ 1152921504606846976 ∧ -1152921504606846976 ≤ Q ∧ Q ≤ 1152921504606846976 ∧ -1152921504606846976 ≤ R ∧ R ≤ 1152921504606846976 ∧ -1152921504606846976 ≤ T ∧ T ≤ 1152921504606846976 := by
 obtain ⟨a1, a2, a3, a4, _⟩ := ha
 obtain ⟨b1, b2, b3, b4, _⟩ := hb
 have h1 := mul_le (x := a.num) (y := b.den) a3 a4 (by omega) b2
 have h2 := mul_le (x := b.num) (y := a.den) b3 b4 (by omega) a2
 have h3 := mul_le (x := a.den) (y := b.den) (by omega) a2 (by omega) b2
 have h4 := mul_le (x := a.num) (y := b.num) a3 a4 b3 b4
 exact ⟨_, _, _, _, rfl, rfl, rfl, rfl, h1.1, h1.2, h2.1, h2.2, h3.1, h3.2, h4.1, h4.2⟩
set_option maxHeartbeats 4000000 in
theorem bothI_any (X : Int) (E : Int) (a b : Ra) (ha : a.i64) (hb : b.i64) (gf : Nat) (lb : Array Value) (w : World)
 (hg : ∀ (args : Array Value) (W : World), Sem.run Tryz.prog (callFunc gf args) W = .ok (.enter gf args) W)
 (hf : okR a → okR b → ∀ W, Below w.heap.size w W → Calls Tryz.prog gf lb W fun e W' => e = .returned (.tuple #[.int .i64 X, .int .i64 E]) ∧ Below W.heap.size W W') :
 Calls Tryz.prog 39 #[a.v, b.v, .func (.func gf) #[] lb] w fun e w' => e = .returned (.tuple #[.int .i64 (if okR a ∧ okR b then X else 0), .int .i64 (if okR a ∧ okR b then E else 50)]) ∧ Below w.heap.size w w' := by
 have HF := Lib.hid hf
 have HA := Lib.hid ha
 have HB := Lib.hid hb
 clear hf ha hb
 by_cases oa : okR a
 ·have CA := Lib.hid (checkR_ok oa)
  by_cases ob : okR b
  ·have CB := Lib.hid (checkR_ok ob)
   simp only [if_pos (And.intro oa ob)]
   have OA := Lib.hid oa
   have OB := Lib.hid ob
   clear oa ob
   unfold Ra.v
   have i0 : ∀ W, (Instr.index 157 (.agg #[.int .i64 a.num, .int .i64 a.den, .int .i64 b.num, .int .i64 b.den]) (.int .i64 0)).run Tryz.prog W = .ok (.agg #[.int .i64 a.num, .int .i64 a.den]) W := fun _ => by kernel_rfl
   have i1 : ∀ W, (Instr.index 157 (.agg #[.int .i64 a.num, .int .i64 a.den, .int .i64 b.num, .int .i64 b.den]) (.int .i64 1)).run Tryz.prog W = .ok (.agg #[.int .i64 b.num, .int .i64 b.den]) W := fun _ => by kernel_rfl
   go_enter Tryz.func39, Tryz.ntmps39
   go_wp2_with fail
   refine wp_loop_rounds 3 ?_
   rw [rounds_succ]
   go_wp2_with fail
   refine (Check_any a HA.out _).mono ?_
   rw [CA.out]
   rintro e w1 ⟨rfl, hb1⟩
   have K1 := ((Below.refl (w.heap.size + 2) ((w.alloc (.cells #[.int .i64 a.num, .int .i64 a.den] 41)).alloc (.cells #[.int .i64 b.num, .int .i64 b.den] 41))).alloc (by simp) (.cells #[.int .i64 a.num, .int .i64 a.den] 41)).trans (hb1.mono (by simp))
   have y1 : w.heap.size + 2 ≤ w1.heap.size := by have := hb1.size; simp at this; omega
   clear hb1
   go_wp2_with fail
   rw [rounds_succ]
   go_wp2_with fail
   refine (Check_any b HB.out _).mono ?_
   rw [CB.out]
   rintro e w2 ⟨rfl, hb2⟩
   have K2 := (K1.alloc y1 (.cells #[.int .i64 b.num, .int .i64 b.den] 41)).trans (hb2.mono (by simp; omega))
   have y2 : w.heap.size + 2 ≤ w2.heap.size := by have := hb2.size; simp at this; omega
   clear hb2
   go_wp2_with fail
   rw [rounds_succ]
   go_wp2_with fail
   have B2 : Below w.heap.size w w2 := (((Below.refl _ _).alloc (Nat.le_refl _) _).alloc (by simp) _).trans (K2.mono (by omega))
   refine (HF.out OA.out OB.out w2 B2).mono ?_
   rintro e w3 ⟨rfl, hb3⟩
   have K3 := K2.trans (hb3.mono y2)
   clear B2
   have B3 : Below w.heap.size w w3 := (((Below.refl _ _).alloc (Nat.le_refl _) _).alloc (by simp) _).trans (K3.mono (by omega))
   go_wp2_with fail
   go_ret2
   exact ⟨rfl, by go_grown⟩
  ·have CB := Lib.hid (checkR_no ob)
   simp only [if_neg (fun h : okR a ∧ okR b => ob h.2)]
   clear oa ob
   unfold Ra.v
   have i0 : ∀ W, (Instr.index 157 (.agg #[.int .i64 a.num, .int .i64 a.den, .int .i64 b.num, .int .i64 b.den]) (.int .i64 0)).run Tryz.prog W = .ok (.agg #[.int .i64 a.num, .int .i64 a.den]) W := fun _ => by kernel_rfl
   have i1 : ∀ W, (Instr.index 157 (.agg #[.int .i64 a.num, .int .i64 a.den, .int .i64 b.num, .int .i64 b.den]) (.int .i64 1)).run Tryz.prog W = .ok (.agg #[.int .i64 b.num, .int .i64 b.den]) W := fun _ => by kernel_rfl
   go_enter Tryz.func39, Tryz.ntmps39
   go_wp2_with fail
   refine wp_loop_rounds 3 ?_
   rw [rounds_succ]
   go_wp2_with fail
   refine (Check_any a HA.out _).mono ?_
   rw [CA.out]
   rintro e w1 ⟨rfl, hb1⟩
   have K1 := ((Below.refl (w.heap.size + 2) ((w.alloc (.cells #[.int .i64 a.num, .int .i64 a.den] 41)).alloc (.cells #[.int .i64 b.num, .int .i64 b.den] 41))).alloc (by simp) (.cells #[.int .i64 a.num, .int .i64 a.den] 41)).trans (hb1.mono (by simp))
   have y1 : w.heap.size + 2 ≤ w1.heap.size := by have := hb1.size; simp at this; omega
   clear hb1
   go_wp2_with fail
   rw [rounds_succ]
   go_wp2_with fail
   refine (Check_any b HB.out _).mono ?_
   rw [CB.out]
   rintro e w2 ⟨rfl, hb2⟩
   have K2 := (K1.alloc y1 (.cells #[.int .i64 b.num, .int .i64 b.den] 41)).trans (hb2.mono (by simp; omega))
   have y2 : w.heap.size + 2 ≤ w2.heap.size := by have := hb2.size; simp at this; omega
   clear hb2
   have B2 : Below w.heap.size w w2 := (((Below.refl _ _).alloc (Nat.le_refl _) _).alloc (by simp) _).trans (K2.mono (by omega))
   go_wp2_with fail
   go_ret2
   exact ⟨rfl, by go_grown⟩
 ·have CA := Lib.hid (checkR_no oa)
  simp only [if_neg (fun h : okR a ∧ okR b => oa h.1)]
  clear oa
  unfold Ra.v
  have i0 : ∀ W, (Instr.index 157 (.agg #[.int .i64 a.num, .int .i64 a.den, .int .i64 b.num, .int .i64 b.den]) (.int .i64 0)).run Tryz.prog W = .ok (.agg #[.int .i64 a.num, .int .i64 a.den]) W := fun _ => by kernel_rfl
  have i1 : ∀ W, (Instr.index 157 (.agg #[.int .i64 a.num, .int .i64 a.den, .int .i64 b.num, .int .i64 b.den]) (.int .i64 1)).run Tryz.prog W = .ok (.agg #[.int .i64 b.num, .int .i64 b.den]) W := fun _ => by kernel_rfl
  go_enter Tryz.func39, Tryz.ntmps39
  go_wp2_with fail
  refine wp_loop_rounds 3 ?_
  rw [rounds_succ]
  go_wp2_with fail
  refine (Check_any a HA.out _).mono ?_
  rw [CA.out]
  rintro e w1 ⟨rfl, hb1⟩
  have K1 := ((Below.refl (w.heap.size + 2) ((w.alloc (.cells #[.int .i64 a.num, .int .i64 a.den] 41)).alloc (.cells #[.int .i64 b.num, .int .i64 b.den] 41))).alloc (by simp) (.cells #[.int .i64 a.num, .int .i64 a.den] 41)).trans (hb1.mono (by simp))
  have y1 : w.heap.size + 2 ≤ w1.heap.size := by have := hb1.size; simp at this; omega
  clear hb1
  have B1 : Below w.heap.size w w1 := (((Below.refl _ _).alloc (Nat.le_refl _) _).alloc (by simp) _).trans (K1.mono (by omega))
  go_wp2_with fail
  go_ret2
  exact ⟨rfl, by go_grown⟩
def cmpP (a b : Ra) : Int × Int := if okR a ∧ okR b then (cmpI (a.num * b.den) (b.num * a.den), 0) else (0, 50)
set_option maxHeartbeats 2000000 in
theorem Compare1_any (a b : Ra) (ha : okR a) (hb : okR b) (Ba Bb : Nat) (w : World) (z1 : Ba < w.heap.size) (z2 : Bb < w.heap.size)
 (a0 : w.cell? ⟨Ba, 0, none⟩ = some (.int .i64 a.num)) (a1 : w.cell? ⟨Ba, 1, none⟩ = some (.int .i64 a.den)) (b0 : w.cell? ⟨Bb, 0, none⟩ = some (.int .i64 b.num)) (b1 : w.cell? ⟨Bb, 1, none⟩ = some (.int .i64 b.den)) :
 Calls Tryz.prog 40 #[.pointer (some ⟨Ba, 0, none⟩), .pointer (some ⟨Bb, 0, none⟩)] w fun e w' => e = .returned (.tuple #[.int .i64 (cmpI (a.num * b.den) (b.num * a.den)), .int .i64 0]) ∧ Below w.heap.size w w' := by
 obtain ⟨P, Q, R, T, hP, hQ, hR, hT, p1, p2, q1, q2, r1, r2, t1, t2⟩ := prods ha hb
 rw [hP, hQ]
 clear ha hb hR hT r1 r2 t1 t2 R T
 go_enter Tryz.func40, Tryz.ntmps40
 go_wp2_with fail
 refine (Compare_any P Q _).mono ?_
 rintro e w1 ⟨rfl, rfl⟩
 go_wp2_with fail
 go_ret2
 exact ⟨rfl, by go_grown⟩
set_option maxHeartbeats 2000000 in
theorem RaCompare_any (a b : Ra) (ha : a.i64) (hb : b.i64) (w : World) :
 Calls Tryz.prog 12 #[a.v, b.v] w fun e w' => e = .returned (.tuple #[.int .i64 (cmpP a b).1, .int .i64 (cmpP a b).2]) ∧ Below w.heap.size w w' := by
 have HA := Lib.hid ha
 have HB := Lib.hid hb
 clear ha hb
 obtain ⟨⟨n, E⟩, hr⟩ : ∃ r, r = cmpP a b := ⟨_, rfl⟩
 have h1 : (if okR a ∧ okR b then (cmpI (a.num * b.den) (b.num * a.den)) else 0) = n := by
  unfold cmpP at hr; split at hr <;> rename_i hc
  ·rw [if_pos hc]; exact (congrArg Prod.fst hr).symm
  ·rw [if_neg hc]; exact (congrArg Prod.fst hr).symm
 have h2 : (if okR a ∧ okR b then (0 : Int) else 50) = E := by
  unfold cmpP at hr; split at hr <;> rename_i hc
  ·rw [if_pos hc]; exact (congrArg Prod.snd hr).symm
  ·rw [if_neg hc]; exact (congrArg Prod.snd hr).symm
 rw [← hr]
 have K1 := Lib.hid h1
 have K2 := Lib.hid h2
 clear hr h1 h2
 unfold Ra.v
 go_enter Tryz.func12, Tryz.ntmps12
 go_wp2_with fail
 refine (bothI_any (X := (cmpI (a.num * b.den) (b.num * a.den))) (E := 0) a b HA.out HB.out 40 #[.pointer (some ⟨w.heap.size, 0, none⟩), .pointer (some ⟨w.heap.size + 1, 0, none⟩)] _ (enters_of Tryz.func40 (by kernel_rfl) rfl) ?hf).mono ?_
 case hf =>
  intro oa ob W hW
  have hW2 := hW.mono (B' := w.heap.size + 2) (by simp)
  obtain ⟨a0, a1, b0, b1, r0, r1⟩ := ab_cells (a := a) (b := b) hW2
  exact Compare1_any a b oa ob w.heap.size (w.heap.size + 1) W r0 r1 a0 a1 b0 b1
 rw [K1.out, K2.out]
 rintro e w1 ⟨rfl, hb1⟩
 have B1 : Below w.heap.size w w1 := (((Below.refl _ _).alloc (Nat.le_refl _) _).alloc (by simp) _).trans (hb1.mono (by simp; omega))
 go_wp2_with fail
 go_ret2
 exact ⟨rfl, B1⟩
structure At where
 course : Int
 term : Int
 grade : Int
 campus : Int
 credits : Int
 deriving DecidableEq
instance : Inhabited At := ⟨⟨0, 0, 0, 0, 0⟩⟩
def At.v (s : At) : Value := .agg #[.int .i64 s.course, .int .i64 s.term, .int .i64 s.grade, .int .i64 s.campus, .int .i64 s.credits]
def At.enc (s : At) : List Value := [.int .i64 s.course, .int .i64 s.term, .int .i64 s.grade, .int .i64 s.campus, .int .i64 s.credits]
def inB (n lo hi : Int) : Bool := decide (lo ≤ n) && decide (n ≤ hi)
def At.good (a : At) : Bool := inB a.course 0 4095 && (inB a.term 0 1023 && (inB a.grade 0 12 && (inB a.campus 0 6 && inB a.credits 0 60)))
def checkA (xs : List At) : Int := if xs.any (fun a => !a.good) then 150 else 0
theorem within_any (n lo hi : Int) (w : World) :
 Calls Tryz.prog 116 #[.int .i64 n, .int .i64 lo, .int .i64 hi] w fun e w' => e = .returned (.bool (inB n lo hi)) ∧ w = w' := by
 go_enter Tryz.func116, Tryz.ntmps116
 go_wp2
 all_goals go_ret
 all_goals refine ⟨ret_bool ?_, rfl⟩
 all_goals (unfold inB; simp_all <;> omega)
set_option maxHeartbeats 2000000 in
theorem fits_any (a : At) (w : World) :
 Calls Tryz.prog 69 #[a.v] w fun e w' => e = .returned (.bool a.good) ∧ Below w.heap.size w w' := by
 obtain ⟨c, t, g, p, k⟩ := a
 unfold At.v
 go_enter Tryz.func69, Tryz.ntmps69
 go_wp2_with (go_at_call 116; refine (within_any _ _ _ _).mono ?_; rintro e w' ⟨rfl, rfl⟩)
 all_goals go_ret
 all_goals refine ⟨ret_bool ?_, by go_grown⟩
 all_goals (simp [At.good, *])
theorem not_fits_any (a : At) (w : World) :
 Calls Tryz.prog 68 #[a.v] w fun e w' => e = .returned (.bool (!a.good)) ∧ Below w.heap.size w w' := by
 unfold At.v
 go_enter Tryz.func68, Tryz.ntmps68
 go_wp2_with fail
 refine (fits_any a _).mono ?_
 rintro e w1 ⟨rfl, hb1⟩
 go_wp2_with fail
 go_ret
 exact ⟨rfl, ((Below.refl _ _).alloc (Nat.le_refl _) _).trans (hb1.mono (by simp))⟩
set_option maxHeartbeats 2000000 in
theorem index_any (p : At → Bool) (g : Nat) (fr : Array Value) (xs : List At) (A : Option Addr) (c : Nat) (w : World)
 (hf : ∀ (x : At) (W : World), Below w.heap.size w W → Calls Tryz.prog g (#[.agg #[.int .i64 x.course, .int .i64 x.term, .int .i64 x.grade, .int .i64 x.campus, .int .i64 x.credits]] ++ fr) W fun e W' => e = .returned (.bool (p x)) ∧ Below W.heap.size W W')
 (hg : ∀ (args : Array Value) (W : World), Sem.run Tryz.prog (callFunc g args) W = .ok (.enter g args) W)
 (hx : Reads w w.heap.size A 5 At.enc xs) (hl : xs.length ≤ 9223372036854775807) :
 Calls Tryz.prog 117 #[.slice A xs.length c, .func (.func g) #[] fr] w fun e w' => (∃ m : Int, e = .returned (.int .i64 m) ∧ decide (0 ≤ m) = xs.any p) ∧ Below w.heap.size w w' := by
 have HF := Lib.hid hf
 have HX := Lib.hid hx
 clear hf hx
 go_enter Tryz.func117, Tryz.ntmps117
 go_wp2_with fail
 go_loopw [8] (fun i wr => ∃ k : Nat, k ≤ xs.length ∧ i = .int .i64 k ∧ (∀ j (h : j < xs.length), j < k → p xs[j] = false) ∧ Below w.heap.size w wr) (fun i _ => xs.length - (intOf i).toNat)
 case atStart => exact ⟨0, Nat.zero_le _, rfl, fun _ _ h => absurd h (by omega), Below.refl _ _⟩
 case round =>
  obtain ⟨k, hk, rfl, hno, hB⟩ := hrel
  have HNO := Lib.hid hno
  clear hno
  by_cases hlt : k < xs.length
  ·obtain ⟨bb, off, x, rfl, hbl, hxk, hc⟩ := (HX.out.below hB).at_ hlt
   have c0 := hc 0 _ rfl
   have c1 := hc 1 _ rfl
   have c2 := hc 2 _ rfl
   have c3 := hc 3 _ rfl
   have c4 := hc 4 _ rfl
   simp only [Nat.add_zero] at c0
   have HXK := Lib.hid hxk
   have hb2 : bb < wr.heap.size := by have := hB.size; omega
   have HB := Lib.hid hB
   clear hc hxk hB
   cases hp : p x
   ·have HP := Lib.hid hp
    clear hp
    go_wp2_with fail
    refine (HF.out x _ HB.out).mono ?_
    rw [HP.out]
    rintro e w1 ⟨rfl, hb1⟩
    go_wp2_with fail
    go_roundw
    case rel => exact ⟨k + 1, by omega, by go_num, step_no HNO.out HXK.out HP.out, HB.out.trans (hb1.mono HB.out.size)⟩
    case measure => simp [intOf]; omega
   ·have HP := Lib.hid hp
    clear hp
    go_wp2_with fail
    refine (HF.out x _ HB.out).mono ?_
    rw [HP.out]
    rintro e w1 ⟨rfl, hb1⟩
    go_wp2_with fail
    go_ret
    exact ⟨⟨_, rfl, by rw [any_true HXK.out HP.out]; simp⟩, HB.out.trans (hb1.mono HB.out.size)⟩
  ·obtain rfl : k = xs.length := by omega
   have HA : Hid (xs.any p = false) := Lib.hid (any_false (fun j hj => HNO.out j hj hj))
   go_wp2_with fail
   go_ret
   exact ⟨⟨_, rfl, by rw [HA.out]; decide⟩, hB⟩
theorem contains_any (p : At → Bool) (g : Nat) (fr : Array Value) (xs : List At) (A : Option Addr) (c : Nat) (w : World)
 (hf : ∀ (x : At) (W : World), Below w.heap.size w W → Calls Tryz.prog g (#[.agg #[.int .i64 x.course, .int .i64 x.term, .int .i64 x.grade, .int .i64 x.campus, .int .i64 x.credits]] ++ fr) W fun e W' => e = .returned (.bool (p x)) ∧ Below W.heap.size W W')
 (hg : ∀ (args : Array Value) (W : World), Sem.run Tryz.prog (callFunc g args) W = .ok (.enter g args) W)
 (hx : Reads w w.heap.size A 5 At.enc xs) (hl : xs.length ≤ 9223372036854775807) :
 Calls Tryz.prog 67 #[.slice A xs.length c, .func (.func g) #[] fr] w fun e w' => e = .returned (.bool (xs.any p)) ∧ Below w.heap.size w w' := by
 go_enter Tryz.func67, Tryz.ntmps67
 go_wp2_with fail
 refine (index_any p g fr xs A c _ hf hg hx hl).mono ?_
 rintro e w1 ⟨⟨m, rfl, hm⟩, hb1⟩
 have HM := Lib.hid hm
 clear hm
 go_wp2_with fail
 go_ret
 exact ⟨ret_bool HM.out, hb1⟩
theorem check_any (xs : List At) (A : Option Addr) (c : Nat) (w : World) (hx : Reads w w.heap.size A 5 At.enc xs) (hl : xs.length ≤ 9223372036854775807) :
 Calls Tryz.prog 35 #[.slice A xs.length c] w fun e w' => e = .returned (.int .i64 (checkA xs)) ∧ Below w.heap.size w w' := by
 have HX := Lib.hid hx
 clear hx
 cases hb : xs.any (fun a => !a.good)
 all_goals
  unfold checkA
  rw [hb]
  simp only [if_true, if_false, Bool.false_eq_true]
  have HB := Lib.hid hb
  clear hb
  go_enter Tryz.func35, Tryz.ntmps35
  go_wp2_with fail
  refine (contains_any (fun a => !a.good) 68 #[] xs A c _ (fun x W _ => not_fits_any x W) (enters_of Tryz.func68 (by kernel_rfl) rfl) HX.out hl).mono ?_
  rw [HB.out]
  rintro e w1 ⟨rfl, hb1⟩
  go_wp2_with fail
  go_ret
  exact ⟨rfl, hb1⟩
end Go.Proofs.YtalmbigebjbaoaaGreatDoor
namespace Go.Proofs.YtalmbigebjbaoaaGreatDoor
open Go.RowKit Go.Shelf
set_option linter.unusedSimpArgs false
set_option linter.unusedVariables false
attribute [local go_sem] Oper.semAt_some
theorem reads_same {α : Type} {w w' : World} {B sz : Nat} {A : Option Addr} {enc : α → List Value} {xs : List α} (h : Reads w B A sz enc xs) (hk : ∀ b, b < B → w'.heap[b]? = w.heap[b]?) : Reads w' B A sz enc xs := fun hn => by
 obtain ⟨b, off, e, hlt, hc⟩ := h hn
 exact ⟨b, off, e, hlt, fun i x j v hi hj => (World.cell?_of_block (a := ⟨b, _, none⟩) (hk b hlt)).trans (hc i x j v hi hj)⟩
theorem abs_world {F : Fence} {n : Nat} {P : Program} {Q : Exit → Act → World → Prop} {c : Code} {a : Act} {w : World} (h : ∀ W, W = w → c.wpIn F n P Q a W) : c.wpIn F n P Q a w := h w rfl
theorem weights_any (A : Option Addr) (n c : Nat) (w : World) :
 Calls Tryz.prog 36 #[.slice A n c] w fun e w' =>
  e = .returned (.func (.func 70) #[] #[.pointer (some ⟨w.heap.size, 0, none⟩)]) ∧ w' = w.alloc (.cells #[.slice A n c] 47) := by
 go_enter Tryz.func36, Tryz.ntmps36
 go_wp2_with fail
 go_ret
 exact ⟨rfl, rfl⟩
theorem take_at {α : Type} {l : List α} {k : Nat} {x : α} (h : l[k]? = some x) : l.take (k + 1) = l.take k ++ [x] := by
 have hl := (List.getElem?_eq_some_iff.1 h).1
 rw [List.take_succ_eq_append_getElem hl, (List.getElem?_eq_some_iff.1 h).2]
set_option maxRecDepth 100000 in
set_option maxHeartbeats 4000000 in
theorem weights_iter (w : World) (n : Nat) (n₀ Ba : Nat) (hBa : n₀ ≤ Ba) (xs : List At) (hl : xs.length ≤ 9223372036854775807) (free : Nat → Prop) (hfree : ∀ b, free b → n₀ ≤ b ∧ b ≠ Ba) (hn : n₀ ≤ w.heap.size)
 (A : Option Addr) (c : Nat) (h1 : w.cell? ⟨Ba, 0, none⟩ = some (.slice A xs.length c)) (h9 : Reads w n₀ A 5 At.enc xs) (h11 : Ba < w.heap.size) :
 Iter Fence.wide n Tryz.prog 70 #[.pointer (some ⟨Ba, 0, none⟩)] (fun x : At => #[.int .i64 x.grade, .int .i64 x.credits]) (fun _ => False) (Keep w.heap.size free)
  (fun ys => ys = xs) (fun _ => True) (fun ys => ∃ t, ys ++ t = xs) w := by
 intro l J Jx W hW hJ hJx hY h0
 refine callsIn_wide.2 ?_
 simp only [List.append_toArray, List.cons_append, List.nil_append]
 have fa : ¬ free Ba := fun h => (hfree _ h).2 rfl
 have hK0 : (∀ b, b < n₀ → W.heap[b]? = w.heap[b]?) ∧ W.cell? ⟨Ba, 0, none⟩ = some (.slice A xs.length c) ∧ w.heap.size ≤ W.heap.size :=
  ⟨fun b hb => hW.block b (by omega), (hW.cell (p := ⟨Ba, 0, none⟩) h11).trans h1, hW.size⟩
 have HX := Lib.hid h9
 have HF := Lib.hid fa
 have HFR := Lib.hid hfree
 have HJ := Lib.hid hJ
 have HY := Lib.hid hY
 have H0 := Lib.hid h0
 have HK := Lib.hid hK0
 obtain ⟨_, hc1, hzw⟩ := hK0
 have hBa2 : Ba < W.heap.size := by omega
 clear h1 h9 h0 hJ hY hfree fa hJx hW
 go_enter Tryz.func70, Tryz.ntmps70
 go_wp2_with fail
 go_loopw [7] (fun i wr => ∃ k : Nat, k ≤ xs.length ∧ i = .int .i64 k ∧ J (xs.take k) wr ∧ (∀ b, b < n₀ → wr.heap[b]? = w.heap[b]?) ∧ wr.cell? ⟨Ba, 0, none⟩ = some (.slice A xs.length c) ∧ w.heap.size ≤ wr.heap.size)
  (fun i _ => xs.length - (intOf i).toNat)
 case atStart => exact ⟨0, Nat.zero_le _, rfl, by simpa using H0.out, HK.out⟩
 case round =>
  obtain ⟨k, hk, rfl, hj, hs, hc1, hzr⟩ := hrel
  have HJ1 := Lib.hid hj
  have HS := Lib.hid hs
  have HXr := Lib.hid (reads_same HX.out hs)
  clear hj hs
  by_cases hlt : k < xs.length
  ·obtain ⟨ba, oa, x, rfl, hba, hxk, hca⟩ := HXr.out.at_ hlt
   have a0 := hca 0 _ rfl
   have a1 := hca 1 _ rfl
   have a2 := hca 2 _ rfl
   have a3 := hca 3 _ rfl
   have a4 := hca 4 _ rfl
   simp only [Nat.add_zero] at a0
   have hba2 : ba < wr.heap.size := by omega
   have htk := take_at hxk
   have HT := Lib.hid htk
   have hjn : J (xs.take k) (wr.alloc (.cells #[.int .i64 x.course, .int .i64 x.term, .int .i64 x.grade, .int .i64 x.campus, .int .i64 x.credits] 69)) := HJ.out.1 _ _ _ HJ1.out ((Below.refl _ _).alloc (Nat.le_refl _) _)
   obtain ⟨fn, tmps, assign, body, hy, hR⟩ := HY.out _ x _ hjn ⟨xs.drop (k + 1), by rw [← htk, List.take_append_drop]⟩
   try simp only at hy
   clear hca hxk htk hjn
   refine (wpIn_wide (n := n)).1 ?_
   gi_wp2
   refine ⟨fun h => (by cases h), hR.mono ?_⟩
   rintro e W3 (⟨rfl, hJ3, hk3⟩ | ⟨rfl, hJx3⟩)
   ·have hk31 := hk3.1
    simp only [World.size_alloc] at hk31
    have e1 := (hk3.cell (a := ⟨Ba, 0, none⟩) h11 HF.out).trans (((Below.refl wr.heap.size wr).alloc (Nat.le_refl _) (.cells #[.int .i64 x.course, .int .i64 x.term, .int .i64 x.grade, .int .i64 x.campus, .int .i64 x.credits] 69)).cell (p := ⟨Ba, 0, none⟩) (by show Ba < wr.heap.size; omega) |>.trans hc1)
    have HK3 := Lib.hid hk3
    have HJ3 := Lib.hid hJ3
    clear hk3 hJ3
    gi_wp2
    go_roundw
    case rel => exact ⟨k + 1, by omega, by go_num, by rw [HT.out]; exact HJ3.out, fun b hb => ((HK3.out.2 b (by omega) (fun h => by have := (HFR.out _ h).1; omega)).trans (Below.heap_alloc _ _ _ (by omega))).trans (HS.out b hb), e1, by omega⟩
    case measure => simp [intOf]; omega
   ·gi_wp2
    refine bodyPost_ret (results_none rfl _ _ _) rfl ?_
    exact ⟨⟨_, rfl⟩, .inr ⟨_, trivial, hJx3⟩⟩
  ·obtain rfl : k = xs.length := by omega
   go_wp2_with fail
   go_end0
   have hj := HJ1.out
   rw [List.take_length] at hj
   exact ⟨⟨_, rfl⟩, .inl ⟨_, rfl, hj⟩⟩
end Go.Proofs.YtalmbigebjbaoaaGreatDoor
namespace Go.Proofs.YtalmbigebjbaoaaGreatDoor
open Go.RowKit Go.Shelf
set_option linter.unusedSimpArgs false
set_option linter.unusedVariables false
end Go.Proofs.YtalmbigebjbaoaaGreatDoor
namespace Go.Proofs.YtalmbigebjbaoaaGreatDoor
open Go.RowKit Go.Shelf
set_option linter.unusedSimpArgs false
set_option linter.unusedVariables false
def sC : List At → Int
 | [] => 0
 | x :: l => x.credits + sC l
def sP : List At → Int
 | [] => 0
 | x :: l => x.grade * x.credits + sP l
theorem sC_snoc (x : At) : ∀ l, sC (l ++ [x]) = sC l + x.credits
 | [] => by simp [sC]
 | y :: l => by simp only [List.cons_append, sC, sC_snoc x l]; omega
theorem sP_snoc (x : At) : ∀ l, sP (l ++ [x]) = sP l + x.grade * x.credits
 | [] => by simp [sP]
 | y :: l => by simp only [List.cons_append, sP, sP_snoc x l]; omega
theorem good_at {x : At} (h : x.good = true) : 0 ≤ x.grade ∧ x.grade ≤ 12 ∧ 0 ≤ x.credits ∧ x.credits ≤ 60 ∧ 0 ≤ x.grade * x.credits ∧ x.grade * x.credits ≤ 720 := by
 simp [At.good, inB] at h
 obtain ⟨_, _, ⟨g0, g1⟩, _, c0, c1⟩ := h
 have h1 : x.grade.natAbs ≤ 12 := by omega
 have h2 : x.credits.natAbs ≤ 60 := by omega
 have h3 : (x.grade * x.credits).natAbs ≤ 12 * 60 := by rw [Int.natAbs_mul]; exact Nat.mul_le_mul h1 h2
 have h4 : 0 ≤ x.grade * x.credits := Int.mul_nonneg g0 c0
 omega
theorem sums_at : ∀ l : List At, (∀ x ∈ l, x.good = true) → 0 ≤ sC l ∧ sC l ≤ 60 * (l.length : Int) ∧ 0 ≤ sP l ∧ sP l ≤ 720 * (l.length : Int)
 | [], _ => by simp [sC, sP]
 | x :: l, h => by
   obtain ⟨h1, h2, h3, h4⟩ := sums_at l (fun y hy => h y (List.mem_cons_of_mem _ hy))
   obtain ⟨g1, g2, g3, g4, g5, g6⟩ := good_at (h x (List.mem_cons_self ..))
   simp only [sC, sP, List.length_cons]
   omega
def sumsA (xs : List At) : Int × Int × Int := if xs.any (fun a => !a.good) then (0, 0, 150) else (sC xs, sP xs, 0)
end Go.Proofs.YtalmbigebjbaoaaGreatDoor
