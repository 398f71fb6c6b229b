/- Add, Mul, Compare. -/
import Derived.Test.YtaogcmgbmomilaaRatC
import Derived.LoopN
namespace Go.Proofs.Ytaogcmgbmomilaa
open Go.RowKit
set_option linter.unusedSimpArgs false
set_option linter.unusedVariables false

theorem mul_le {x y : Int} (h1 : -1073741824 ≤ x) (h2 : x ≤ 1073741824) (h3 : -1073741824 ≤ y) (h4 : y ≤ 1073741824) : -1152921504606846976 ≤ x * y ∧ x * y ≤ 1152921504606846976 := by
  have hx : x.natAbs ≤ 1073741824 := by omega
  have hy : y.natAbs ≤ 1073741824 := by omega
  have h : (x * y).natAbs ≤ 1073741824 * 1073741824 := by rw [Int.natAbs_mul]; exact Nat.mul_le_mul hx hy
  omega
theorem I64_of {x : Int} (h1 : -9000000000000000000 ≤ x) (h2 : x ≤ 9000000000000000000) : I64 x := by unfold I64; omega

/-- what two valid fractions' numerators and denominators come to -/
theorem prods {a b : Ra} (ha : okR a) (hb : okR b) : ∃ P Q R T : Int, a.num * b.den = P ∧ b.num * a.den = Q ∧ a.den * b.den = R ∧ a.num * b.num = T ∧
    -1152921504606846976 ≤ P ∧ P ≤ 1152921504606846976 ∧ -1152921504606846976 ≤ Q ∧ Q ≤ 1152921504606846976 ∧ -1152921504606846976 ≤ R ∧ R ≤ 1152921504606846976 ∧ -1152921504606846976 ≤ T ∧ T ≤ 1152921504606846976 := by
  obtain ⟨a1, a2, a3, a4, _⟩ := ha
  obtain ⟨b1, b2, b3, b4, _⟩ := hb
  have h1 := mul_le (x := a.num) (y := b.den) a3 a4 (by omega) b2
  have h2 := mul_le (x := b.num) (y := a.den) b3 b4 (by omega) a2
  have h3 := mul_le (x := a.den) (y := b.den) (by omega) a2 (by omega) b2
  have h4 := mul_le (x := a.num) (y := b.num) a3 a4 b3 b4
  exact ⟨_, _, _, _, rfl, rfl, rfl, rfl, h1.1, h1.2, h2.1, h2.2, h3.1, h3.2, h4.1, h4.2⟩

set_option maxHeartbeats 2000000 in
theorem Add1_any (a b : Ra) (ha : okR a) (hb : okR b) (Ba Bb : Nat) (w : World) (z1 : Ba < w.heap.size) (z2 : Bb < w.heap.size)
    (a0 : w.cell? ⟨Ba, 0, none⟩ = some (.int .i64 a.num)) (a1 : w.cell? ⟨Ba, 1, none⟩ = some (.int .i64 a.den)) (b0 : w.cell? ⟨Bb, 0, none⟩ = some (.int .i64 b.num)) (b1 : w.cell? ⟨Bb, 1, none⟩ = some (.int .i64 b.den)) :
    Calls Try.prog 30 #[.pointer (some ⟨Ba, 0, none⟩), .pointer (some ⟨Bb, 0, none⟩)] w fun e w' => e = .returned (.tuple #[(newP (a.num * b.den + b.num * a.den) (a.den * b.den)).1.v, .int .i64 (newP (a.num * b.den + b.num * a.den) (a.den * b.den)).2]) ∧ Below w.heap.size w w' := by
  obtain ⟨P, Q, R, T, hP, hQ, hR, hT, p1, p2, q1, q2, r1, r2, t1, t2⟩ := prods ha hb
  rw [hP, hQ, hR]
  clear ha hb hT t1 t2 T
  obtain ⟨⟨⟨n, d⟩, E⟩, hr⟩ : ∃ r, r = newP (P + Q) R := ⟨_, rfl⟩
  rw [← hr]
  have HR := Lib.hid hr
  clear hr
  simp only [Ra.v]
  go_enter Try.func30, Try.ntmps30
  go_wp2_with fail
  refine (New_any (P + Q) R (I64_of (by omega) (by omega)) (I64_of (by omega) (by omega)) _).mono ?_
  rw [← HR.out]
  simp only [Ra.v]
  rintro e w1 ⟨rfl, hb1⟩
  obtain ⟨lc, lf, hlt1⟩ := below_at w.heap.size rfl hb1 (by simp)
  have l0 := lc 0
  have l1 := lc 1
  have lf0 := lf 0
  have lf1 := lf 1
  simp at l0 l1
  have B1 : Below w.heap.size w w1 := ((Below.refl _ _).alloc (Nat.le_refl _) _).trans (hb1.mono (by simp))
  clear hb1 lc lf
  go_wp2_with fail
  have hc := setB (setA ⟨l0, l1⟩ (.int .i64 n)) (.int .i64 d)
  exact bodyPost_ret (v := .tuple #[.agg #[.int .i64 n, .int .i64 d], .int .i64 E]) (by simp [results, Try.results30, go_sem, hc.1, hc.2, hlt1]) rfl ⟨rfl, by go_grown⟩

set_option maxHeartbeats 4000000 in
theorem both_any (X : Ra) (E : Int) (a b : Ra) (ha : a.i64) (hb : b.i64) (gf : Nat) (lb : Array Value) (w : World)
    (hg : ∀ (args : Array Value) (W : World), Sem.run Try.prog (callFunc gf args) W = .ok (.enter gf args) W)
    (hf : okR a → okR b → ∀ W, Below w.heap.size w W → Calls Try.prog gf lb W fun e W' => e = .returned (.tuple #[X.v, .int .i64 E]) ∧ Below W.heap.size W W') :
    Calls Try.prog 29 #[a.v, b.v, .func (.func gf) #[] lb] w fun e w' => e = .returned (.tuple #[(if okR a ∧ okR b then X else ⟨0, 0⟩).v, .int .i64 (if okR a ∧ okR b then E else 50)]) ∧ Below w.heap.size w w' := by
  have HF := Lib.hid hf
  have HA := Lib.hid ha
  have HB := Lib.hid hb
  clear hf ha hb
  obtain ⟨xn, xd⟩ := X
  by_cases oa : okR a
  · have CA := Lib.hid (checkR_ok oa)
    by_cases ob : okR b
    · have CB := Lib.hid (checkR_ok ob)
      simp only [if_pos (And.intro oa ob)]
      have OA := Lib.hid oa
      have OB := Lib.hid ob
      clear oa ob
      unfold Ra.v
      have i0 : ∀ W, (Instr.index 59 (.agg #[.int .i64 a.num, .int .i64 a.den, .int .i64 b.num, .int .i64 b.den]) (.int .i64 0)).run Try.prog W = .ok (.agg #[.int .i64 a.num, .int .i64 a.den]) W := fun _ => by kernel_rfl
      have i1 : ∀ W, (Instr.index 59 (.agg #[.int .i64 a.num, .int .i64 a.den, .int .i64 b.num, .int .i64 b.den]) (.int .i64 1)).run Try.prog W = .ok (.agg #[.int .i64 b.num, .int .i64 b.den]) W := fun _ => by kernel_rfl
      go_enter Try.func29, Try.ntmps29
      go_wp2_with fail
      refine wp_loop_rounds 3 ?_
      rw [rounds_succ]
      go_wp2_with fail
      refine (Check_any a HA.out _).mono ?_
      rw [CA.out]
      rintro e w1 ⟨rfl, hb1⟩
      have K1 := ((Below.refl (w.heap.size + 3) (((w.alloc (.cells #[.int .i64 a.num, .int .i64 a.den] 23)).alloc (.cells #[.int .i64 b.num, .int .i64 b.den] 23)).alloc (.cells #[.int .i64 0, .int .i64 0] 23))).alloc (by simp) (.cells #[.int .i64 a.num, .int .i64 a.den] 23)).trans (hb1.mono (by simp))
      have y1 : w.heap.size + 3 ≤ w1.heap.size := by have := hb1.size; simp at this; omega
      clear hb1
      go_wp2_with fail
      rw [rounds_succ]
      go_wp2_with fail
      refine (Check_any b HB.out _).mono ?_
      rw [CB.out]
      rintro e w2 ⟨rfl, hb2⟩
      have K2 := (K1.alloc y1 (.cells #[.int .i64 b.num, .int .i64 b.den] 23)).trans (hb2.mono (by simp; omega))
      have y2 : w.heap.size + 3 ≤ w2.heap.size := by have := hb2.size; simp at this; omega
      clear hb2
      go_wp2_with fail
      rw [rounds_succ]
      go_wp2_with fail
      have B2 : Below w.heap.size w w2 := ((((Below.refl _ _).alloc (Nat.le_refl _) _).alloc (by simp) _).alloc (by simp; omega) _).trans (K2.mono (by omega))
      refine (HF.out OA.out OB.out w2 B2).mono ?_
      simp only [Ra.v]
      rintro e w3 ⟨rfl, hb3⟩
      have K3 := K2.trans (hb3.mono y2)
      clear B2
      obtain ⟨lc, lf, hlt1⟩ := below_at (w.heap.size + 2) (by simp) K3 (by omega)
      have l0 := lc 0
      have l1 := lc 1
      have lf0 := lf 0
      have lf1 := lf 1
      simp at l0 l1
      clear lc lf
      have B3 : Below w.heap.size w w3 := ((((Below.refl _ _).alloc (Nat.le_refl _) _).alloc (by simp) _).alloc (by simp; omega) _).trans (K3.mono (by omega))
      go_wp2_with fail
      have hc := setB (setA ⟨l0, l1⟩ (.int .i64 xn)) (.int .i64 xd)
      exact bodyPost_ret (v := .tuple #[.agg #[.int .i64 xn, .int .i64 xd], .int .i64 E]) (by simp [results, Try.results29, go_sem, hc.1, hc.2, l0, l1, hlt1]) rfl ⟨rfl, by go_grown⟩
    · have CB := Lib.hid (checkR_no ob)
      simp only [if_neg (fun h : okR a ∧ okR b => ob h.2)]
      clear oa ob
      unfold Ra.v
      have i0 : ∀ W, (Instr.index 59 (.agg #[.int .i64 a.num, .int .i64 a.den, .int .i64 b.num, .int .i64 b.den]) (.int .i64 0)).run Try.prog W = .ok (.agg #[.int .i64 a.num, .int .i64 a.den]) W := fun _ => by kernel_rfl
      have i1 : ∀ W, (Instr.index 59 (.agg #[.int .i64 a.num, .int .i64 a.den, .int .i64 b.num, .int .i64 b.den]) (.int .i64 1)).run Try.prog W = .ok (.agg #[.int .i64 b.num, .int .i64 b.den]) W := fun _ => by kernel_rfl
      go_enter Try.func29, Try.ntmps29
      go_wp2_with fail
      refine wp_loop_rounds 3 ?_
      rw [rounds_succ]
      go_wp2_with fail
      refine (Check_any a HA.out _).mono ?_
      rw [CA.out]
      rintro e w1 ⟨rfl, hb1⟩
      have K1 := ((Below.refl (w.heap.size + 3) (((w.alloc (.cells #[.int .i64 a.num, .int .i64 a.den] 23)).alloc (.cells #[.int .i64 b.num, .int .i64 b.den] 23)).alloc (.cells #[.int .i64 0, .int .i64 0] 23))).alloc (by simp) (.cells #[.int .i64 a.num, .int .i64 a.den] 23)).trans (hb1.mono (by simp))
      have y1 : w.heap.size + 3 ≤ w1.heap.size := by have := hb1.size; simp at this; omega
      clear hb1
      go_wp2_with fail
      rw [rounds_succ]
      go_wp2_with fail
      refine (Check_any b HB.out _).mono ?_
      rw [CB.out]
      rintro e w2 ⟨rfl, hb2⟩
      have K2 := (K1.alloc y1 (.cells #[.int .i64 b.num, .int .i64 b.den] 23)).trans (hb2.mono (by simp; omega))
      have y2 : w.heap.size + 3 ≤ w2.heap.size := by have := hb2.size; simp at this; omega
      clear hb2
      obtain ⟨lc, lf, hlt1⟩ := below_at (w.heap.size + 2) (by simp) K2 (by omega)
      have l0 := lc 0
      have l1 := lc 1
      have lf0 := lf 0
      have lf1 := lf 1
      simp at l0 l1
      clear lc lf
      have B2 : Below w.heap.size w w2 := ((((Below.refl _ _).alloc (Nat.le_refl _) _).alloc (by simp) _).alloc (by simp; omega) _).trans (K2.mono (by omega))
      go_wp2_with fail
      have hc := setB (setA ⟨l0, l1⟩ (.int .i64 0)) (.int .i64 0)
      exact bodyPost_ret (v := .tuple #[.agg #[.int .i64 0, .int .i64 0], .int .i64 50]) (by simp [results, Try.results29, go_sem, hc.1, hc.2, l0, l1, hlt1]) rfl ⟨rfl, by go_grown⟩
  · have CA := Lib.hid (checkR_no oa)
    simp only [if_neg (fun h : okR a ∧ okR b => oa h.1)]
    clear oa
    unfold Ra.v
    have i0 : ∀ W, (Instr.index 59 (.agg #[.int .i64 a.num, .int .i64 a.den, .int .i64 b.num, .int .i64 b.den]) (.int .i64 0)).run Try.prog W = .ok (.agg #[.int .i64 a.num, .int .i64 a.den]) W := fun _ => by kernel_rfl
    have i1 : ∀ W, (Instr.index 59 (.agg #[.int .i64 a.num, .int .i64 a.den, .int .i64 b.num, .int .i64 b.den]) (.int .i64 1)).run Try.prog W = .ok (.agg #[.int .i64 b.num, .int .i64 b.den]) W := fun _ => by kernel_rfl
    go_enter Try.func29, Try.ntmps29
    go_wp2_with fail
    refine wp_loop_rounds 3 ?_
    rw [rounds_succ]
    go_wp2_with fail
    refine (Check_any a HA.out _).mono ?_
    rw [CA.out]
    rintro e w1 ⟨rfl, hb1⟩
    have K1 := ((Below.refl (w.heap.size + 3) (((w.alloc (.cells #[.int .i64 a.num, .int .i64 a.den] 23)).alloc (.cells #[.int .i64 b.num, .int .i64 b.den] 23)).alloc (.cells #[.int .i64 0, .int .i64 0] 23))).alloc (by simp) (.cells #[.int .i64 a.num, .int .i64 a.den] 23)).trans (hb1.mono (by simp))
    have y1 : w.heap.size + 3 ≤ w1.heap.size := by have := hb1.size; simp at this; omega
    clear hb1
    obtain ⟨lc, lf, hlt1⟩ := below_at (w.heap.size + 2) (by simp) K1 (by omega)
    have l0 := lc 0
    have l1 := lc 1
    have lf0 := lf 0
    have lf1 := lf 1
    simp at l0 l1
    clear lc lf
    have B1 : Below w.heap.size w w1 := ((((Below.refl _ _).alloc (Nat.le_refl _) _).alloc (by simp) _).alloc (by simp; omega) _).trans (K1.mono (by omega))
    go_wp2_with fail
    have hc := setB (setA ⟨l0, l1⟩ (.int .i64 0)) (.int .i64 0)
    exact bodyPost_ret (v := .tuple #[.agg #[.int .i64 0, .int .i64 0], .int .i64 50]) (by simp [results, Try.results29, go_sem, hc.1, hc.2, l0, l1, hlt1]) rfl ⟨rfl, by go_grown⟩

set_option maxHeartbeats 4000000 in
theorem bothI_any (X : Int) (E : Int) (a b : Ra) (ha : a.i64) (hb : b.i64) (gf : Nat) (lb : Array Value) (w : World)
    (hg : ∀ (args : Array Value) (W : World), Sem.run Try.prog (callFunc gf args) W = .ok (.enter gf args) W)
    (hf : okR a → okR b → ∀ W, Below w.heap.size w W → Calls Try.prog gf lb W fun e W' => e = .returned (.tuple #[.int .i64 X, .int .i64 E]) ∧ Below W.heap.size W W') :
    Calls Try.prog 33 #[a.v, b.v, .func (.func gf) #[] lb] w fun e w' => e = .returned (.tuple #[.int .i64 (if okR a ∧ okR b then X else 0), .int .i64 (if okR a ∧ okR b then E else 50)]) ∧ Below w.heap.size w w' := by
  have HF := Lib.hid hf
  have HA := Lib.hid ha
  have HB := Lib.hid hb
  clear hf ha hb
  by_cases oa : okR a
  · have CA := Lib.hid (checkR_ok oa)
    by_cases ob : okR b
    · have CB := Lib.hid (checkR_ok ob)
      simp only [if_pos (And.intro oa ob)]
      have OA := Lib.hid oa
      have OB := Lib.hid ob
      clear oa ob
      unfold Ra.v
      have i0 : ∀ W, (Instr.index 59 (.agg #[.int .i64 a.num, .int .i64 a.den, .int .i64 b.num, .int .i64 b.den]) (.int .i64 0)).run Try.prog W = .ok (.agg #[.int .i64 a.num, .int .i64 a.den]) W := fun _ => by kernel_rfl
      have i1 : ∀ W, (Instr.index 59 (.agg #[.int .i64 a.num, .int .i64 a.den, .int .i64 b.num, .int .i64 b.den]) (.int .i64 1)).run Try.prog W = .ok (.agg #[.int .i64 b.num, .int .i64 b.den]) W := fun _ => by kernel_rfl
      go_enter Try.func33, Try.ntmps33
      go_wp2_with fail
      refine wp_loop_rounds 3 ?_
      rw [rounds_succ]
      go_wp2_with fail
      refine (Check_any a HA.out _).mono ?_
      rw [CA.out]
      rintro e w1 ⟨rfl, hb1⟩
      have K1 := ((Below.refl (w.heap.size + 2) ((w.alloc (.cells #[.int .i64 a.num, .int .i64 a.den] 23)).alloc (.cells #[.int .i64 b.num, .int .i64 b.den] 23))).alloc (by simp) (.cells #[.int .i64 a.num, .int .i64 a.den] 23)).trans (hb1.mono (by simp))
      have y1 : w.heap.size + 2 ≤ w1.heap.size := by have := hb1.size; simp at this; omega
      clear hb1
      go_wp2_with fail
      rw [rounds_succ]
      go_wp2_with fail
      refine (Check_any b HB.out _).mono ?_
      rw [CB.out]
      rintro e w2 ⟨rfl, hb2⟩
      have K2 := (K1.alloc y1 (.cells #[.int .i64 b.num, .int .i64 b.den] 23)).trans (hb2.mono (by simp; omega))
      have y2 : w.heap.size + 2 ≤ w2.heap.size := by have := hb2.size; simp at this; omega
      clear hb2
      go_wp2_with fail
      rw [rounds_succ]
      go_wp2_with fail
      have B2 : Below w.heap.size w w2 := (((Below.refl _ _).alloc (Nat.le_refl _) _).alloc (by simp) _).trans (K2.mono (by omega))
      refine (HF.out OA.out OB.out w2 B2).mono ?_
      rintro e w3 ⟨rfl, hb3⟩
      have K3 := K2.trans (hb3.mono y2)
      clear B2
      have B3 : Below w.heap.size w w3 := (((Below.refl _ _).alloc (Nat.le_refl _) _).alloc (by simp) _).trans (K3.mono (by omega))
      go_wp2_with fail
      go_ret2
      exact ⟨rfl, by go_grown⟩
    · have CB := Lib.hid (checkR_no ob)
      simp only [if_neg (fun h : okR a ∧ okR b => ob h.2)]
      clear oa ob
      unfold Ra.v
      have i0 : ∀ W, (Instr.index 59 (.agg #[.int .i64 a.num, .int .i64 a.den, .int .i64 b.num, .int .i64 b.den]) (.int .i64 0)).run Try.prog W = .ok (.agg #[.int .i64 a.num, .int .i64 a.den]) W := fun _ => by kernel_rfl
      have i1 : ∀ W, (Instr.index 59 (.agg #[.int .i64 a.num, .int .i64 a.den, .int .i64 b.num, .int .i64 b.den]) (.int .i64 1)).run Try.prog W = .ok (.agg #[.int .i64 b.num, .int .i64 b.den]) W := fun _ => by kernel_rfl
      go_enter Try.func33, Try.ntmps33
      go_wp2_with fail
      refine wp_loop_rounds 3 ?_
      rw [rounds_succ]
      go_wp2_with fail
      refine (Check_any a HA.out _).mono ?_
      rw [CA.out]
      rintro e w1 ⟨rfl, hb1⟩
      have K1 := ((Below.refl (w.heap.size + 2) ((w.alloc (.cells #[.int .i64 a.num, .int .i64 a.den] 23)).alloc (.cells #[.int .i64 b.num, .int .i64 b.den] 23))).alloc (by simp) (.cells #[.int .i64 a.num, .int .i64 a.den] 23)).trans (hb1.mono (by simp))
      have y1 : w.heap.size + 2 ≤ w1.heap.size := by have := hb1.size; simp at this; omega
      clear hb1
      go_wp2_with fail
      rw [rounds_succ]
      go_wp2_with fail
      refine (Check_any b HB.out _).mono ?_
      rw [CB.out]
      rintro e w2 ⟨rfl, hb2⟩
      have K2 := (K1.alloc y1 (.cells #[.int .i64 b.num, .int .i64 b.den] 23)).trans (hb2.mono (by simp; omega))
      have y2 : w.heap.size + 2 ≤ w2.heap.size := by have := hb2.size; simp at this; omega
      clear hb2
      have B2 : Below w.heap.size w w2 := (((Below.refl _ _).alloc (Nat.le_refl _) _).alloc (by simp) _).trans (K2.mono (by omega))
      go_wp2_with fail
      go_ret2
      exact ⟨rfl, by go_grown⟩
  · have CA := Lib.hid (checkR_no oa)
    simp only [if_neg (fun h : okR a ∧ okR b => oa h.1)]
    clear oa
    unfold Ra.v
    have i0 : ∀ W, (Instr.index 59 (.agg #[.int .i64 a.num, .int .i64 a.den, .int .i64 b.num, .int .i64 b.den]) (.int .i64 0)).run Try.prog W = .ok (.agg #[.int .i64 a.num, .int .i64 a.den]) W := fun _ => by kernel_rfl
    have i1 : ∀ W, (Instr.index 59 (.agg #[.int .i64 a.num, .int .i64 a.den, .int .i64 b.num, .int .i64 b.den]) (.int .i64 1)).run Try.prog W = .ok (.agg #[.int .i64 b.num, .int .i64 b.den]) W := fun _ => by kernel_rfl
    go_enter Try.func33, Try.ntmps33
    go_wp2_with fail
    refine wp_loop_rounds 3 ?_
    rw [rounds_succ]
    go_wp2_with fail
    refine (Check_any a HA.out _).mono ?_
    rw [CA.out]
    rintro e w1 ⟨rfl, hb1⟩
    have K1 := ((Below.refl (w.heap.size + 2) ((w.alloc (.cells #[.int .i64 a.num, .int .i64 a.den] 23)).alloc (.cells #[.int .i64 b.num, .int .i64 b.den] 23))).alloc (by simp) (.cells #[.int .i64 a.num, .int .i64 a.den] 23)).trans (hb1.mono (by simp))
    have y1 : w.heap.size + 2 ≤ w1.heap.size := by have := hb1.size; simp at this; omega
    clear hb1
    have B1 : Below w.heap.size w w1 := (((Below.refl _ _).alloc (Nat.le_refl _) _).alloc (by simp) _).trans (K1.mono (by omega))
    go_wp2_with fail
    go_ret2
    exact ⟨rfl, by go_grown⟩
end Go.Proofs.Ytaogcmgbmomilaa
