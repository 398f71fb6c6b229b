/- The references of Add, Mul, Compare. -/
import Derived.Test.YtaogcmgbmomilaaRatE
namespace Go.Proofs.Ytaogcmgbmomilaa
open Go.RowKit Go.Shelf
set_option linter.unusedSimpArgs false
set_option linter.unusedVariables false

theorem rcheck_val (a b : Ra) : (if checkR a = 0 then checkR b else checkR a) = if okR a ∧ okR b then 0 else 50 := by
  by_cases h1 : okR a <;> by_cases h2 : okR b <;> simp [checkR, h1, h2]

set_option maxHeartbeats 2000000 in
theorem RAdd_any (a b : Ra) (ha : a.i64) (hb : b.i64) (w : World) :
    Calls Try.prog 17 #[a.v, b.v] w fun e w' => e = .returned (.tuple #[(addP a b).1.v, .int .i64 (addP a b).2]) ∧ Below w.heap.size w w' := by
  have HA := Lib.hid ha
  have HB := Lib.hid hb
  clear ha hb
  by_cases hc : okR a ∧ okR b
  · have HC : Hid ((if okR a ∧ okR b then (0 : Int) else 50) = 0) := Lib.hid (if_pos hc)
    obtain ⟨P, Q, R, T, hP, hQ, hR, hT, p1, p2, q1, q2, r1, r2, t1, t2⟩ := prods hc.1 hc.2
    obtain ⟨⟨⟨n, d⟩, E⟩, hr⟩ : ∃ r, r = addP a b := ⟨_, rfl⟩
    rw [← hr]
    have hr2 : newP (P + Q) R = (⟨n, d⟩, E) := by rw [hr, addP, if_pos hc, hP, hQ, hR]
    have HR := Lib.hid hr2
    clear hr hr2 hc
    unfold Ra.v
    go_enter Try.func17, Try.ntmps17
    go_wp2_with fail
    refine (rcheck_any a b HA.out HB.out _).mono ?_
    rw [rcheck_val, HC.out]
    rintro e w1 ⟨rfl, hb1⟩
    have y1 : w.heap.size + 3 ≤ w1.heap.size := by have := hb1.size; simp at this; omega
    have B1 : Below w.heap.size w w1 := ((((Below.refl _ _).alloc (Nat.le_refl _) _).alloc (by simp) _).alloc (by simp; omega) _).trans (hb1.mono (by simp; omega))
    have K1 := ((Below.refl (w.heap.size + 2) ((w.alloc (.cells #[.int .i64 a.num, .int .i64 a.den] 23)).alloc (.cells #[.int .i64 b.num, .int .i64 b.den] 23))).alloc (by simp) (.cells #[.int .i64 0, .int .i64 0] 23)).trans (hb1.mono (by simp))
    obtain ⟨lc, lf, hlt1⟩ := below_at (w.heap.size + 2) (by simp) hb1 (by simp)
    have l0 := lc 0
    have l1 := lc 1
    have lf0 := lf 0
    have lf1 := lf 1
    simp at l0 l1
    clear lc lf
    obtain ⟨a0, a1, b0, b1, r0, r1⟩ := ab_cells (a := a) (b := b) K1
    go_wp2_with fail
    refine (RNew_any (P + Q) R (I64_of (by omega) (by omega)) (I64_of (by omega) (by omega)) _).mono ?_
    rw [HR.out]
    simp only [Ra.v]
    rintro e w2 ⟨rfl, hb2⟩
    have k0 := (hb2.cell (p := ⟨w.heap.size + 2, 0, none⟩) hlt1).trans l0
    have k1 := (hb2.cell (p := ⟨w.heap.size + 2, 1, none⟩) hlt1).trans l1
    have kf0 := (hb2.frozen (p := ⟨w.heap.size + 2, 0, none⟩) hlt1).trans lf0
    have kf1 := (hb2.frozen (p := ⟨w.heap.size + 2, 1, none⟩) hlt1).trans lf1
    have hlt2 : w.heap.size + 2 < w2.heap.size := Nat.lt_of_lt_of_le hlt1 hb2.size
    have B2 := B1.trans (hb2.mono B1.size)
    clear hb1 hb2 K1 B1 l0 l1 lf0 lf1
    go_wp2_with fail
    have hc := setB (setA ⟨k0, k1⟩ (.int .i64 n)) (.int .i64 d)
    exact bodyPost_ret (v := .tuple #[.agg #[.int .i64 n, .int .i64 d], .int .i64 E]) (by simp [results, Try.results17, go_sem, hc.1, hc.2, hlt2]) rfl ⟨rfl, by go_grown⟩
  · have HC : Hid ((if okR a ∧ okR b then (0 : Int) else 50) = 50) := Lib.hid (if_neg hc)
    rw [addP, if_neg hc]
    clear hc
    unfold Ra.v
    go_enter Try.func17, Try.ntmps17
    go_wp2_with fail
    refine (rcheck_any a b HA.out HB.out _).mono ?_
    rw [rcheck_val, HC.out]
    rintro e w1 ⟨rfl, hb1⟩
    have y1 : w.heap.size + 3 ≤ w1.heap.size := by have := hb1.size; simp at this; omega
    have B1 : Below w.heap.size w w1 := ((((Below.refl _ _).alloc (Nat.le_refl _) _).alloc (by simp) _).alloc (by simp; omega) _).trans (hb1.mono (by simp; omega))
    have K1 := ((Below.refl (w.heap.size + 2) ((w.alloc (.cells #[.int .i64 a.num, .int .i64 a.den] 23)).alloc (.cells #[.int .i64 b.num, .int .i64 b.den] 23))).alloc (by simp) (.cells #[.int .i64 0, .int .i64 0] 23)).trans (hb1.mono (by simp))
    obtain ⟨lc, lf, hlt1⟩ := below_at (w.heap.size + 2) (by simp) hb1 (by simp)
    have l0 := lc 0
    have l1 := lc 1
    have lf0 := lf 0
    have lf1 := lf 1
    simp at l0 l1
    clear lc lf
    go_wp2_with fail
    have hc := setB (setA ⟨l0, l1⟩ (.int .i64 0)) (.int .i64 0)
    exact bodyPost_ret (v := .tuple #[.agg #[.int .i64 0, .int .i64 0], .int .i64 50]) (by simp [results, Try.results17, go_sem, hc.1, hc.2, l0, l1, hlt1]) rfl ⟨rfl, by go_grown⟩

set_option maxHeartbeats 2000000 in
theorem RMul_any (a b : Ra) (ha : a.i64) (hb : b.i64) (w : World) :
    Calls Try.prog 19 #[a.v, b.v] w fun e w' => e = .returned (.tuple #[(mulP a b).1.v, .int .i64 (mulP a b).2]) ∧ Below w.heap.size w w' := by
  have HA := Lib.hid ha
  have HB := Lib.hid hb
  clear ha hb
  by_cases hc : okR a ∧ okR b
  · have HC : Hid ((if okR a ∧ okR b then (0 : Int) else 50) = 0) := Lib.hid (if_pos hc)
    obtain ⟨P, Q, R, T, hP, hQ, hR, hT, p1, p2, q1, q2, r1, r2, t1, t2⟩ := prods hc.1 hc.2
    obtain ⟨⟨⟨n, d⟩, E⟩, hr⟩ : ∃ r, r = mulP a b := ⟨_, rfl⟩
    rw [← hr]
    have hr2 : newP T R = (⟨n, d⟩, E) := by rw [hr, mulP, if_pos hc, hT, hR]
    have HR := Lib.hid hr2
    clear hr hr2 hc
    unfold Ra.v
    go_enter Try.func19, Try.ntmps19
    go_wp2_with fail
    refine (rcheck_any a b HA.out HB.out _).mono ?_
    rw [rcheck_val, HC.out]
    rintro e w1 ⟨rfl, hb1⟩
    have y1 : w.heap.size + 3 ≤ w1.heap.size := by have := hb1.size; simp at this; omega
    have B1 : Below w.heap.size w w1 := ((((Below.refl _ _).alloc (Nat.le_refl _) _).alloc (by simp) _).alloc (by simp; omega) _).trans (hb1.mono (by simp; omega))
    have K1 := ((Below.refl (w.heap.size + 2) ((w.alloc (.cells #[.int .i64 a.num, .int .i64 a.den] 23)).alloc (.cells #[.int .i64 b.num, .int .i64 b.den] 23))).alloc (by simp) (.cells #[.int .i64 0, .int .i64 0] 23)).trans (hb1.mono (by simp))
    obtain ⟨lc, lf, hlt1⟩ := below_at (w.heap.size + 2) (by simp) hb1 (by simp)
    have l0 := lc 0
    have l1 := lc 1
    have lf0 := lf 0
    have lf1 := lf 1
    simp at l0 l1
    clear lc lf
    obtain ⟨a0, a1, b0, b1, r0, r1⟩ := ab_cells (a := a) (b := b) K1
    go_wp2_with fail
    refine (RNew_any T R (I64_of (by omega) (by omega)) (I64_of (by omega) (by omega)) _).mono ?_
    rw [HR.out]
    simp only [Ra.v]
    rintro e w2 ⟨rfl, hb2⟩
    have k0 := (hb2.cell (p := ⟨w.heap.size + 2, 0, none⟩) hlt1).trans l0
    have k1 := (hb2.cell (p := ⟨w.heap.size + 2, 1, none⟩) hlt1).trans l1
    have kf0 := (hb2.frozen (p := ⟨w.heap.size + 2, 0, none⟩) hlt1).trans lf0
    have kf1 := (hb2.frozen (p := ⟨w.heap.size + 2, 1, none⟩) hlt1).trans lf1
    have hlt2 : w.heap.size + 2 < w2.heap.size := Nat.lt_of_lt_of_le hlt1 hb2.size
    have B2 := B1.trans (hb2.mono B1.size)
    clear hb1 hb2 K1 B1 l0 l1 lf0 lf1
    go_wp2_with fail
    have hc := setB (setA ⟨k0, k1⟩ (.int .i64 n)) (.int .i64 d)
    exact bodyPost_ret (v := .tuple #[.agg #[.int .i64 n, .int .i64 d], .int .i64 E]) (by simp [results, Try.results19, go_sem, hc.1, hc.2, hlt2]) rfl ⟨rfl, by go_grown⟩
  · have HC : Hid ((if okR a ∧ okR b then (0 : Int) else 50) = 50) := Lib.hid (if_neg hc)
    rw [mulP, if_neg hc]
    clear hc
    unfold Ra.v
    go_enter Try.func19, Try.ntmps19
    go_wp2_with fail
    refine (rcheck_any a b HA.out HB.out _).mono ?_
    rw [rcheck_val, HC.out]
    rintro e w1 ⟨rfl, hb1⟩
    have y1 : w.heap.size + 3 ≤ w1.heap.size := by have := hb1.size; simp at this; omega
    have B1 : Below w.heap.size w w1 := ((((Below.refl _ _).alloc (Nat.le_refl _) _).alloc (by simp) _).alloc (by simp; omega) _).trans (hb1.mono (by simp; omega))
    have K1 := ((Below.refl (w.heap.size + 2) ((w.alloc (.cells #[.int .i64 a.num, .int .i64 a.den] 23)).alloc (.cells #[.int .i64 b.num, .int .i64 b.den] 23))).alloc (by simp) (.cells #[.int .i64 0, .int .i64 0] 23)).trans (hb1.mono (by simp))
    obtain ⟨lc, lf, hlt1⟩ := below_at (w.heap.size + 2) (by simp) hb1 (by simp)
    have l0 := lc 0
    have l1 := lc 1
    have lf0 := lf 0
    have lf1 := lf 1
    simp at l0 l1
    clear lc lf
    go_wp2_with fail
    have hc := setB (setA ⟨l0, l1⟩ (.int .i64 0)) (.int .i64 0)
    exact bodyPost_ret (v := .tuple #[.agg #[.int .i64 0, .int .i64 0], .int .i64 50]) (by simp [results, Try.results19, go_sem, hc.1, hc.2, l0, l1, hlt1]) rfl ⟨rfl, by go_grown⟩

set_option maxHeartbeats 2000000 in
theorem RRaCompare_any (a b : Ra) (ha : a.i64) (hb : b.i64) (w : World) :
    Calls Try.prog 21 #[a.v, b.v] w fun e w' => e = .returned (.tuple #[.int .i64 (cmpP a b).1, .int .i64 (cmpP a b).2]) ∧ Below w.heap.size w w' := by
  have HA := Lib.hid ha
  have HB := Lib.hid hb
  clear ha hb
  by_cases hc : okR a ∧ okR b
  · have HC : Hid ((if okR a ∧ okR b then (0 : Int) else 50) = 0) := Lib.hid (if_pos hc)
    obtain ⟨P, Q, R, T, hP, hQ, hR, hT, p1, p2, q1, q2, r1, r2, t1, t2⟩ := prods hc.1 hc.2
    rw [cmpP, if_pos hc, hP, hQ]
    have hcm : cmpI P Q = cmpI P Q := rfl
    clear hc hR hT
    unfold Ra.v
    have h3 : (P < Q ∧ cmpI P Q = -1) ∨ (¬ P < Q ∧ Q < P ∧ cmpI P Q = 1) ∨ (¬ P < Q ∧ ¬ Q < P ∧ cmpI P Q = 0) := by unfold cmpI; (repeat' split) <;> omega
    rcases h3 with ⟨g1, g3⟩ | ⟨g1, g2, g3⟩ | ⟨g1, g2, g3⟩
    all_goals
      rw [g3]
      clear g3 hcm
      go_enter Try.func21, Try.ntmps21
      go_wp2_with fail
      refine (rcheck_any a b HA.out HB.out _).mono ?_
      rw [rcheck_val, HC.out]
      rintro e w1 ⟨rfl, hb1⟩
      have y1 : w.heap.size + 2 ≤ w1.heap.size := by have := hb1.size; simp at this; omega
      have B1 : Below w.heap.size w w1 := (((Below.refl _ _).alloc (Nat.le_refl _) _).alloc (by simp) _).trans (hb1.mono (by simp; omega))
      have K1 := (Below.refl (w.heap.size + 2) ((w.alloc (.cells #[.int .i64 a.num, .int .i64 a.den] 23)).alloc (.cells #[.int .i64 b.num, .int .i64 b.den] 23))).trans (hb1.mono (by simp))
      obtain ⟨a0, a1, b0, b1, r0, r1⟩ := ab_cells (a := a) (b := b) K1
      go_wp2_with fail
      go_ret2
      exact ⟨rfl, B1⟩
  · have HC : Hid ((if okR a ∧ okR b then (0 : Int) else 50) = 50) := Lib.hid (if_neg hc)
    rw [cmpP, if_neg hc]
    clear hc
    unfold Ra.v
    go_enter Try.func21, Try.ntmps21
    go_wp2_with fail
    refine (rcheck_any a b HA.out HB.out _).mono ?_
    rw [rcheck_val, HC.out]
    rintro e w1 ⟨rfl, hb1⟩
    have y1 : w.heap.size + 2 ≤ w1.heap.size := by have := hb1.size; simp at this; omega
    have B1 : Below w.heap.size w w1 := (((Below.refl _ _).alloc (Nat.le_refl _) _).alloc (by simp) _).trans (hb1.mono (by simp; omega))
    have K1 := (Below.refl (w.heap.size + 2) ((w.alloc (.cells #[.int .i64 a.num, .int .i64 a.den] 23)).alloc (.cells #[.int .i64 b.num, .int .i64 b.den] 23))).trans (hb1.mono (by simp))
    go_wp2_with fail
    go_ret2
    exact ⟨rfl, B1⟩

end Go.Proofs.Ytaogcmgbmomilaa
