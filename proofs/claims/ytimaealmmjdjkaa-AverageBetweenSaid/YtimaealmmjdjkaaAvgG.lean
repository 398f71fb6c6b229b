/- Needed and its reference. -/
import Derived.Test.YtimaealmmjdjkaaAvgF
namespace Go.Proofs.Ytimaealmmjdjkaa
open Go.RowKit Go.Shelf
set_option linter.unusedSimpArgs false
set_option linter.unusedVariables false

/-- the grade g suffices -/
def enough (s q credits : Int) (goal : Ra) (g : Nat) : Bool := decide (goal.num * (s + credits) ≤ (q + (g : Int) * credits) * goal.den)
theorem neededA_bad {xs : List At} {cr : Int} {g : Ra} (h : (xs.any fun a => !a.good) = true) : neededA xs cr g = (0, false, 150) := by unfold neededA; rw [h]; rfl
theorem neededA_arg {xs : List At} {cr : Int} {g : Ra} (h : (xs.any fun a => !a.good) = false) (hc : inB cr 1 10000 = false) : neededA xs cr g = (0, false, 1) := by unfold neededA; rw [h, hc]; rfl
theorem neededA_rat {xs : List At} {cr : Int} {g : Ra} (h : (xs.any fun a => !a.good) = false) (hc : inB cr 1 10000 = true) (hg : ¬ okR g) : neededA xs cr g = (0, false, 50) := by unfold neededA; rw [h, hc, checkR_no hg]; rfl
theorem neededA_some {xs : List At} {cr : Int} {g : Ra} {k : Nat} (h : (xs.any fun a => !a.good) = false) (hc : inB cr 1 10000 = true) (hg : okR g) (hk : k < 13) (hn : ∀ j, j < k → enough (sC xs) (sP xs) cr g j = false) (hy : enough (sC xs) (sP xs) cr g k = true) : neededA xs cr g = ((k : Int), true, 0) := by
  unfold neededA
  rw [h, hc, checkR_ok hg]
  have e : (List.range 13).find? (enough (sC xs) (sP xs) cr g) = some k := find_some (k := k) (fun j hj hlt => by rw [List.getElem_range]; exact hn j hlt) (by rw [List.getElem?_range hk]) hy
  unfold enough at e
  simp only [Bool.false_eq_true, if_false, if_true, reduceCtorEq, e]
theorem neededA_none {xs : List At} {cr : Int} {g : Ra} (h : (xs.any fun a => !a.good) = false) (hc : inB cr 1 10000 = true) (hg : okR g) (hn : ∀ j, j < 13 → enough (sC xs) (sP xs) cr g j = false) : neededA xs cr g = (0, false, 0) := by
  unfold neededA
  rw [h, hc, checkR_ok hg]
  have e : (List.range 13).find? (enough (sC xs) (sP xs) cr g) = none := find_none (fun j hj => by rw [List.getElem_range]; exact hn j (by simpa using hj))
  unfold enough at e
  simp only [Bool.false_eq_true, if_false, if_true, reduceCtorEq, e]
/-- what a round computes, and its bounds -/
theorem round_at {s q cr : Int} {goal : Ra} {k : Nat} (hs0 : 0 ≤ s) (hs : s ≤ 6000000) (hq0 : 0 ≤ q) (hq : q ≤ 72000000) (hc0 : 1 ≤ cr) (hc : cr ≤ 10000) (hg : okR goal) (hk : k < 13) :
    ∃ P Q R : Int, (k : Int) * cr = P ∧ (q + P) * goal.den = Q ∧ goal.num * (s + cr) = R ∧ 0 ≤ P ∧ P ≤ 130000 ∧ -9000000000000000000 ≤ Q ∧ Q ≤ 9000000000000000000 ∧ -9000000000000000000 ≤ R ∧ R ≤ 9000000000000000000 ∧ enough s q cr goal k = decide (R ≤ Q) := by
  obtain ⟨g1, g2, g3, g4, _⟩ := hg
  have h1 : ((k : Int) * cr).natAbs ≤ 13 * 10000 := by rw [Int.natAbs_mul]; exact Nat.mul_le_mul (by omega) (by omega)
  have h1b : 0 ≤ (k : Int) * cr := Int.mul_nonneg (by omega) (by omega)
  obtain ⟨P, hP⟩ : ∃ P, (k : Int) * cr = P := ⟨_, rfl⟩
  rw [hP] at h1 h1b
  have h2 : ((q + P) * goal.den).natAbs ≤ 73000000 * 1073741824 := by rw [Int.natAbs_mul]; exact Nat.mul_le_mul (by omega) (by omega)
  have h3 : (goal.num * (s + cr)).natAbs ≤ 1073741824 * 7000000 := by rw [Int.natAbs_mul]; exact Nat.mul_le_mul (by omega) (by omega)
  exact ⟨P, _, _, hP, rfl, rfl, h1b, by omega, by omega, by omega, by omega, by omega, by unfold enough; rw [hP]⟩

set_option maxHeartbeats 4000000 in
theorem Needed_any (xs : List At) (A : Option Addr) (c : Nat) (cr : Int) (goal : Ra) (w : World) (hx : Reads w w.heap.size A 5 At.enc xs) (hl : xs.length ≤ 100000) (hcr : I64 cr) (hgo : goal.i64) :
    Calls Try.prog 21 #[.slice A xs.length c, .int .i64 cr, goal.v] w fun e w' => e = .returned (.tuple #[.int .i64 (neededA xs cr goal).1, .bool (neededA xs cr goal).2.1, .int .i64 (neededA xs cr goal).2.2]) ∧ Below w.heap.size w w' := by
  have HX := Lib.hid hx
  have HGO := Lib.hid hgo
  have HCR := Lib.hid hcr
  unfold I64 at hcr
  clear hx hgo
  cases hb : xs.any (fun a => !a.good)
  rotate_left
  · have HS : Hid (sumsA xs = (0, 0, 150)) := Lib.hid (sumsA_bad hb)
    rw [neededA_bad hb]
    simp only [Ra.v]
    clear hb
    go_enter Try.func21, Try.ntmps21
    go_wp2_with fail
    refine (Sums_any xs A c _ ((HX.out.below ((Below.refl _ _).alloc (Nat.le_refl _) _)).more (by simp)) hl).mono ?_
    rw [HS.out]
    rintro e w1 ⟨rfl, hb1⟩
    obtain ⟨lc, lf, hlt1⟩ := below_at w.heap.size rfl hb1 (by simp)
    have l0 := lc 0
    have l1 := lc 1
    simp at l0 l1
    have B1 : Below w.heap.size w w1 := ((Below.refl _ _).alloc (Nat.le_refl _) _).trans (hb1.mono (by simp))
    clear hb1 lc lf
    go_wp2_with fail
    go_ret3
    exact ⟨rfl, B1⟩
  have hg := all_good hb
  obtain ⟨b1, b2, b3, b4⟩ := sums_at xs hg
  obtain ⟨s, hs⟩ : ∃ s, s = sC xs := ⟨_, rfl⟩
  obtain ⟨q, hq⟩ : ∃ q, q = sP xs := ⟨_, rfl⟩
  have HS : Hid (sumsA xs = (s, q, 0)) := Lib.hid (by rw [sumsA_good hb, hs, hq])
  have HSC := Lib.hid hs.symm
  have HSP := Lib.hid hq.symm
  have HBD := Lib.hid hb
  rw [← hs] at b1 b2
  rw [← hq] at b3 b4
  have e1 : s ≤ 6000000 := by omega
  have e2 : q ≤ 72000000 := by omega
  clear hs hq hg b2 b4
  cases hi : inB cr 1 10000
  · rw [neededA_arg hb hi]
    have HI := Lib.hid hi
    simp only [Ra.v]
    clear hb hi
    go_enter Try.func21, Try.ntmps21
    go_wp2_with fail
    refine (Sums_any xs A c _ ((HX.out.below ((Below.refl _ _).alloc (Nat.le_refl _) _)).more (by simp)) hl).mono ?_
    rw [HS.out]
    rintro e w1 ⟨rfl, hb1⟩
    obtain ⟨lc, lf, hlt1⟩ := below_at w.heap.size rfl hb1 (by simp)
    have l0 := lc 0
    have l1 := lc 1
    simp at l0 l1
    have B1 : Below w.heap.size w w1 := ((Below.refl _ _).alloc (Nat.le_refl _) _).trans (hb1.mono (by simp))
    clear hb1 lc lf
    go_wp2_with fail
    refine (within_any cr 1 10000 _).mono ?_
    rw [HI.out]
    rintro e w9 ⟨rfl, rfl⟩
    go_wp2_with fail
    go_ret3
    exact ⟨rfl, B1⟩
  have hcb : 1 ≤ cr ∧ cr ≤ 10000 := by simpa [inB] using hi
  obtain ⟨c1, c2⟩ := hcb
  have HI := Lib.hid hi
  have d1 : decide (cr < 1) = false := by simp; omega
  have d2 : decide ((10000 : Int) < cr) = false := by simp; omega
  by_cases hgk : okR goal
  rotate_left
  · rw [neededA_rat hb hi hgk]
    have HC := Lib.hid (checkR_no hgk)
    simp only [Ra.v]
    clear hb hi hgk
    go_enter Try.func21, Try.ntmps21
    go_wp2_with fail
    refine (Sums_any xs A c _ ((HX.out.below ((Below.refl _ _).alloc (Nat.le_refl _) _)).more (by simp)) hl).mono ?_
    rw [HS.out]
    rintro e w1 ⟨rfl, hb1⟩
    obtain ⟨lc, lf, hlt1⟩ := below_at w.heap.size rfl hb1 (by simp)
    have l0 := lc 0
    have l1 := lc 1
    simp at l0 l1
    have B1 : Below w.heap.size w w1 := ((Below.refl _ _).alloc (Nat.le_refl _) _).trans (hb1.mono (by simp))
    clear hb1 lc lf
    go_wp2_with fail
    refine (within_any cr 1 10000 _).mono ?_
    rw [HI.out]
    rintro e w9 ⟨rfl, rfl⟩
    go_wp2_with fail
    refine (Check_any goal HGO.out _).mono ?_
    rw [HC.out]
    rintro e w2 ⟨rfl, hb2⟩
    have m0 := (hb2.cell (p := ⟨w.heap.size, 0, none⟩) hlt1).trans l0
    have m1 := (hb2.cell (p := ⟨w.heap.size, 1, none⟩) hlt1).trans l1
    have B2 : Below w.heap.size w w2 := B1.trans (hb2.mono B1.size)
    have hlt2 : w.heap.size < w2.heap.size := by have := hb2.size; omega
    clear hb2 l0 l1 hlt1 B1
    go_wp2_with fail
    go_ret3
    exact ⟨rfl, B2⟩
  have HC := Lib.hid (checkR_ok hgk)
  have HGK := Lib.hid hgk
  obtain ⟨⟨n, bo, E⟩, hr⟩ : ∃ r, r = neededA xs cr goal := ⟨_, rfl⟩
  rw [← hr]
  have HR := Lib.hid hr
  clear hb hi hgk hr
  simp only [Ra.v]
  go_enter Try.func21, Try.ntmps21
  go_wp2_with fail
  refine (Sums_any xs A c _ ((HX.out.below ((Below.refl _ _).alloc (Nat.le_refl _) _)).more (by simp)) hl).mono ?_
  rw [HS.out]
  rintro e w1 ⟨rfl, hb1⟩
  obtain ⟨lc, lf, hlt1⟩ := below_at w.heap.size rfl hb1 (by simp)
  have l0 := lc 0
  have l1 := lc 1
  simp at l0 l1
  have B1 : Below w.heap.size w w1 := ((Below.refl _ _).alloc (Nat.le_refl _) _).trans (hb1.mono (by simp))
  clear hb1 lc lf
  go_wp2_with fail
  refine (within_any cr 1 10000 _).mono ?_
  rw [HI.out]
  rintro e w9 ⟨rfl, rfl⟩
  go_wp2_with fail
  refine (Check_any goal HGO.out _).mono ?_
  rw [HC.out]
  rintro e w2 ⟨rfl, hb2⟩
  have m0 := (hb2.cell (p := ⟨w.heap.size, 0, none⟩) hlt1).trans l0
  have m1 := (hb2.cell (p := ⟨w.heap.size, 1, none⟩) hlt1).trans l1
  have B2 : Below w.heap.size w w2 := B1.trans (hb2.mono B1.size)
  have hlt2 : w.heap.size < w2.heap.size := by have := hb2.size; omega
  clear hb2 l0 l1 hlt1 B1
  go_wp2_with fail
  have HB2 := Lib.hid B2
  clear B2
  go_loop [28] (fun i => ∃ k : Nat, k ≤ 13 ∧ i = .int .i64 k ∧ ∀ j, j < k → enough s q cr goal j = false) (fun i => 13 - (intOf i).toNat)
  case atStart => exact ⟨0, Nat.zero_le _, rfl, fun j h => absurd h (by omega)⟩
  case round =>
    obtain ⟨k, hk, rfl, hno⟩ := hrel
    have HNO := Lib.hid hno
    clear hno
    by_cases hlt : k < 13
    · obtain ⟨P, Q, R, hP, hQ, hRR, p1, p2, q1, q2, r1, r2, hen⟩ := round_at (s := s) (q := q) (cr := cr) (goal := goal) (k := k) b1 e1 b3 e2 c1 c2 HGK.out hlt
      have HEN := Lib.hid hen
      clear hen
      by_cases hte : R ≤ Q
      · have HV : Hid (neededA xs cr goal = ((k : Int), true, 0)) := Lib.hid (neededA_some HBD.out HI.out HGK.out hlt (by rw [HSC.out, HSP.out]; exact HNO.out) (by rw [HSC.out, HSP.out, HEN.out]; simp [hte]))
        have hv := HR.out
        rw [HV.out] at hv
        simp only [Prod.mk.injEq] at hv
        have HV2 := Lib.hid hv
        clear hv
        go_wp2_with fail
        go_ret3
        obtain ⟨h1, h2, h3⟩ := HV2.out
        rw [h1, h2, h3]
        exact ⟨rfl, HB2.out⟩
      · have HEF : Hid (enough s q cr goal k = false) := Lib.hid (by rw [HEN.out]; simp; omega)
        go_wp2_with fail
        go_round
        case rel => exact ⟨k + 1, by omega, by go_num, fun j hj => by
          by_cases h : j = k
          · rw [h]; exact HEF.out
          · exact HNO.out j (by omega)⟩
        case measure => simp [intOf]; omega
    · obtain rfl : k = 13 := by omega
      have HV : Hid (neededA xs cr goal = (0, false, 0)) := Lib.hid (neededA_none HBD.out HI.out HGK.out (by rw [HSC.out, HSP.out]; exact HNO.out))
      have hv := HR.out
      rw [HV.out] at hv
      simp only [Prod.mk.injEq] at hv
      have HV2 := Lib.hid hv
      clear hv
      go_wp2_with fail
      go_ret3
      obtain ⟨h1, h2, h3⟩ := HV2.out
      rw [h1, h2, h3]
      exact ⟨rfl, HB2.out⟩

set_option maxHeartbeats 4000000 in
theorem RNeeded_any (xs : List At) (A : Option Addr) (c : Nat) (cr : Int) (goal : Ra) (w : World) (hx : Reads w w.heap.size A 5 At.enc xs) (hl : xs.length ≤ 100000) (hcr : I64 cr) (hgo : goal.i64) :
    Calls Try.prog 22 #[.slice A xs.length c, .int .i64 cr, goal.v] w fun e w' => e = .returned (.tuple #[.int .i64 (neededA xs cr goal).1, .bool (neededA xs cr goal).2.1, .int .i64 (neededA xs cr goal).2.2]) ∧ Below w.heap.size w w' := by
  have HX := Lib.hid hx
  have HGO := Lib.hid hgo
  have HCR := Lib.hid hcr
  unfold I64 at hcr
  clear hx hgo
  cases hb : xs.any (fun a => !a.good)
  rotate_left
  · have HS : Hid (sumsA xs = (0, 0, 150)) := Lib.hid (sumsA_bad hb)
    rw [neededA_bad hb]
    simp only [Ra.v]
    clear hb
    go_enter Try.func22, Try.ntmps22
    go_wp2_with fail
    refine (RSums_any xs A c _ ((HX.out.below ((Below.refl _ _).alloc (Nat.le_refl _) _)).more (by simp)) hl).mono ?_
    rw [HS.out]
    rintro e w1 ⟨rfl, hb1⟩
    obtain ⟨lc, lf, hlt1⟩ := below_at w.heap.size rfl hb1 (by simp)
    have l0 := lc 0
    have l1 := lc 1
    simp at l0 l1
    have B1 : Below w.heap.size w w1 := ((Below.refl _ _).alloc (Nat.le_refl _) _).trans (hb1.mono (by simp))
    clear hb1 lc lf
    go_wp2_with fail
    go_ret3
    exact ⟨rfl, B1⟩
  have hg := all_good hb
  obtain ⟨b1, b2, b3, b4⟩ := sums_at xs hg
  obtain ⟨s, hs⟩ : ∃ s, s = sC xs := ⟨_, rfl⟩
  obtain ⟨q, hq⟩ : ∃ q, q = sP xs := ⟨_, rfl⟩
  have HS : Hid (sumsA xs = (s, q, 0)) := Lib.hid (by rw [sumsA_good hb, hs, hq])
  have HSC := Lib.hid hs.symm
  have HSP := Lib.hid hq.symm
  have HBD := Lib.hid hb
  rw [← hs] at b1 b2
  rw [← hq] at b3 b4
  have e1 : s ≤ 6000000 := by omega
  have e2 : q ≤ 72000000 := by omega
  clear hs hq hg b2 b4
  cases hi : inB cr 1 10000
  · rw [neededA_arg hb hi]
    have HI := Lib.hid hi
    simp only [Ra.v]
    have hcase : decide (cr < 1) = true ∨ (decide (cr < 1) = false ∧ decide ((10000 : Int) < cr) = true) := by
      simp [inB] at hi
      simp
      omega
    clear hb hi
    rcases hcase with d1 | ⟨d1, d2⟩
    all_goals
      go_enter Try.func22, Try.ntmps22
      go_wp2_with fail
      refine (RSums_any xs A c _ ((HX.out.below ((Below.refl _ _).alloc (Nat.le_refl _) _)).more (by simp)) hl).mono ?_
      rw [HS.out]
      rintro e w1 ⟨rfl, hb1⟩
      obtain ⟨lc, lf, hlt1⟩ := below_at w.heap.size rfl hb1 (by simp)
      have l0 := lc 0
      have l1 := lc 1
      simp at l0 l1
      have B1 : Below w.heap.size w w1 := ((Below.refl _ _).alloc (Nat.le_refl _) _).trans (hb1.mono (by simp))
      clear hb1 lc lf
      go_wp2_with fail
      go_ret3
      exact ⟨rfl, B1⟩
  have hcb : 1 ≤ cr ∧ cr ≤ 10000 := by simpa [inB] using hi
  obtain ⟨c1, c2⟩ := hcb
  have HI := Lib.hid hi
  have d1 : decide (cr < 1) = false := by simp; omega
  have d2 : decide ((10000 : Int) < cr) = false := by simp; omega
  by_cases hgk : okR goal
  rotate_left
  · rw [neededA_rat hb hi hgk]
    have HC := Lib.hid (checkR_no hgk)
    simp only [Ra.v]
    clear hb hi hgk
    go_enter Try.func22, Try.ntmps22
    go_wp2_with fail
    refine (RSums_any xs A c _ ((HX.out.below ((Below.refl _ _).alloc (Nat.le_refl _) _)).more (by simp)) hl).mono ?_
    rw [HS.out]
    rintro e w1 ⟨rfl, hb1⟩
    obtain ⟨lc, lf, hlt1⟩ := below_at w.heap.size rfl hb1 (by simp)
    have l0 := lc 0
    have l1 := lc 1
    simp at l0 l1
    have B1 : Below w.heap.size w w1 := ((Below.refl _ _).alloc (Nat.le_refl _) _).trans (hb1.mono (by simp))
    clear hb1 lc lf
    go_wp2_with fail
    refine (RRaCheck_any goal HGO.out _).mono ?_
    rw [HC.out]
    rintro e w2 ⟨rfl, hb2⟩
    have m0 := (hb2.cell (p := ⟨w.heap.size, 0, none⟩) hlt1).trans l0
    have m1 := (hb2.cell (p := ⟨w.heap.size, 1, none⟩) hlt1).trans l1
    have B2 : Below w.heap.size w w2 := B1.trans (hb2.mono B1.size)
    have hlt2 : w.heap.size < w2.heap.size := by have := hb2.size; omega
    clear hb2 l0 l1 hlt1 B1
    go_wp2_with fail
    go_ret3
    exact ⟨rfl, B2⟩
  have HC := Lib.hid (checkR_ok hgk)
  have HGK := Lib.hid hgk
  obtain ⟨⟨n, bo, E⟩, hr⟩ : ∃ r, r = neededA xs cr goal := ⟨_, rfl⟩
  rw [← hr]
  have HR := Lib.hid hr
  clear hb hi hgk hr
  simp only [Ra.v]
  go_enter Try.func22, Try.ntmps22
  go_wp2_with fail
  refine (RSums_any xs A c _ ((HX.out.below ((Below.refl _ _).alloc (Nat.le_refl _) _)).more (by simp)) hl).mono ?_
  rw [HS.out]
  rintro e w1 ⟨rfl, hb1⟩
  obtain ⟨lc, lf, hlt1⟩ := below_at w.heap.size rfl hb1 (by simp)
  have l0 := lc 0
  have l1 := lc 1
  simp at l0 l1
  have B1 : Below w.heap.size w w1 := ((Below.refl _ _).alloc (Nat.le_refl _) _).trans (hb1.mono (by simp))
  clear hb1 lc lf
  go_wp2_with fail
  refine (RRaCheck_any goal HGO.out _).mono ?_
  rw [HC.out]
  rintro e w2 ⟨rfl, hb2⟩
  have m0 := (hb2.cell (p := ⟨w.heap.size, 0, none⟩) hlt1).trans l0
  have m1 := (hb2.cell (p := ⟨w.heap.size, 1, none⟩) hlt1).trans l1
  have B2 : Below w.heap.size w w2 := B1.trans (hb2.mono B1.size)
  have hlt2 : w.heap.size < w2.heap.size := by have := hb2.size; omega
  clear hb2 l0 l1 hlt1 B1
  go_wp2_with fail
  have HB2 := Lib.hid B2
  clear B2
  go_loop [12] (fun i => ∃ k : Nat, k ≤ 13 ∧ i = .int .i64 k ∧ ∀ j, j < k → enough s q cr goal j = false) (fun i => 13 - (intOf i).toNat)
  case atStart => exact ⟨0, Nat.zero_le _, rfl, fun j h => absurd h (by omega)⟩
  case round =>
    obtain ⟨k, hk, rfl, hno⟩ := hrel
    have HNO := Lib.hid hno
    clear hno
    by_cases hlt : k < 13
    · obtain ⟨P, Q, R, hP, hQ, hRR, p1, p2, q1, q2, r1, r2, hen⟩ := round_at (s := s) (q := q) (cr := cr) (goal := goal) (k := k) b1 e1 b3 e2 c1 c2 HGK.out hlt
      have HEN := Lib.hid hen
      clear hen
      by_cases hte : R ≤ Q
      · have HV : Hid (neededA xs cr goal = ((k : Int), true, 0)) := Lib.hid (neededA_some HBD.out HI.out HGK.out hlt (by rw [HSC.out, HSP.out]; exact HNO.out) (by rw [HSC.out, HSP.out, HEN.out]; simp [hte]))
        have hv := HR.out
        rw [HV.out] at hv
        simp only [Prod.mk.injEq] at hv
        have HV2 := Lib.hid hv
        clear hv
        go_wp2_with fail
        go_ret3
        obtain ⟨h1, h2, h3⟩ := HV2.out
        rw [h1, h2, h3]
        exact ⟨rfl, HB2.out⟩
      · have HEF : Hid (enough s q cr goal k = false) := Lib.hid (by rw [HEN.out]; simp; omega)
        go_wp2_with fail
        go_round
        case rel => exact ⟨k + 1, by omega, by go_num, fun j hj => by
          by_cases h : j = k
          · rw [h]; exact HEF.out
          · exact HNO.out j (by omega)⟩
        case measure => simp [intOf]; omega
    · obtain rfl : k = 13 := by omega
      have HV : Hid (neededA xs cr goal = (0, false, 0)) := Lib.hid (neededA_none HBD.out HI.out HGK.out (by rw [HSC.out, HSP.out]; exact HNO.out))
      have hv := HR.out
      rw [HV.out] at hv
      simp only [Prod.mk.injEq] at hv
      have HV2 := Lib.hid hv
      clear hv
      go_wp2_with fail
      go_ret3
      obtain ⟨h1, h2, h3⟩ := HV2.out
      rw [h1, h2, h3]
      exact ⟨rfl, HB2.out⟩

end Go.Proofs.Ytimaealmmjdjkaa
