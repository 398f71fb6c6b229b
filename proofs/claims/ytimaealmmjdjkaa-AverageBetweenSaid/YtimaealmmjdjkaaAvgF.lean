/- Mean and its reference; the reference's Earned; Needed and its reference; Same. -/
import Derived.Test.YtimaealmmjdjkaaAvgE
import Derived.Test.YtimaealmmjdjkaaAvRat
import Derived.BigRegion
namespace Go.Proofs.Ytimaealmmjdjkaa
open Go.RowKit Go.Shelf
set_option linter.unusedSimpArgs false
set_option linter.unusedVariables false

/-- Mean -/
def meanA (xs : List At) : Ra × Int := if xs.any (fun a => !a.good) then (⟨0, 0⟩, 150) else if sC xs = 0 then (⟨0, 1⟩, 0) else newP (sP xs) (sC xs)
/-- Needed -/
def neededA (xs : List At) (credits : Int) (goal : Ra) : Int × Bool × Int :=
  if xs.any (fun a => !a.good) then (0, false, 150) else if inB credits 1 10000 = false then (0, false, 1) else if checkR goal = 0 then
    (match (List.range 13).find? (fun g : Nat => decide (goal.num * (sC xs + credits) ≤ (sP xs + (g : Int) * credits) * goal.den)) with
     | some g => ((g : Int), true, 0)
     | none => (0, false, 0))
  else (0, false, checkR goal)

theorem sumsA_bad {xs : List At} (h : (xs.any fun a => !a.good) = true) : sumsA xs = (0, 0, 150) := by unfold sumsA; rw [h]; rfl
theorem sumsA_good {xs : List At} (h : (xs.any fun a => !a.good) = false) : sumsA xs = (sC xs, sP xs, 0) := by unfold sumsA; rw [h]; rfl
theorem meanA_bad {xs : List At} (h : (xs.any fun a => !a.good) = true) : meanA xs = (⟨0, 0⟩, 150) := by unfold meanA; rw [h]; rfl
theorem meanA_zero {xs : List At} (h : (xs.any fun a => !a.good) = false) (h0 : sC xs = 0) : meanA xs = (⟨0, 1⟩, 0) := by unfold meanA; rw [h]; simp [h0]
theorem meanA_some {xs : List At} (h : (xs.any fun a => !a.good) = false) (h0 : ¬ sC xs = 0) : meanA xs = newP (sP xs) (sC xs) := by unfold meanA; rw [h]; simp [h0]
theorem all_good {xs : List At} (h : (xs.any fun a => !a.good) = false) : ∀ x ∈ xs, x.good = true := fun x hx => by have := List.any_eq_false.1 h x hx; simpa using this

set_option maxHeartbeats 2000000 in
theorem Mean_any (xs : List At) (A : Option Addr) (c : Nat) (w : World) (hx : Reads w w.heap.size A 5 At.enc xs) (hl : xs.length ≤ 100000) :
    Calls Try.prog 14 #[.slice A xs.length c] w fun e w' => e = .returned (.tuple #[(meanA xs).1.v, .int .i64 (meanA xs).2]) ∧ Below w.heap.size w w' := by
  have HX := Lib.hid hx
  clear hx
  cases hb : xs.any (fun a => !a.good)
  · have hg := all_good hb
    obtain ⟨b1, b2, b3, b4⟩ := sums_at xs hg
    obtain ⟨s, hs⟩ : ∃ s, s = sC xs := ⟨_, rfl⟩
    obtain ⟨q, hq⟩ : ∃ q, q = sP xs := ⟨_, rfl⟩
    have HS : Hid (sumsA xs = (s, q, 0)) := Lib.hid (by rw [sumsA_good hb, hs, hq])
    have e1 : s ≤ 6000000 := by omega
    have e2 : q ≤ 72000000 := by omega
    have e3 : 0 ≤ s := by omega
    have e4 : 0 ≤ q := by omega
    by_cases h0 : s = 0
    · rw [meanA_zero hb (by omega)]
      have k0 : (s == 0) = true := by simp [h0]
      simp only [Ra.v]
      clear hb hg b1 b2 b3 b4 hs hq h0
      go_enter Try.func14, Try.ntmps14
      go_wp2_with fail
      refine (Sums_any xs A c _ ((HX.out.below ((Below.refl _ _).alloc (Nat.le_refl _) _)).more (by simp)) hl).mono ?_
      rw [HS.out]
      rintro e w1 ⟨rfl, hb1⟩
      obtain ⟨lc, lf, hlt1⟩ := below_at w.heap.size rfl hb1 (by simp)
      have l0 := lc 0
      have l1 := lc 1
      have lf0 := lf 0
      have lf1 := lf 1
      simp at l0 l1
      have B1 : Below w.heap.size w w1 := ((Below.refl _ _).alloc (Nat.le_refl _) _).trans (hb1.mono (by simp))
      clear hb1 lc lf
      go_wp2_with fail
      have hc := setB (setA ⟨l0, l1⟩ (.int .i64 0)) (.int .i64 1)
      exact bodyPost_ret (v := .tuple #[.agg #[.int .i64 0, .int .i64 1], .int .i64 0]) (by simp [results, Try.results14, go_sem, hc.1, hc.2, hlt1]) rfl ⟨rfl, by go_grown⟩
    · rw [meanA_some hb (by omega), ← hs, ← hq]
      have k0 : (s == 0) = false := by simp [h0]
      have i1 : I64 q := I64_of (by omega) (by omega)
      have i2 : I64 s := I64_of (by omega) (by omega)
      obtain ⟨⟨⟨n, d⟩, E⟩, hr⟩ : ∃ r, r = newP q s := ⟨_, rfl⟩
      rw [← hr]
      have HR := Lib.hid hr.symm
      have I1 := Lib.hid i1
      have I2 := Lib.hid i2
      simp only [Ra.v]
      clear hb hg b1 b2 b3 b4 hs hq h0 hr i1 i2
      go_enter Try.func14, Try.ntmps14
      go_wp2_with fail
      refine (Sums_any xs A c _ ((HX.out.below ((Below.refl _ _).alloc (Nat.le_refl _) _)).more (by simp)) hl).mono ?_
      rw [HS.out]
      rintro e w1 ⟨rfl, hb1⟩
      obtain ⟨lc, lf, hlt1⟩ := below_at w.heap.size rfl hb1 (by simp)
      have l0 := lc 0
      have l1 := lc 1
      have lf0 := lf 0
      have lf1 := lf 1
      simp at l0 l1
      have B1 : Below w.heap.size w w1 := ((Below.refl _ _).alloc (Nat.le_refl _) _).trans (hb1.mono (by simp))
      clear hb1 lc lf
      go_wp2_with fail
      refine (New_any q s I1.out I2.out _).mono ?_
      rw [HR.out]
      simp only [Ra.v]
      rintro e w2 ⟨rfl, hb2⟩
      have m0 := (hb2.cell (p := ⟨w.heap.size, 0, none⟩) hlt1).trans l0
      have m1 := (hb2.cell (p := ⟨w.heap.size, 1, none⟩) hlt1).trans l1
      have mf0 := (hb2.frozen (p := ⟨w.heap.size, 0, none⟩) hlt1).trans lf0
      have mf1 := (hb2.frozen (p := ⟨w.heap.size, 1, none⟩) hlt1).trans lf1
      have z2 := hb2.size
      have B2 : Below w.heap.size w w2 := B1.trans (hb2.mono B1.size)
      have hlt2 : w.heap.size < w2.heap.size := by omega
      clear hb2 l0 l1 lf0 lf1
      go_wp2_with fail
      have hc := setB (setA ⟨m0, m1⟩ (.int .i64 n)) (.int .i64 d)
      exact bodyPost_ret (v := .tuple #[.agg #[.int .i64 n, .int .i64 d], .int .i64 E]) (by simp [results, Try.results14, go_sem, hc.1, hc.2, hlt2]) rfl ⟨rfl, by go_grown⟩
  · have HS : Hid (sumsA xs = (0, 0, 150)) := Lib.hid (sumsA_bad hb)
    rw [meanA_bad hb]
    simp only [Ra.v]
    clear hb
    go_enter Try.func14, Try.ntmps14
    go_wp2_with fail
    refine (Sums_any xs A c _ ((HX.out.below ((Below.refl _ _).alloc (Nat.le_refl _) _)).more (by simp)) hl).mono ?_
    rw [HS.out]
    rintro e w1 ⟨rfl, hb1⟩
    obtain ⟨lc, lf, hlt1⟩ := below_at w.heap.size rfl hb1 (by simp)
    have l0 := lc 0
    have l1 := lc 1
    have lf0 := lf 0
    have lf1 := lf 1
    simp at l0 l1
    have B1 : Below w.heap.size w w1 := ((Below.refl _ _).alloc (Nat.le_refl _) _).trans (hb1.mono (by simp))
    clear hb1 lc lf
    go_wp2_with fail
    have hc := setB (setA ⟨l0, l1⟩ (.int .i64 0)) (.int .i64 0)
    exact bodyPost_ret (v := .tuple #[.agg #[.int .i64 0, .int .i64 0], .int .i64 150]) (by simp [results, Try.results14, go_sem, hc.1, hc.2, hlt1]) rfl ⟨rfl, by go_grown⟩

set_option maxHeartbeats 2000000 in
theorem RMean_any (xs : List At) (A : Option Addr) (c : Nat) (w : World) (hx : Reads w w.heap.size A 5 At.enc xs) (hl : xs.length ≤ 100000) :
    Calls Try.prog 15 #[.slice A xs.length c] w fun e w' => e = .returned (.tuple #[(meanA xs).1.v, .int .i64 (meanA xs).2]) ∧ Below w.heap.size w w' := by
  have HX := Lib.hid hx
  clear hx
  cases hb : xs.any (fun a => !a.good)
  · have hg := all_good hb
    obtain ⟨b1, b2, b3, b4⟩ := sums_at xs hg
    obtain ⟨s, hs⟩ : ∃ s, s = sC xs := ⟨_, rfl⟩
    obtain ⟨q, hq⟩ : ∃ q, q = sP xs := ⟨_, rfl⟩
    have HS : Hid (sumsA xs = (s, q, 0)) := Lib.hid (by rw [sumsA_good hb, hs, hq])
    have e1 : s ≤ 6000000 := by omega
    have e2 : q ≤ 72000000 := by omega
    have e3 : 0 ≤ s := by omega
    have e4 : 0 ≤ q := by omega
    by_cases h0 : s = 0
    · rw [meanA_zero hb (by omega)]
      have k0 : (s == 0) = true := by simp [h0]
      simp only [Ra.v]
      clear hb hg b1 b2 b3 b4 hs hq h0
      go_enter Try.func15, Try.ntmps15
      go_wp2_with fail
      refine (RSums_any xs A c _ ((HX.out.below ((Below.refl _ _).alloc (Nat.le_refl _) _)).more (by simp)) hl).mono ?_
      rw [HS.out]
      rintro e w1 ⟨rfl, hb1⟩
      obtain ⟨lc, lf, hlt1⟩ := below_at w.heap.size rfl hb1 (by simp)
      have l0 := lc 0
      have l1 := lc 1
      have lf0 := lf 0
      have lf1 := lf 1
      simp at l0 l1
      have B1 : Below w.heap.size w w1 := ((Below.refl _ _).alloc (Nat.le_refl _) _).trans (hb1.mono (by simp))
      clear hb1 lc lf
      go_wp2_with fail
      have hc := setB (setA ⟨l0, l1⟩ (.int .i64 0)) (.int .i64 1)
      exact bodyPost_ret (v := .tuple #[.agg #[.int .i64 0, .int .i64 1], .int .i64 0]) (by simp [results, Try.results15, go_sem, hc.1, hc.2, hlt1]) rfl ⟨rfl, by go_grown⟩
    · rw [meanA_some hb (by omega), ← hs, ← hq]
      have k0 : (s == 0) = false := by simp [h0]
      have i1 : I64 q := I64_of (by omega) (by omega)
      have i2 : I64 s := I64_of (by omega) (by omega)
      obtain ⟨⟨⟨n, d⟩, E⟩, hr⟩ : ∃ r, r = newP q s := ⟨_, rfl⟩
      rw [← hr]
      have HR := Lib.hid hr.symm
      have I1 := Lib.hid i1
      have I2 := Lib.hid i2
      simp only [Ra.v]
      clear hb hg b1 b2 b3 b4 hs hq h0 hr i1 i2
      go_enter Try.func15, Try.ntmps15
      go_wp2_with fail
      refine (RSums_any xs A c _ ((HX.out.below ((Below.refl _ _).alloc (Nat.le_refl _) _)).more (by simp)) hl).mono ?_
      rw [HS.out]
      rintro e w1 ⟨rfl, hb1⟩
      obtain ⟨lc, lf, hlt1⟩ := below_at w.heap.size rfl hb1 (by simp)
      have l0 := lc 0
      have l1 := lc 1
      have lf0 := lf 0
      have lf1 := lf 1
      simp at l0 l1
      have B1 : Below w.heap.size w w1 := ((Below.refl _ _).alloc (Nat.le_refl _) _).trans (hb1.mono (by simp))
      clear hb1 lc lf
      go_wp2_with fail
      refine (RNew_any q s I1.out I2.out _).mono ?_
      rw [HR.out]
      simp only [Ra.v]
      rintro e w2 ⟨rfl, hb2⟩
      have m0 := (hb2.cell (p := ⟨w.heap.size, 0, none⟩) hlt1).trans l0
      have m1 := (hb2.cell (p := ⟨w.heap.size, 1, none⟩) hlt1).trans l1
      have mf0 := (hb2.frozen (p := ⟨w.heap.size, 0, none⟩) hlt1).trans lf0
      have mf1 := (hb2.frozen (p := ⟨w.heap.size, 1, none⟩) hlt1).trans lf1
      have z2 := hb2.size
      have B2 : Below w.heap.size w w2 := B1.trans (hb2.mono B1.size)
      have hlt2 : w.heap.size < w2.heap.size := by omega
      clear hb2 l0 l1 lf0 lf1
      go_wp2_with fail
      have hc := setB (setA ⟨m0, m1⟩ (.int .i64 n)) (.int .i64 d)
      exact bodyPost_ret (v := .tuple #[.agg #[.int .i64 n, .int .i64 d], .int .i64 E]) (by simp [results, Try.results15, go_sem, hc.1, hc.2, hlt2]) rfl ⟨rfl, by go_grown⟩
  · have HS : Hid (sumsA xs = (0, 0, 150)) := Lib.hid (sumsA_bad hb)
    rw [meanA_bad hb]
    simp only [Ra.v]
    clear hb
    go_enter Try.func15, Try.ntmps15
    go_wp2_with fail
    refine (RSums_any xs A c _ ((HX.out.below ((Below.refl _ _).alloc (Nat.le_refl _) _)).more (by simp)) hl).mono ?_
    rw [HS.out]
    rintro e w1 ⟨rfl, hb1⟩
    obtain ⟨lc, lf, hlt1⟩ := below_at w.heap.size rfl hb1 (by simp)
    have l0 := lc 0
    have l1 := lc 1
    have lf0 := lf 0
    have lf1 := lf 1
    simp at l0 l1
    have B1 : Below w.heap.size w w1 := ((Below.refl _ _).alloc (Nat.le_refl _) _).trans (hb1.mono (by simp))
    clear hb1 lc lf
    go_wp2_with fail
    have hc := setB (setA ⟨l0, l1⟩ (.int .i64 0)) (.int .i64 0)
    exact bodyPost_ret (v := .tuple #[.agg #[.int .i64 0, .int .i64 0], .int .i64 150]) (by simp [results, Try.results15, go_sem, hc.1, hc.2, hlt1]) rfl ⟨rfl, by go_grown⟩

set_option maxHeartbeats 2000000 in
theorem REarned_any (xs : List At) (A : Option Addr) (c : Nat) (w : World) (hx : Reads w w.heap.size A 5 At.enc xs) (hl : xs.length ≤ 100000) :
    Calls Try.prog 17 #[.slice A xs.length c] w fun e w' => e = .returned (.tuple #[.int .i64 (earnedA xs).1, .int .i64 (earnedA xs).2]) ∧ Below w.heap.size w w' := by
  have HX := Lib.hid hx
  clear hx
  cases hb : xs.any (fun a => !a.good)
  · have HG := Lib.hid (all_good hb)
    have HC : Hid (checkA xs = 0) := Lib.hid (by unfold checkA; rw [hb]; rfl)
    have hv : earnedA xs = (sE xs, 0) := by unfold earnedA; rw [hb]; rfl
    rw [hv]
    clear hb hv
    go_enter Try.func17, Try.ntmps17
    go_wp2_with fail
    refine (RAvCheck_any xs A c _ HX.out (by omega)).mono ?_
    rw [HC.out]
    rintro e w1 ⟨rfl, hb1⟩
    go_wp2_with fail
    go_loopw [5, 6] (fun s i wr => ∃ k : Nat, k ≤ xs.length ∧ i = .int .i64 k ∧ s = .int .i64 (sE (xs.take k)) ∧ Below w.heap.size w wr) (fun _ i _ => xs.length - (intOf i).toNat)
    case atStart => exact ⟨0, Nat.zero_le _, rfl, rfl, hb1⟩
    case round =>
      clear hb1
      obtain ⟨k, hk, rfl, rfl, hB⟩ := hrel
      obtain ⟨b1, b2, b3, b4⟩ := sums_at (xs.take k) (fun x h => HG.out x (List.mem_of_mem_take h))
      obtain ⟨u1, u2⟩ := earn_at (xs.take k) (fun x h => HG.out x (List.mem_of_mem_take h))
      have htl : (xs.take k).length ≤ 100000 := by simp; omega
      obtain ⟨s, hs⟩ : ∃ s, s = sE (xs.take k) := ⟨_, rfl⟩
      rw [← hs] at u1 u2
      rw [← hs]
      have HS := Lib.hid hs
      have c1 : s ≤ 6000000 := by omega
      clear hs b1 b2 b3 b4 u2 htl
      by_cases hlt : k < xs.length
      · obtain ⟨bb, off, x, rfl, hbl, hxk, hc⟩ := (HX.out.below hB).at_ hlt
        have a2 := hc 2 _ rfl
        have a4 := hc 4 _ rfl
        obtain ⟨g1, g2, g3, g4, g5, g6⟩ := good_at (HG.out x (List.mem_of_getElem? hxk))
        have hb2 : bb < wr.heap.size := by have := hB.size; omega
        have HB := Lib.hid hB
        have e1 : sE (xs.take (k + 1)) = s + (if 1 ≤ x.grade then x.credits else 0) := by rw [take_at hxk, sE_snoc, ← HS.out]
        have E1 := Lib.hid e1
        clear hc hxk hB e1 g5 g6
        by_cases hg : 1 ≤ x.grade
        · go_wp2_with fail
          go_roundw
          case rel => exact ⟨k + 1, by omega, by go_num, by rw [E1.out, if_pos (by assumption)], HB.out⟩
          case measure => simp [intOf]; omega
        · go_wp2_with fail
          go_roundw
          case rel => exact ⟨k + 1, by omega, by go_num, by rw [E1.out, if_neg (by omega)]; simp, HB.out⟩
          case measure => simp [intOf]; omega
      · obtain rfl : k = xs.length := by omega
        have hs := HS.out
        rw [List.take_length] at hs
        have HS2 := Lib.hid hs
        clear hs
        go_wp2_with fail
        go_ret2
        refine ⟨?_, hB⟩
        simp only
        rw [← HS2.out]
        rfl
  · have HC : Hid (checkA xs = 150) := Lib.hid (by unfold checkA; rw [hb]; rfl)
    have hv : earnedA xs = (0, 150) := by unfold earnedA; rw [hb]; rfl
    rw [hv]
    clear hb hv
    go_enter Try.func17, Try.ntmps17
    go_wp2_with fail
    refine (RAvCheck_any xs A c _ HX.out (by omega)).mono ?_
    rw [HC.out]
    rintro e w1 ⟨rfl, hb1⟩
    go_wp2_with fail
    go_ret2
    exact ⟨rfl, hb1⟩

theorem same_snoc {xs ys : List At} {k : Nat} {x y : At} (hx : xs[k]? = some x) (hy : ys[k]? = some y) (h : xs.take k = ys.take k) (e : x = y) : xs.take (k + 1) = ys.take (k + 1) := by
  rw [take_at hx, take_at hy, h, e]
theorem at_eq_cells (x y : At) : (x = y) ↔ (x.course = y.course ∧ x.term = y.term ∧ x.grade = y.grade ∧ x.campus = y.campus ∧ x.credits = y.credits) := by
  cases x; cases y; simp
set_option maxHeartbeats 2000000 in
theorem Same_any (xs ys : List At) (A D : Option Addr) (c d : Nat) (w : World) (hx : Reads w w.heap.size A 5 At.enc xs) (hy : Reads w w.heap.size D 5 At.enc ys) (hl : xs.length ≤ 9223372036854775807) (hm : ys.length ≤ 9223372036854775807) :
    Calls Try.prog 20 #[.slice A xs.length c, .slice D ys.length d] w fun e w' => e = .returned (.bool (decide (xs = ys))) ∧ Below w.heap.size w w' := by
  have HX := Lib.hid hx
  have HY := Lib.hid hy
  clear hx hy
  by_cases hlen : xs.length = ys.length
  · have HL := Lib.hid hlen
    have q1 : ((xs.length : Int) == (ys.length : Int)) = true := by simp [hlen]
    have q2 : ((xs.length : Int) != (ys.length : Int)) = false := by simp [hlen]
    clear hlen
    go_enter Try.func20, Try.ntmps20
    go_wp2_with fail
    go_loopw [5] (fun i wr => ∃ k : Nat, k ≤ xs.length ∧ i = .int .i64 k ∧ xs.take k = ys.take k ∧ Below w.heap.size w wr) (fun i _ => xs.length - (intOf i).toNat)
    case atStart => exact ⟨0, Nat.zero_le _, rfl, rfl, Below.refl _ _⟩
    case round =>
      obtain ⟨k, hk, rfl, he, hB⟩ := hrel
      have HE := Lib.hid he
      clear he
      by_cases hlt : k < xs.length
      · obtain ⟨b1, o1, x, rfl, hbl1, hxk, hc⟩ := (HX.out.below hB).at_ hlt
        obtain ⟨b2, o2, y, rfl, hbl2, hyk, hd⟩ := (HY.out.below hB).at_ (show k < ys.length by rw [← HL.out]; exact hlt)
        have p0 := hc 0 _ rfl
        have p1 := hc 1 _ rfl
        have p2 := hc 2 _ rfl
        have p3 := hc 3 _ rfl
        have p4 := hc 4 _ rfl
        have r0 := hd 0 _ rfl
        have r1 := hd 1 _ rfl
        have r2 := hd 2 _ rfl
        have r3 := hd 3 _ rfl
        have r4 := hd 4 _ rfl
        simp only [Nat.add_zero] at p0 r0
        have hlt2 : k < ys.length := by rw [← HL.out]; exact hlt
        have z1 : b1 < wr.heap.size := by have := hB.size; omega
        have z2 : b2 < wr.heap.size := by have := hB.size; omega
        have HXK := Lib.hid hxk
        have HYK := Lib.hid hyk
        have HB := Lib.hid hB
        have hi0 : (0 : Int) ≤ (k : Int) := by omega
        clear hc hd hxk hyk hB
        obtain ⟨x0, x1, x2, x3, x4⟩ := x
        obtain ⟨y0, y1, y2, y3, y4⟩ := y
        simp only at p0 p1 p2 p3 p4 r0 r1 r2 r3 r4
        by_cases hxy : (⟨x0, x1, x2, x3, x4⟩ : At) = ⟨y0, y1, y2, y3, y4⟩
        · obtain ⟨rfl, rfl, rfl, rfl, rfl⟩ := (at_eq_cells _ _).1 hxy
          clear hxy
          go_wp2_with fail
          go_quiet (fail)
          go_wp2_with fail
          go_roundw
          case rel => exact ⟨k + 1, by omega, by go_num, same_snoc HXK.out HYK.out HE.out rfl, below_drewN HB.out _⟩
          case measure => simp [intOf]; omega
        · have hne : ¬ xs = ys := fun e => hxy (by have := HXK.out; rw [e, HYK.out] at this; exact (Option.some.inj this).symm)
          have hc5 : ¬ x0 = y0 ∨ (x0 = y0 ∧ ¬ x1 = y1) ∨ (x0 = y0 ∧ x1 = y1 ∧ ¬ x2 = y2) ∨ (x0 = y0 ∧ x1 = y1 ∧ x2 = y2 ∧ ¬ x3 = y3) ∨ (x0 = y0 ∧ x1 = y1 ∧ x2 = y2 ∧ x3 = y3 ∧ ¬ x4 = y4) := by
            simp only [At.mk.injEq] at hxy
            omega
          have HD : Hid (decide (xs = ys) = false) := Lib.hid (decide_eq_false hne)
          clear hne hxy
          rcases hc5 with h | ⟨rfl, h⟩ | ⟨rfl, rfl, h⟩ | ⟨rfl, rfl, rfl, h⟩ | ⟨rfl, rfl, rfl, rfl, h⟩
          all_goals
            go_wp2_with fail
            go_quiet (fail)
            go_wp2_with fail
            go_ret
            exact ⟨ret_bool HD.out.symm, below_drewN HB.out _⟩
      · obtain rfl : k = xs.length := by omega
        have HD : Hid (decide (xs = ys) = true) := Lib.hid (decide_eq_true (by have := HE.out; rw [List.take_length, HL.out, List.take_length] at this; exact this))
        go_wp2_with fail
        go_ret
        exact ⟨ret_bool HD.out.symm, hB⟩
  · have hd : decide (xs = ys) = false := decide_eq_false (fun h => hlen (by rw [h]))
    rw [hd]
    have q1 : ((xs.length : Int) == (ys.length : Int)) = false := by simp; omega
    have q2 : ((xs.length : Int) != (ys.length : Int)) = true := by simp; omega
    clear hlen
    go_enter Try.func20, Try.ntmps20
    go_wp2_with fail
    go_ret
    exact ⟨rfl, Below.refl _ _⟩

end Go.Proofs.Ytimaealmmjdjkaa
