/- AverageSumsSpec, AverageCountedSpec, AverageNeededSpec, walked. -/
import Derived.Test.YtimaealmmjdjkaaAvgT
namespace Go.Proofs.Ytimaealmmjdjkaa
open Go.RowKit Go.Shelf
set_option linter.unusedSimpArgs false
set_option linter.unusedVariables false

set_option maxHeartbeats 4000000 in
theorem AverageSumsSpec_any {w : World} (xs : List At) (A : Option Addr) (c : Nat) (hx : Reads w w.heap.size A 5 At.enc xs) (hq : ∀ y ∈ xs, At.ok y) (hm : xs.length ≤ maxLen) :
    Calls Try.prog 3 #[.slice A xs.length c] w fun e w' => e = .returned (.bool true) ∧ Below w.heap.size w w' := by
  unfold maxLen at hm
  go_enter Try.func3, Try.ntmps3
  have G := Lib.hid (Below.refl w.heap.size w)
  have RL := Lib.hid hx
  clear hx
  go_wp2_with fail
  refine (sane_any _).mono ?_
  rintro e w1 ⟨rfl, hb_w1⟩
  have S_w1 : Below w.heap.size w w1 := (Below.refl _ w).trans (hb_w1.mono (by (try simp) <;> omega))
  have G := Lib.hid (G.out.trans (S_w1.mono G.out.size))
  have RL := Lib.hid ((RL.out.below S_w1).more S_w1.size)
  have z_w1 := S_w1.size
  by_cases hf : xs.length ≤ 40
  rotate_left
  · have hd : decide (xs.length ≤ 40) = false := by simp; omega
    go_wp2_with fail
    refine (few_any xs A c _).mono ?_
    rw [hd]
    rintro e w9 ⟨rfl, rfl⟩
    go_wp2_with fail
    go_ret
    exact ⟨rfl, G.out⟩
  have hd : decide (xs.length ≤ 40) = true := by simp; omega
  go_wp2_with fail
  refine (few_any xs A c _).mono ?_
  rw [hd]
  rintro e w9 ⟨rfl, rfl⟩
  clear hd
  obtain ⟨⟨s1, s2, s3⟩, hs⟩ : ∃ r, r = sumsA xs := ⟨_, rfl⟩
  have HS := Lib.hid hs.symm
  obtain ⟨⟨⟨n, d⟩, m3⟩, hme⟩ : ∃ r, r = meanA xs := ⟨_, rfl⟩
  have HME := Lib.hid hme.symm
  obtain ⟨⟨e1, e2⟩, hea⟩ : ∃ r, r = earnedA xs := ⟨_, rfl⟩
  have HEA := Lib.hid hea.symm
  clear hs hme hea
  go_wp2_with fail
  refine (Sums_any xs A c _ RL.out (by omega)).mono ?_
  rw [HS.out]
  rintro e w2 ⟨rfl, hb_w2⟩
  have S_w2 : Below w1.heap.size w1 w2 := (Below.refl _ w1).trans (hb_w2.mono (by (try simp) <;> omega))
  have G := Lib.hid (G.out.trans (S_w2.mono G.out.size))
  have RL := Lib.hid ((RL.out.below S_w2).more S_w2.size)
  have z_w2 := S_w2.size
  go_wp2_with fail
  refine (RSums_any xs A c _ RL.out (by omega)).mono ?_
  rw [HS.out]
  rintro e w3 ⟨rfl, hb_w3⟩
  have S_w3 : Below w2.heap.size w2 w3 := (Below.refl _ w2).trans (hb_w3.mono (by (try simp) <;> omega))
  have G := Lib.hid (G.out.trans (S_w3.mono G.out.size))
  have RL := Lib.hid ((RL.out.below S_w3).more S_w3.size)
  have z_w3 := S_w3.size
  go_wp2_with fail
  refine (Mean_any xs A c _ RL.out (by omega)).mono ?_
  rw [HME.out]
  simp only [Ra.v]
  rintro e w4 ⟨rfl, hb_w4⟩
  have S_w4 : Below w3.heap.size w3 w4 := (Below.refl _ w3).trans (hb_w4.mono (by (try simp) <;> omega))
  have G := Lib.hid (G.out.trans (S_w4.mono G.out.size))
  have RL := Lib.hid ((RL.out.below S_w4).more S_w4.size)
  have z_w4 := S_w4.size
  go_wp2_with fail
  refine (RMean_any xs A c _ ((RL.out.below ((Below.refl _ _).alloc (Nat.le_refl _) _)).more (by simp)) (by omega)).mono ?_
  rw [HME.out]
  simp only [Ra.v]
  rintro e w5 ⟨rfl, hb_w5⟩
  have S_w5 : Below w4.heap.size w4 w5 := ((Below.refl _ w4).alloc (by (try simp) <;> omega) _).trans (hb_w5.mono (by (try simp) <;> omega))
  have G := Lib.hid (G.out.trans (S_w5.mono G.out.size))
  have RL := Lib.hid ((RL.out.below S_w5).more S_w5.size)
  have z_w5 := S_w5.size
  have C0 := Lib.hid (CellAt.new (cs := #[.int .i64 n, .int .i64 d]) (t := 29) w4.heap.size rfl hb_w5 (by simp) 0 _ rfl)
  have C1 := Lib.hid (CellAt.new (cs := #[.int .i64 n, .int .i64 d]) (t := 29) w4.heap.size rfl hb_w5 (by simp) 1 _ rfl)
  go_wp2_with fail
  refine (Earned_any xs A c _ ((RL.out.below ((Below.refl _ _).alloc (Nat.le_refl _) _)).more (by simp)) (by omega)).mono ?_
  rw [HEA.out]
  rintro e w6 ⟨rfl, hb_w6⟩
  have S_w6 : Below w5.heap.size w5 w6 := ((Below.refl _ w5).alloc (by (try simp) <;> omega) _).trans (hb_w6.mono (by (try simp) <;> omega))
  have G := Lib.hid (G.out.trans (S_w6.mono G.out.size))
  have RL := Lib.hid ((RL.out.below S_w6).more S_w6.size)
  have C0 := Lib.hid (C0.out.step S_w6)
  have C1 := Lib.hid (C1.out.step S_w6)
  have z_w6 := S_w6.size
  have D0 := Lib.hid (CellAt.new (cs := #[.int .i64 n, .int .i64 d]) (t := 29) w5.heap.size rfl hb_w6 (by simp) 0 _ rfl)
  have D1 := Lib.hid (CellAt.new (cs := #[.int .i64 n, .int .i64 d]) (t := 29) w5.heap.size rfl hb_w6 (by simp) 1 _ rfl)
  go_wp2_with fail
  refine (REarned_any xs A c _ RL.out (by omega)).mono ?_
  rw [HEA.out]
  rintro e w7 ⟨rfl, hb_w7⟩
  have S_w7 : Below w6.heap.size w6 w7 := (Below.refl _ w6).trans (hb_w7.mono (by (try simp) <;> omega))
  have G := Lib.hid (G.out.trans (S_w7.mono G.out.size))
  have RL := Lib.hid ((RL.out.below S_w7).more S_w7.size)
  have C0 := Lib.hid (C0.out.step S_w7)
  have C1 := Lib.hid (C1.out.step S_w7)
  have D0 := Lib.hid (D0.out.step S_w7)
  have D1 := Lib.hid (D1.out.step S_w7)
  have z_w7 := S_w7.size
  obtain ⟨c0, cz⟩ := C0.out
  obtain ⟨c1, _⟩ := C1.out
  obtain ⟨d0, dz⟩ := D0.out
  obtain ⟨d1, _⟩ := D1.out
  go_wp2_with fail
  go_ret
  exact ⟨ret_bool (by simp), G.out⟩

set_option maxHeartbeats 4000000 in
theorem AverageCountedSpec_any {w : World} (xs : List At) (A : Option Addr) (c : Nat) (hx : Reads w w.heap.size A 5 At.enc xs) (hq : ∀ y ∈ xs, At.ok y) (hm : xs.length ≤ maxLen) (rs : List Int) (D : Option Addr) (d : Nat) (hy : Reads w w.heap.size D 1 In.enc rs) (hqy : ∀ y ∈ rs, In.ok y) (hmy : rs.length ≤ maxLen) :
    Calls Try.prog 4 #[.slice A xs.length c, .slice D rs.length d] w fun e w' => e = .returned (.bool true) ∧ Below w.heap.size w w' := by
  unfold maxLen at hm hmy
  go_enter Try.func4, Try.ntmps4
  have G := Lib.hid (Below.refl w.heap.size w)
  have RL := Lib.hid hx
  have RY := Lib.hid hy
  clear hx hy
  go_wp2_with fail
  refine (sane_any _).mono ?_
  rintro e w1 ⟨rfl, hb_w1⟩
  have S_w1 : Below w.heap.size w w1 := (Below.refl _ w).trans (hb_w1.mono (by (try simp) <;> omega))
  have G := Lib.hid (G.out.trans (S_w1.mono G.out.size))
  have RL := Lib.hid ((RL.out.below S_w1).more S_w1.size)
  have RY := Lib.hid ((RY.out.below S_w1).more S_w1.size)
  have z_w1 := S_w1.size
  by_cases hf : xs.length ≤ 40
  rotate_left
  · have hd : decide (xs.length ≤ 40) = false := by simp; omega
    go_wp2_with fail
    refine (few_any xs A c _).mono ?_
    rw [hd]
    rintro e w9 ⟨rfl, rfl⟩
    go_wp2_with fail
    go_ret
    exact ⟨rfl, G.out⟩
  have hd : decide (xs.length ≤ 40) = true := by simp; omega
  by_cases hg : rs.length ≤ 60
  rotate_left
  · have hd2 : decide ((60 : Int) < (rs.length : Int)) = true := by simp; omega
    go_wp2_with fail
    refine (few_any xs A c _).mono ?_
    rw [hd]
    rintro e w9 ⟨rfl, rfl⟩
    go_wp2_with fail
    go_ret
    exact ⟨rfl, G.out⟩
  have hd2 : decide ((60 : Int) < (rs.length : Int)) = false := by simp; omega
  go_wp2_with fail
  refine (few_any xs A c _).mono ?_
  rw [hd]
  rintro e w9 ⟨rfl, rfl⟩
  clear hd
  obtain ⟨⟨cl, E⟩, hs⟩ : ∃ r, r = countedA xs rs := ⟨_, rfl⟩
  have HS := Lib.hid hs.symm
  clear hs
  go_wp2_with fail
  refine (Counted_any xs rs A D c d _ RL.out RY.out (by omega) (by omega)).mono ?_
  rw [HS.out]
  rintro e w2 ⟨⟨v1, rfl, hv1⟩, hb_w2⟩
  have S_w2 : Below w1.heap.size w1 w2 := (Below.refl _ w1).trans (hb_w2.mono (by (try simp) <;> omega))
  have G := Lib.hid (G.out.trans (S_w2.mono G.out.size))
  have RL := Lib.hid ((RL.out.below S_w2).more S_w2.size)
  have RY := Lib.hid ((RY.out.below S_w2).more S_w2.size)
  have z_w2 := S_w2.size
  obtain ⟨A1, c1, rfl, _, hl1⟩ := hv1.shape
  have O1 := Lib.hid hv1
  clear hv1
  go_wp2_with fail
  refine (RCounted_any xs rs A D c d _ RL.out RY.out (by omega) (by omega)).mono ?_
  rw [HS.out]
  rintro e w3 ⟨⟨v2, rfl, hv2⟩, hb_w3⟩
  have S_w3 : Below w2.heap.size w2 w3 := (Below.refl _ w2).trans (hb_w3.mono (by (try simp) <;> omega))
  have G := Lib.hid (G.out.trans (S_w3.mono G.out.size))
  have RL := Lib.hid ((RL.out.below S_w3).more S_w3.size)
  have RY := Lib.hid ((RY.out.below S_w3).more S_w3.size)
  have O1 := Lib.hid (O1.out.below S_w3 (Nat.le_refl _))
  have z_w3 := S_w3.size
  obtain ⟨A2, c2, rfl, _, hl2⟩ := hv2.shape
  have O2 := Lib.hid hv2
  clear hv2
  unfold maxLen at hl1
  go_wp2_with fail
  refine (Same_any cl cl A1 A2 c1 c2 _ (O1.out.reads At.enc_len) (O2.out.reads At.enc_len) (by omega) (by omega)).mono ?_
  rw [show decide (cl = cl) = true from by simp]
  rintro e w4 ⟨rfl, hb_w4⟩
  go_wp2_with fail
  go_ret
  exact ⟨ret_bool (by simp), G.out.trans (hb_w4.mono G.out.size)⟩

set_option maxHeartbeats 4000000 in
theorem AverageNeededSpec_any {w : World} (xs : List At) (A : Option Addr) (c : Nat) (hx : Reads w w.heap.size A 5 At.enc xs) (hq : ∀ y ∈ xs, At.ok y) (hm : xs.length ≤ maxLen) (cr : Int) (wcr : (Lit.int .i64 cr).wf = true) (goal : Ra) (hgk : goal.ok) :
    Calls Try.prog 5 #[.slice A xs.length c, .int .i64 cr, goal.v] w fun e w' => e = .returned (.bool true) ∧ Below w.heap.size w w' := by
  unfold maxLen at hm
  have hgo := Ra.ok_i64 hgk
  have hcr : I64 cr := bounds_i64 wcr
  unfold Ra.v
  go_enter Try.func5, Try.ntmps5
  have G := Lib.hid (Below.refl w.heap.size w)
  have RL := Lib.hid hx
  have HCR := Lib.hid hcr
  have HGO := Lib.hid hgo
  clear hx hcr hgo
  go_wp2_with fail
  refine (sane_any _).mono ?_
  rintro e w1 ⟨rfl, hb_w1⟩
  have S_w1 : Below w.heap.size w w1 := ((Below.refl _ w).alloc (by (try simp) <;> omega) _).trans (hb_w1.mono (by (try simp) <;> omega))
  have G := Lib.hid (G.out.trans (S_w1.mono G.out.size))
  have RL := Lib.hid ((RL.out.below S_w1).more S_w1.size)
  have z_w1 := S_w1.size
  have C0 := Lib.hid (CellAt.new (cs := #[.int .i64 goal.num, .int .i64 goal.den]) (t := 29) w.heap.size rfl hb_w1 (by simp) 0 _ rfl)
  have C1 := Lib.hid (CellAt.new (cs := #[.int .i64 goal.num, .int .i64 goal.den]) (t := 29) w.heap.size rfl hb_w1 (by simp) 1 _ rfl)
  by_cases hf : xs.length ≤ 40
  rotate_left
  · have hd : decide (xs.length ≤ 40) = false := by simp; omega
    go_wp2_with fail
    refine (few_any xs A c _).mono ?_
    rw [hd]
    rintro e w9 ⟨rfl, rfl⟩
    go_wp2_with fail
    go_ret
    exact ⟨rfl, G.out⟩
  have hd : decide (xs.length ≤ 40) = true := by simp; omega
  go_wp2_with fail
  refine (few_any xs A c _).mono ?_
  rw [hd]
  rintro e w9 ⟨rfl, rfl⟩
  clear hd
  obtain ⟨⟨n, b, E⟩, hs⟩ : ∃ r, r = neededA xs cr goal := ⟨_, rfl⟩
  have HS := Lib.hid hs.symm
  clear hs
  obtain ⟨c0, cz⟩ := C0.out
  obtain ⟨c1, _⟩ := C1.out
  go_wp2_with fail
  refine (Needed_any xs A c cr goal _ RL.out (by omega) HCR.out HGO.out).mono ?_
  rw [HS.out]
  rintro e w2 ⟨rfl, hb_w2⟩
  have S_w2 : Below w1.heap.size w1 w2 := (Below.refl _ w1).trans (hb_w2.mono (by (try simp) <;> omega))
  have G := Lib.hid (G.out.trans (S_w2.mono G.out.size))
  have RL := Lib.hid ((RL.out.below S_w2).more S_w2.size)
  have C0 := Lib.hid (C0.out.step S_w2)
  have C1 := Lib.hid (C1.out.step S_w2)
  have z_w2 := S_w2.size
  clear c0 cz c1
  obtain ⟨c0, cz⟩ := C0.out
  obtain ⟨c1, _⟩ := C1.out
  go_wp2_with fail
  refine (RNeeded_any xs A c cr goal _ RL.out (by omega) HCR.out HGO.out).mono ?_
  rw [HS.out]
  rintro e w3 ⟨rfl, hb_w3⟩
  have S_w3 : Below w2.heap.size w2 w3 := (Below.refl _ w2).trans (hb_w3.mono (by (try simp) <;> omega))
  have G := Lib.hid (G.out.trans (S_w3.mono G.out.size))
  have RL := Lib.hid ((RL.out.below S_w3).more S_w3.size)
  have C0 := Lib.hid (C0.out.step S_w3)
  have C1 := Lib.hid (C1.out.step S_w3)
  have z_w3 := S_w3.size
  go_wp2_with fail
  go_ret
  exact ⟨ret_bool (by cases b <;> simp), G.out⟩
end Go.Proofs.Ytimaealmmjdjkaa
