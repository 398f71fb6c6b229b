/- AverageParts, walked. -/
import Derived.Test.YtimaealmmjdjkaaAvgL1
namespace Go.Proofs.Ytimaealmmjdjkaa
open Go.RowKit Go.Shelf
set_option linter.unusedSimpArgs false
set_option linter.unusedVariables false

theorem sC_app (b : List At) : ∀ a, sC (a ++ b) = sC a + sC b
  | [] => by simp [sC]
  | x :: a => by simp only [List.cons_append, sC, sC_app b a]; omega
theorem sP_app (b : List At) : ∀ a, sP (a ++ b) = sP a + sP b
  | [] => by simp [sP]
  | x :: a => by simp only [List.cons_append, sP, sP_app b a]; omega
theorem sE_app (b : List At) : ∀ a, sE (a ++ b) = sE a + sE b
  | [] => by simp [sE]
  | x :: a => by simp only [List.cons_append, sE, sE_app b a]; omega
theorem earnedA_good {xs : List At} (h : (xs.any fun a => !a.good) = false) : earnedA xs = (sE xs, 0) := by unfold earnedA; rw [h]; rfl

set_option maxHeartbeats 8000000 in
theorem AverageParts_any {w : World} (xs : List At) (A : Option Addr) (c : Nat) (hx : Reads w w.heap.size A 5 At.enc xs) (hq : ∀ y ∈ xs, At.ok y) (hm : xs.length ≤ maxLen) (hnc : A = none → c = 0)
    (ys : List At) (D : Option Addr) (d : Nat) (hy : Reads w w.heap.size D 5 At.enc ys) (hqy : ∀ y ∈ ys, At.ok y) (hmy : ys.length ≤ maxLen) (hnd : D = none → d = 0) :
    Calls Try.prog 6 #[.slice A xs.length c, .slice D ys.length d] w fun e w' => e = .returned (.bool true) ∧ Below w.heap.size w w' := by
  unfold maxLen at hm hmy
  go_enter Try.func6, Try.ntmps6
  have G := Lib.hid (Below.refl w.heap.size w)
  have RA := Lib.hid hx
  have RB := Lib.hid hy
  clear hx hy
  go_wp2_with fail
  refine (sane_any _).mono ?_
  rintro e w1 ⟨rfl, hb_w1⟩
  have S_w1 : Below w.heap.size w w1 := (Below.refl _ w).trans (hb_w1.mono (by (try simp) <;> omega))
  have G := Lib.hid (G.out.trans (S_w1.mono G.out.size))
  have RA := Lib.hid ((RA.out.below S_w1).more S_w1.size)
  have RB := Lib.hid ((RB.out.below S_w1).more S_w1.size)
  have z_w1 := S_w1.size
  by_cases hf : xs.length ≤ 40
  rotate_left
  · have hd : decide (xs.length ≤ 40) = false := by simp; omega
    go_wp2_with fail
    refine (few_any xs A c _).mono ?_
    rw [hd]
    rintro e w9 ⟨rfl, rfl⟩
    go_wp2_with fail
    go_ret
    exact ⟨rfl, G.out⟩
  have hd : decide (xs.length ≤ 40) = true := by simp; omega
  by_cases hg : ys.length ≤ 40
  rotate_left
  · have hd2 : decide (ys.length ≤ 40) = false := by simp; omega
    go_wp2_with fail
    refine (few_any xs A c _).mono ?_
    rw [hd]
    rintro e w9 ⟨rfl, rfl⟩
    go_wp2_with fail
    refine (few_any ys D d _).mono ?_
    rw [hd2]
    rintro e w9 ⟨rfl, rfl⟩
    go_wp2_with fail
    go_ret
    exact ⟨rfl, G.out⟩
  have hd2 : decide (ys.length ≤ 40) = true := by simp; omega
  go_wp2_with fail
  refine (few_any xs A c _).mono ?_
  rw [hd]
  rintro e w9 ⟨rfl, rfl⟩
  go_wp2_with fail
  refine (few_any ys D d _).mono ?_
  rw [hd2]
  rintro e w9 ⟨rfl, rfl⟩
  clear hd hd2
  have key : ((xs.any fun a => !a.good) = false ∧ (ys.any fun a => !a.good) = false) ∨ ((∃ E, (E = 0 ∨ E = 150) ∧ ∃ E2, (E2 = 0 ∨ E2 = 150) ∧ ¬ (E = 0 ∧ E2 = 0) ∧ (sumsA xs).2.2 = E ∧ (sumsA ys).2.2 = E2) ∧ sumsA (ys ++ xs) = (0, 0, 150)) := by
    cases h1 : xs.any fun a => !a.good
    · cases h2 : ys.any fun a => !a.good
      · exact .inl ⟨rfl, rfl⟩
      · exact .inr ⟨⟨0, .inl rfl, 150, .inr rfl, by decide, by rw [sumsA_good h1], by rw [sumsA_bad h2]⟩, sumsA_bad (by rw [List.any_append, h2]; rfl)⟩
    · cases h2 : ys.any fun a => !a.good
      · exact .inr ⟨⟨150, .inr rfl, 0, .inl rfl, by decide, by rw [sumsA_bad h1], by rw [sumsA_good h2]⟩, sumsA_bad (by rw [List.any_append, h1]; simp)⟩
      · exact .inr ⟨⟨150, .inr rfl, 150, .inr rfl, by decide, by rw [sumsA_bad h1], by rw [sumsA_bad h2]⟩, sumsA_bad (by rw [List.any_append, h1]; simp)⟩
  obtain ⟨⟨s1, s2, s3⟩, hs⟩ : ∃ r, r = sumsA xs := ⟨_, rfl⟩
  obtain ⟨⟨t1, t2, t3⟩, ht⟩ : ∃ r, r = sumsA ys := ⟨_, rfl⟩
  have HS := Lib.hid hs.symm
  have HT := Lib.hid ht.symm
  have KEY := Lib.hid key
  clear hs ht key
  obtain ⟨i0, hinf, hz0, hz1, hz2⟩ := info_parts Try.infoAt
  go_wp2_with fail
  refine (Sums_any xs A c _ RA.out (by omega)).mono ?_
  rw [HS.out]
  rintro e w2 ⟨rfl, hb_w2⟩
  have S_w2 : Below w1.heap.size w1 w2 := (Below.refl _ w1).trans (hb_w2.mono (by (try simp) <;> omega))
  have G := Lib.hid (G.out.trans (S_w2.mono G.out.size))
  have RA := Lib.hid ((RA.out.below S_w2).more S_w2.size)
  have RB := Lib.hid ((RB.out.below S_w2).more S_w2.size)
  have z_w2 := S_w2.size
  go_wp2_with fail
  refine (Sums_any ys D d _ RB.out (by omega)).mono ?_
  rw [HT.out]
  rintro e w3 ⟨rfl, hb_w3⟩
  have S_w3 : Below w2.heap.size w2 w3 := (Below.refl _ w2).trans (hb_w3.mono (by (try simp) <;> omega))
  have G := Lib.hid (G.out.trans (S_w3.mono G.out.size))
  have RA := Lib.hid ((RA.out.below S_w3).more S_w3.size)
  have RB := Lib.hid ((RB.out.below S_w3).more S_w3.size)
  have z_w3 := S_w3.size
  obtain ⟨zs, hzs⟩ : ∃ zs, zs = ys ++ xs := ⟨_, rfl⟩
  have HZ := Lib.hid hzs
  clear hzs
  obtain ⟨⟨u1, u2, u3⟩, hu⟩ : ∃ r, r = sumsA zs := ⟨_, rfl⟩
  have HU := Lib.hid hu.symm
  clear hu
  go_wp2_with (at_builtin; refine stop_mk ?_)
  have hO1 : Owns (w3.alloc (.cells #[] 43)) w3.heap.size 43 5 At.enc (.slice (some ⟨w3.heap.size, 0, none⟩) 0 0) [] := Owns.lit (ys := ([] : List At)) At.enc_len rfl (Nat.le_refl _) (by simp)
  refine stop_out (wpList_append_reads (en := At.enc) (sz := 5) _ rfl _ _ _ rfl At.enc_len At.enc_one w3.heap.size 43 i0 _ 40 Try.underlying22 hinf hz0 hz1 hz2 rfl (by omega) _ [] rfl hO1 w3.heap.size D d ys rfl (RB.out.alloc (Nat.le_refl _) _) hnd (by simp [maxLen]; omega) (by simp; omega) (by simp) ?_)
  intro va1 wa1 hoa1 hga1 _ _
  have hba1 : Below w3.heap.size w3 wa1 := ((Below.refl _ _).alloc (Nat.le_refl _) _).grown hga1 (by simp) (fun q e => hO1.base_le q e)
  obtain ⟨Aa1, ca1, rfl, _, _⟩ := hoa1.shape
  simp only [List.nil_append] at hoa1
  have HOA1 := Lib.hid hoa1
  clear hga1 hO1 hoa1
  go_wp2_with (at_builtin; refine stop_mk ?_)
  refine stop_out (wpList_append_reads (en := At.enc) (sz := 5) _ rfl _ _ _ rfl At.enc_len At.enc_one w3.heap.size 43 i0 _ 40 Try.underlying22 hinf hz0 hz1 hz2 rfl (by omega) _ ys rfl HOA1.out w3.heap.size A c xs rfl (RA.out.below hba1) hnc (by unfold maxLen; omega) (by omega) hba1.size ?_)
  intro vb1 wb1 hob1 hgb1 _ _
  rw [← HZ.out] at hob1
  have hbb1 : Below w3.heap.size w3 wb1 := hba1.grown hgb1 hba1.size (fun q e => HOA1.out.base_le q e)
  obtain ⟨Ab1, cb1, rfl, _, _⟩ := hob1.shape
  clear hgb1 HOA1 hba1
  have HOB1 := Lib.hid hob1
  clear hob1
  go_wp2_with fail
  refine (Sums_any zs Ab1 cb1 _ (HOB1.out.reads At.enc_len) (by rw [HZ.out]; simp; omega)).mono ?_
  rw [HU.out]
  rintro e w4 ⟨rfl, hb_w4⟩
  have S_w4 : Below w3.heap.size w3 w4 := hbb1.trans (hb_w4.mono hbb1.size)
  have G := Lib.hid (G.out.trans (S_w4.mono G.out.size))
  have RA := Lib.hid ((RA.out.below S_w4).more S_w4.size)
  have RB := Lib.hid ((RB.out.below S_w4).more S_w4.size)
  have z_w4 := S_w4.size
  clear HOB1 hbb1 hb_w4
  rcases KEY.out with ⟨g1, g2⟩ | ⟨⟨E, hE, E2, hE2, hne, k1, k2⟩, k3⟩
  rotate_left
  · have h1 := HU.out
    rw [HZ.out, k3] at h1
    simp only [Prod.mk.injEq] at h1
    obtain ⟨rfl, rfl, rfl⟩ := h1
    rw [HS.out] at k1
    rw [HT.out] at k2
    simp only at k1 k2
    have hc : (s3 == 0) = false ∨ ((s3 == 0) = true ∧ (t3 == 0) = false) := by simp; omega
    clear hE hE2 hne k1 k2 k3
    rcases hc with d1 | ⟨d1, d2⟩
    all_goals
      go_wp2_with fail
      all_goals go_ret
      all_goals exact ⟨rfl, G.out⟩
  have b1 := sums_at xs (all_good g1)
  have b2 := sums_at ys (all_good g2)
  have b3 := earn_at xs (all_good g1)
  have b4 := earn_at ys (all_good g2)
  have h1 := HS.out
  have h2 := HT.out
  have h3 := HU.out
  rw [HZ.out] at h3
  have g3 : ((ys ++ xs).any fun a => !a.good) = false := by rw [List.any_append, g1, g2]; rfl
  rw [sumsA_good g1] at h1
  rw [sumsA_good g2] at h2
  rw [sumsA_good g3, sC_app, sP_app] at h3
  simp only [Prod.mk.injEq] at h1 h2 h3
  obtain ⟨e1, e2, rfl⟩ := h1
  obtain ⟨e3, e4, rfl⟩ := h2
  obtain ⟨e5, e6, rfl⟩ := h3
  obtain ⟨m1, hm1⟩ : ∃ r, r = sE xs := ⟨_, rfl⟩
  obtain ⟨m2, hm2⟩ : ∃ r, r = sE ys := ⟨_, rfl⟩
  obtain ⟨m3, hm3⟩ : ∃ r, r = sE (ys ++ xs) := ⟨_, rfl⟩
  have hm4 : m3 = m2 + m1 := by rw [hm3, sE_app, hm1, hm2]
  have K1 : Hid (earnedA xs = (m1, 0)) := Lib.hid (by rw [earnedA_good g1, hm1])
  have K2 : Hid (earnedA ys = (m2, 0)) := Lib.hid (by rw [earnedA_good g2, hm2])
  have K3 : Hid (earnedA zs = (m3, 0)) := Lib.hid (by rw [HZ.out, earnedA_good g3, hm3])
  rw [← hm1] at b3
  rw [← hm2] at b4
  rw [e1, e2] at b1
  rw [e3, e4] at b2
  rw [e1] at b3
  rw [e3] at b4
  rw [e3, e1] at e5
  rw [e4, e2] at e6
  obtain ⟨b11, b12, b13, b14⟩ := b1
  obtain ⟨b21, b22, b23, b24⟩ := b2
  obtain ⟨b31, b32⟩ := b3
  obtain ⟨b41, b42⟩ := b4
  have c1 : s1 ≤ 2400 := by omega
  have c2 : s2 ≤ 28800 := by omega
  have c3 : t1 ≤ 2400 := by omega
  have c4 : t2 ≤ 28800 := by omega
  have d1 : (u1 == s1 + t1) = true := by simp; omega
  have d2 : (u2 == s2 + t2) = true := by simp; omega
  have d3 : (m3 == m1 + m2) = true := by simp; omega
  have d4 : decide (m3 ≤ u1) = true := by simp; omega
  clear g1 g2 g3 e1 e2 e3 e4 e5 e6 hm1 hm2 hm3 hm4 b12 b14 b22 b24
  go_wp2_with fail
  refine (Earned_any xs A c _ RA.out (by omega)).mono ?_
  rw [K1.out]
  rintro e w5 ⟨rfl, hb_w5⟩
  have S_w5 : Below w4.heap.size w4 w5 := (Below.refl _ w4).trans (hb_w5.mono (by (try simp) <;> omega))
  have G := Lib.hid (G.out.trans (S_w5.mono G.out.size))
  have RA := Lib.hid ((RA.out.below S_w5).more S_w5.size)
  have RB := Lib.hid ((RB.out.below S_w5).more S_w5.size)
  have z_w5 := S_w5.size
  go_wp2_with fail
  refine (Earned_any ys D d _ RB.out (by omega)).mono ?_
  rw [K2.out]
  rintro e w6 ⟨rfl, hb_w6⟩
  have S_w6 : Below w5.heap.size w5 w6 := (Below.refl _ w5).trans (hb_w6.mono (by (try simp) <;> omega))
  have G := Lib.hid (G.out.trans (S_w6.mono G.out.size))
  have RA := Lib.hid ((RA.out.below S_w6).more S_w6.size)
  have RB := Lib.hid ((RB.out.below S_w6).more S_w6.size)
  have z_w6 := S_w6.size
  go_wp2_with (at_builtin; refine stop_mk ?_)
  have hO2 : Owns (w6.alloc (.cells #[] 43)) w6.heap.size 43 5 At.enc (.slice (some ⟨w6.heap.size, 0, none⟩) 0 0) [] := Owns.lit (ys := ([] : List At)) At.enc_len rfl (Nat.le_refl _) (by simp)
  refine stop_out (wpList_append_reads (en := At.enc) (sz := 5) _ rfl _ _ _ rfl At.enc_len At.enc_one w6.heap.size 43 i0 _ 40 Try.underlying22 hinf hz0 hz1 hz2 rfl (by omega) _ [] rfl hO2 w6.heap.size D d ys rfl (RB.out.alloc (Nat.le_refl _) _) hnd (by simp [maxLen]; omega) (by simp; omega) (by simp) ?_)
  intro va2 wa2 hoa2 hga2 _ _
  have hba2 : Below w6.heap.size w6 wa2 := ((Below.refl _ _).alloc (Nat.le_refl _) _).grown hga2 (by simp) (fun q e => hO2.base_le q e)
  obtain ⟨Aa2, ca2, rfl, _, _⟩ := hoa2.shape
  simp only [List.nil_append] at hoa2
  have HOA2 := Lib.hid hoa2
  clear hga2 hO2 hoa2
  go_wp2_with (at_builtin; refine stop_mk ?_)
  refine stop_out (wpList_append_reads (en := At.enc) (sz := 5) _ rfl _ _ _ rfl At.enc_len At.enc_one w6.heap.size 43 i0 _ 40 Try.underlying22 hinf hz0 hz1 hz2 rfl (by omega) _ ys rfl HOA2.out w6.heap.size A c xs rfl (RA.out.below hba2) hnc (by unfold maxLen; omega) (by omega) hba2.size ?_)
  intro vb2 wb2 hob2 hgb2 _ _
  rw [← HZ.out] at hob2
  have hbb2 : Below w6.heap.size w6 wb2 := hba2.grown hgb2 hba2.size (fun q e => HOA2.out.base_le q e)
  obtain ⟨Ab2, cb2, rfl, _, _⟩ := hob2.shape
  clear hgb2 HOA2 hba2
  have HOB2 := Lib.hid hob2
  clear hob2
  go_wp2_with fail
  refine (Earned_any zs Ab2 cb2 _ (HOB2.out.reads At.enc_len) (by rw [HZ.out]; simp; omega)).mono ?_
  rw [K3.out]
  rintro e w7 ⟨rfl, hb_w7⟩
  have S_w7 : Below w6.heap.size w6 w7 := hbb2.trans (hb_w7.mono hbb2.size)
  have G := Lib.hid (G.out.trans (S_w7.mono G.out.size))
  have RA := Lib.hid ((RA.out.below S_w7).more S_w7.size)
  have RB := Lib.hid ((RB.out.below S_w7).more S_w7.size)
  have z_w7 := S_w7.size
  clear HOB2 hbb2 hb_w7
  go_wp2_with fail
  go_ret
  exact ⟨rfl, G.out⟩
end Go.Proofs.Ytimaealmmjdjkaa
