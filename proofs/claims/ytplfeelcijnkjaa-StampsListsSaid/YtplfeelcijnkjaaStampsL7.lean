/- StampsLists, walked. -/
import Derived.Test.YtplfeelcijnkjaaStampsL1
import Derived.Test.YtplfeelcijnkjaaStampsR
namespace Go.Proofs.Ytplfeelcijnkjaa
open Go.RowKit
set_option linter.unusedSimpArgs false
set_option linter.unusedVariables false

theorem own_cap {w : World} {b sz : Nat} {e : TypeId} {en : St → List Value} {A : Option Addr} {n c : Nat} {ys : List St} (h : Owns w b e sz en (.slice A n c) ys) : ys.length ≤ c ∧ c ≤ maxLen := by
  rcases h.form with ⟨h1, h2⟩ | ⟨g, cap, h1, _, _, h2, h3⟩
  · cases h1
    rw [h2]
    exact ⟨Nat.zero_le _, by decide⟩
  · cases h1
    exact ⟨h3, h2⟩
theorem mergeP_ok {us vs : List St} (h : (mergeP us vs).2 = 0) : validS us = true ∧ validS vs = true := by
  unfold mergeP at h
  split at h
  · rename_i hc; simpa using hc
  · simp at h
theorem mergeP_val {us vs : List St} (hu : validS us = true) (hv : validS vs = true) : mergeP us vs = (mergeL us vs, 0) := by simp [mergeP, hu, hv]

set_option maxRecDepth 100000 in
set_option maxHeartbeats 16000000 in
theorem StampsLists_any {w : World} (us : List St) (A : Option Addr) (c : Nat) (hx : Reads w w.heap.size A 3 St.enc us) (hq : ∀ y ∈ us, y.ok) (hlc : us.length ≤ c) (hmc : c ≤ maxLen)
    (vs : List St) (D : Option Addr) (d : Nat) (hy : Reads w w.heap.size D 3 St.enc vs) (hq2 : ∀ y ∈ vs, y.ok) (hld : vs.length ≤ d) (hmd : d ≤ maxLen)
    (xs : List St) (E : Option Addr) (f : Nat) (hz : Reads w w.heap.size E 3 St.enc xs) (hq3 : ∀ y ∈ xs, y.ok) (hlf : xs.length ≤ f) (hmf : f ≤ maxLen) :
    Calls Try.prog 9 #[.slice A us.length c, .slice D vs.length d, .slice E xs.length f] w fun e w' => e = .returned (.bool true) ∧ Below w.heap.size w w' := by
  clear hq hq2 hq3
  have HX := Lib.hid hx
  have HY := Lib.hid hy
  have HZ := Lib.hid hz
  have HMC := Lib.hid hmc
  have HMD := Lib.hid hmd
  have HMF := Lib.hid hmf
  clear hx hy hz hmc hmd hmf
  by_cases h1 : us.length ≤ 40
  rotate_left
  · have d1 : decide (us.length ≤ 40) = false := by simpa using h1
    clear h1
    go_enter Try.func9, Try.ntmps9
    go_wp2_with fail
    refine (sane_any _).mono ?_
    rintro e w1 ⟨rfl, G1⟩
    go_wp2_with fail
    refine (few_any us A c _).mono ?_
    rw [d1]
    rintro e w2 ⟨rfl, rfl⟩
    go_wp2_with fail
    go_ret
    exact ⟨rfl, G1⟩
  have d1 : decide (us.length ≤ 40) = true := by simpa using h1
  by_cases h2 : vs.length ≤ 40
  rotate_left
  · have d2 : decide (vs.length ≤ 40) = false := by simpa using h2
    clear h1 h2
    go_enter Try.func9, Try.ntmps9
    go_wp2_with fail
    refine (sane_any _).mono ?_
    rintro e w1 ⟨rfl, G1⟩
    go_wp2_with fail
    refine (few_any us A c _).mono ?_
    rw [d1]
    rintro e w2 ⟨rfl, rfl⟩
    go_wp2_with fail
    refine (few_any vs D d _).mono ?_
    rw [d2]
    rintro e w2 ⟨rfl, rfl⟩
    go_wp2_with fail
    go_ret
    exact ⟨rfl, G1⟩
  have d2 : decide (vs.length ≤ 40) = true := by simpa using h2
  by_cases h3 : xs.length ≤ 40
  rotate_left
  · have d3 : decide (xs.length ≤ 40) = false := by simpa using h3
    clear h1 h2 h3
    go_enter Try.func9, Try.ntmps9
    go_wp2_with fail
    refine (sane_any _).mono ?_
    rintro e w1 ⟨rfl, G1⟩
    go_wp2_with fail
    refine (few_any us A c _).mono ?_
    rw [d1]
    rintro e w2 ⟨rfl, rfl⟩
    go_wp2_with fail
    refine (few_any vs D d _).mono ?_
    rw [d2]
    rintro e w2 ⟨rfl, rfl⟩
    go_wp2_with fail
    refine (few_any xs E f _).mono ?_
    rw [d3]
    rintro e w2 ⟨rfl, rfl⟩
    go_wp2_with fail
    go_ret
    exact ⟨rfl, G1⟩
  have d3 : decide (xs.length ≤ 40) = true := by simpa using h3
  by_cases e1 : (mergeP us vs).2 = 0
  rotate_left
  · obtain ⟨⟨r, e⟩, hr⟩ : ∃ r, r = mergeP us vs := ⟨_, rfl⟩
    rw [← hr] at e1
    have q : (e == 0) = false := by simpa using e1
    have HR := Lib.hid hr.symm
    obtain ⟨⟨r2, e2⟩, hr2⟩ : ∃ r, r = mergeP vs xs := ⟨_, rfl⟩
    have HR2 := Lib.hid hr2.symm
    clear hr e1 hr2
    go_enter Try.func9, Try.ntmps9
    go_wp2_with fail
    refine (sane_any _).mono ?_
    rintro e w1 ⟨rfl, G1⟩
    go_wp2_with fail
    refine (few_any us A c _).mono ?_
    rw [d1]
    rintro e w2 ⟨rfl, rfl⟩
    go_wp2_with fail
    refine (few_any vs D d _).mono ?_
    rw [d2]
    rintro e w2 ⟨rfl, rfl⟩
    go_wp2_with fail
    refine (few_any xs E f _).mono ?_
    rw [d3]
    rintro e w2 ⟨rfl, rfl⟩
    go_wp2_with fail
    refine (Merge_any us vs A D c d _ ((HX.out.below G1).more G1.size) ((HY.out.below G1).more G1.size) hlc hld HMC.out HMD.out (by omega)).mono ?_
    rw [HR.out]
    rintro e w2 ⟨⟨v2, rfl, ho2⟩, hb2⟩
    obtain ⟨A2, c2, rfl, hn2, hm2⟩ := ho2.shape
    have G2 := G1.trans (hb2.mono G1.size)
    go_wp2_with fail
    refine (Merge_any vs xs D E d f _ ((HY.out.below G2).more G2.size) ((HZ.out.below G2).more G2.size) hld hlf HMD.out HMF.out (by omega)).mono ?_
    rw [HR2.out]
    rintro e w3 ⟨⟨v3, rfl, ho3⟩, hb3⟩
    obtain ⟨A3, c3, rfl, hn3, hm3⟩ := ho3.shape
    have G3 := G2.trans (hb3.mono G2.size)
    go_wp2_with fail
    go_ret
    exact ⟨rfl, G3⟩
  by_cases e2 : (mergeP vs xs).2 = 0
  rotate_left
  · obtain ⟨vu, vv⟩ := mergeP_ok e1
    have HR := Lib.hid (mergeP_val vu vv)
    obtain ⟨⟨r, e⟩, hr⟩ : ∃ r, r = mergeP vs xs := ⟨_, rfl⟩
    rw [← hr] at e2
    have q : (e == 0) = false := by simpa using e2
    have HR2 := Lib.hid hr.symm
    clear hr e1 e2 vu vv
    go_enter Try.func9, Try.ntmps9
    go_wp2_with fail
    refine (sane_any _).mono ?_
    rintro e w1 ⟨rfl, G1⟩
    go_wp2_with fail
    refine (few_any us A c _).mono ?_
    rw [d1]
    rintro e w2 ⟨rfl, rfl⟩
    go_wp2_with fail
    refine (few_any vs D d _).mono ?_
    rw [d2]
    rintro e w2 ⟨rfl, rfl⟩
    go_wp2_with fail
    refine (few_any xs E f _).mono ?_
    rw [d3]
    rintro e w2 ⟨rfl, rfl⟩
    go_wp2_with fail
    refine (Merge_any us vs A D c d _ ((HX.out.below G1).more G1.size) ((HY.out.below G1).more G1.size) hlc hld HMC.out HMD.out (by omega)).mono ?_
    rw [HR.out]
    rintro e w2 ⟨⟨v2, rfl, ho2⟩, hb2⟩
    obtain ⟨A2, c2, rfl, hn2, hm2⟩ := ho2.shape
    have G2 := G1.trans (hb2.mono G1.size)
    go_wp2_with fail
    refine (Merge_any vs xs D E d f _ ((HY.out.below G2).more G2.size) ((HZ.out.below G2).more G2.size) hld hlf HMD.out HMF.out (by omega)).mono ?_
    rw [HR2.out]
    rintro e w3 ⟨⟨v3, rfl, ho3⟩, hb3⟩
    obtain ⟨A3, c3, rfl, hn3, hm3⟩ := ho3.shape
    have G3 := G2.trans (hb3.mono G2.size)
    go_wp2_with fail
    go_ret
    exact ⟨rfl, G3⟩
  obtain ⟨vu, vv⟩ := mergeP_ok e1
  obtain ⟨_, vx⟩ := mergeP_ok e2
  clear e1 e2
  obtain ⟨uv, huv⟩ : ∃ l, l = mergeL us vs := ⟨_, rfl⟩
  obtain ⟨vx', hvx⟩ : ∃ l, l = mergeL vs xs := ⟨_, rfl⟩
  obtain ⟨al, hal⟩ : ∃ l, l = mergeL uv xs := ⟨_, rfl⟩
  have R1 : Hid (mergeP us vs = (uv, 0)) := Lib.hid (by rw [mergeP_val vu vv, huv])
  have R2 : Hid (mergeP vs xs = (vx', 0)) := Lib.hid (by rw [mergeP_val vv vx, hvx])
  have R3 : Hid (mergeP vs us = (uv, 0)) := Lib.hid (by rw [mergeP_val vv vu, huv, merge_comm vv vu])
  have R4 : Hid (mergeP uv xs = (al, 0)) := Lib.hid (by rw [mergeP_val (by rw [huv]; exact valid_mergeL vu vv) vx, hal])
  have R5 : Hid (mergeP us vx' = (al, 0)) := Lib.hid (by rw [mergeP_val vu (by rw [hvx]; exact valid_mergeL vv vx), hal, huv, hvx, merge_assoc vu vv vx])
  have R6 : Hid (mergeP us us = (us, 0)) := Lib.hid (by rw [mergeP_val vu vu, merge_self vu])
  have n1 : uv.length ≤ 80 := by have := length_mergeL us vs; rw [huv]; omega
  have n2 : vx'.length ≤ 80 := by have := length_mergeL vs xs; rw [hvx]; omega
  have n3 : al.length ≤ 120 := by have := length_mergeL uv xs; rw [hal]; omega
  clear vu vv vx huv hvx hal
  go_enter Try.func9, Try.ntmps9
  go_wp2_with fail
  refine (sane_any _).mono ?_
  rintro e w1 ⟨rfl, G1⟩
  go_wp2_with fail
  refine (few_any us A c _).mono ?_
  rw [d1]
  rintro e w2 ⟨rfl, rfl⟩
  go_wp2_with fail
  refine (few_any vs D d _).mono ?_
  rw [d2]
  rintro e w2 ⟨rfl, rfl⟩
  go_wp2_with fail
  refine (few_any xs E f _).mono ?_
  rw [d3]
  rintro e w2 ⟨rfl, rfl⟩
  go_wp2_with fail
  refine (Merge_any us vs A D c d _ ((HX.out.below G1).more G1.size) ((HY.out.below G1).more G1.size) hlc hld HMC.out HMD.out (by omega)).mono ?_
  rw [R1.out]
  rintro e w2 ⟨⟨v2, rfl, ho2⟩, hb2⟩
  obtain ⟨A2, c2, rfl, hn2, hm2⟩ := ho2.shape
  have G2 := G1.trans (hb2.mono G1.size)
  have HO2 := Lib.hid (ho2.reads St.enc_len)
  have cc2 : uv.length ≤ c2 ∧ c2 ≤ maxLen := own_cap ho2
  clear ho2 hn2
  have S2_2 : Below w2.heap.size w2 w2 := Below.refl _ _
  go_wp2_with fail
  refine (Merge_any vs xs D E d f _ ((HY.out.below G2).more G2.size) ((HZ.out.below G2).more G2.size) hld hlf HMD.out HMF.out (by omega)).mono ?_
  rw [R2.out]
  rintro e w3 ⟨⟨v3, rfl, ho3⟩, hb3⟩
  obtain ⟨A3, c3, rfl, hn3, hm3⟩ := ho3.shape
  have G3 := G2.trans (hb3.mono G2.size)
  have HO3 := Lib.hid (ho3.reads St.enc_len)
  have cc3 : vx'.length ≤ c3 ∧ c3 ≤ maxLen := own_cap ho3
  clear ho3 hn3
  have S2_3 := S2_2.trans (hb3.mono S2_2.size)
  have S3_3 : Below w3.heap.size w3 w3 := Below.refl _ _
  clear hb3 S2_2
  go_wp2_with fail
  refine (Merge_any vs us D A d c _ ((HY.out.below G3).more G3.size) ((HX.out.below G3).more G3.size) hld hlc HMD.out HMC.out (by omega)).mono ?_
  rw [R3.out]
  rintro e w4 ⟨⟨v4, rfl, ho4⟩, hb4⟩
  obtain ⟨A4, c4, rfl, hn4, hm4⟩ := ho4.shape
  have G4 := G3.trans (hb4.mono G3.size)
  have HO4 := Lib.hid (ho4.reads St.enc_len)
  have cc4 : uv.length ≤ c4 ∧ c4 ≤ maxLen := own_cap ho4
  clear ho4 hn4
  have S2_4 := S2_3.trans (hb4.mono S2_3.size)
  have S3_4 := S3_3.trans (hb4.mono S3_3.size)
  have S4_4 : Below w4.heap.size w4 w4 := Below.refl _ _
  clear hb4 S2_3 S3_3
  go_wp2_with fail
  refine (Merge_any uv xs A2 E c2 f _ ((HO2.out.below S2_4).more S2_4.size) ((HZ.out.below G4).more G4.size) cc2.1 hlf cc2.2 HMF.out (by omega)).mono ?_
  rw [R4.out]
  rintro e w5 ⟨⟨v5, rfl, ho5⟩, hb5⟩
  obtain ⟨A5, c5, rfl, hn5, hm5⟩ := ho5.shape
  have G5 := G4.trans (hb5.mono G4.size)
  have HO5 := Lib.hid (ho5.reads St.enc_len)
  have cc5 : al.length ≤ c5 ∧ c5 ≤ maxLen := own_cap ho5
  clear ho5 hn5
  have S2_5 := S2_4.trans (hb5.mono S2_4.size)
  have S3_5 := S3_4.trans (hb5.mono S3_4.size)
  have S4_5 := S4_4.trans (hb5.mono S4_4.size)
  have S5_5 : Below w5.heap.size w5 w5 := Below.refl _ _
  clear hb5 S2_4 S3_4 S4_4
  go_wp2_with fail
  refine (Merge_any us vx' A A3 c c3 _ ((HX.out.below G5).more G5.size) ((HO3.out.below S3_5).more S3_5.size) hlc cc3.1 HMC.out cc3.2 (by omega)).mono ?_
  rw [R5.out]
  rintro e w6 ⟨⟨v6, rfl, ho6⟩, hb6⟩
  obtain ⟨A6, c6, rfl, hn6, hm6⟩ := ho6.shape
  have G6 := G5.trans (hb6.mono G5.size)
  have HO6 := Lib.hid (ho6.reads St.enc_len)
  have cc6 : al.length ≤ c6 ∧ c6 ≤ maxLen := own_cap ho6
  clear ho6 hn6
  have S2_6 := S2_5.trans (hb6.mono S2_5.size)
  have S3_6 := S3_5.trans (hb6.mono S3_5.size)
  have S4_6 := S4_5.trans (hb6.mono S4_5.size)
  have S5_6 := S5_5.trans (hb6.mono S5_5.size)
  have S6_6 : Below w6.heap.size w6 w6 := Below.refl _ _
  clear hb6 S2_5 S3_5 S4_5 S5_5
  go_wp2_with fail
  refine (Merge_any us us A A c c _ ((HX.out.below G6).more G6.size) ((HX.out.below G6).more G6.size) hlc hlc HMC.out HMC.out (by omega)).mono ?_
  rw [R6.out]
  rintro e w7 ⟨⟨v7, rfl, ho7⟩, hb7⟩
  obtain ⟨A7, c7, rfl, hn7, hm7⟩ := ho7.shape
  have G7 := G6.trans (hb7.mono G6.size)
  have HO7 := Lib.hid (ho7.reads St.enc_len)
  have cc7 : us.length ≤ c7 ∧ c7 ≤ maxLen := own_cap ho7
  clear ho7 hn7
  have S2_7 := S2_6.trans (hb7.mono S2_6.size)
  have S3_7 := S3_6.trans (hb7.mono S3_6.size)
  have S4_7 := S4_6.trans (hb7.mono S4_6.size)
  have S5_7 := S5_6.trans (hb7.mono S5_6.size)
  have S6_7 := S6_6.trans (hb7.mono S6_6.size)
  have S7_7 : Below w7.heap.size w7 w7 := Below.refl _ _
  clear hb7 S2_6 S3_6 S4_6 S5_6 S6_6
  go_wp2_with fail
  refine (Same_any uv uv A2 A4 c2 c4 _ ((HO2.out.below S2_7).more S2_7.size) ((HO4.out.below S4_7).more S4_7.size) (by omega)).mono ?_
  rintro e w8 ⟨rfl, hb8⟩
  have G8 := G7.trans (hb8.mono G7.size)
  have S5_8 := S5_7.trans (hb8.mono S5_7.size)
  have S6_8 := S6_7.trans (hb8.mono S6_7.size)
  have S7_8 := S7_7.trans (hb8.mono S7_7.size)
  go_wp2_with fail
  refine (Same_any al al A5 A6 c5 c6 _ ((HO5.out.below S5_8).more S5_8.size) ((HO6.out.below S6_8).more S6_8.size) (by omega)).mono ?_
  rintro e w9 ⟨rfl, hb9⟩
  have G9 := G8.trans (hb9.mono G8.size)
  have S7_9 := S7_8.trans (hb9.mono S7_8.size)
  go_wp2_with fail
  refine (Same_any us us A7 A c7 c _ ((HO7.out.below S7_9).more S7_9.size) ((HX.out.below G9).more G9.size) (by omega)).mono ?_
  rintro e w10 ⟨rfl, hb10⟩
  go_wp2_with fail
  go_ret
  exact ⟨ret_bool (by simp), G9.trans (hb10.mono G9.size)⟩
end Go.Proofs.Ytplfeelcijnkjaa
