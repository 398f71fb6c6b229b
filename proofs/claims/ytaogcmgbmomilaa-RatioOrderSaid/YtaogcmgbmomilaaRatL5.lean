/- RatioOrder, walked. -/
import Derived.Test.YtaogcmgbmomilaaRatL4
namespace Go.Proofs.Ytaogcmgbmomilaa
open Go.RowKit Go.Shelf
set_option linter.unusedSimpArgs false
set_option linter.unusedVariables false

theorem ra_parts {x y : Ra} (h : x ≠ y) : (x.num == y.num) = false ∨ ((x.num == y.num) = true ∧ (x.den == y.den) = false) := by
  obtain ⟨a, b⟩ := x
  obtain ⟨c, d⟩ := y
  simp only [ne_eq, Ra.mk.injEq] at h
  simp
  omega
set_option maxRecDepth 100000 in
set_option maxHeartbeats 16000000 in
theorem RatioOrder_any {w : World} (a : Ra) (ha : a.ok) (b : Ra) (hb : b.ok) (c : Ra) (hc : c.ok) :
    Calls Try.prog 7 #[a.v, b.v, c.v] w fun e w' => e = .returned (.bool true) ∧ Below w.heap.size w w' := by
  have HA := Lib.hid (Ra.ok_i64 ha)
  have HB := Lib.hid (Ra.ok_i64 hb)
  have HC := Lib.hid (Ra.ok_i64 hc)
  clear ha hb hc
  by_cases oa : okR a
  rotate_left
  · have Ca := Lib.hid (checkR_no oa)
    clear oa
    unfold Ra.v
    go_enter Try.func7, Try.ntmps7
    go_wp2_with fail
    refine Calls.mono (sane_any _) ?_
    try simp only [Ra.v]
    rintro e w1 ⟨rfl, hb1⟩
    have P_1 := (Below.refl (w.heap.size + 3) (((w.alloc (.cells #[.int .i64 a.num, .int .i64 a.den] 23)).alloc (.cells #[.int .i64 b.num, .int .i64 b.den] 23)).alloc (.cells #[.int .i64 c.num, .int .i64 c.den] 23))).trans (hb1.mono (by (try simp) <;> omega))
    have z1 : w.heap.size + 3 ≤ w1.heap.size := by have := hb1.size; (try simp at this); omega
    clear hb1
    obtain ⟨m0, m1, m2, m3, m4, m5, m6, m7, m8⟩ := par_cells3 (a := a) (b := b) (c := c) P_1
    go_wp2_with fail
    refine Calls.mono (Check_any a HA.out _) ?_
    rw [Ca.out]
    try simp only [Ra.v]
    rintro e w2 ⟨rfl, hb2⟩
    have z2 : w1.heap.size + 0 ≤ w2.heap.size := by have := hb2.size; (try simp at this); omega
    have P_2 := P_1.trans (hb2.mono (by (try simp) <;> omega))
    clear P_1 
    clear hb2
    clear m0 m1 m2 m3 m4 m5 m6 m7 m8
    obtain ⟨m0, m1, m2, m3, m4, m5, m6, m7, m8⟩ := par_cells3 (a := a) (b := b) (c := c) P_2
    go_wp2_with fail
    go_ret
    exact ⟨rfl, par_end3 P_2⟩
  by_cases ob : okR b
  rotate_left
  · have Cb := Lib.hid (checkR_no ob)
    have Ca := Lib.hid (checkR_ok oa)
    clear oa ob
    unfold Ra.v
    go_enter Try.func7, Try.ntmps7
    go_wp2_with fail
    refine Calls.mono (sane_any _) ?_
    try simp only [Ra.v]
    rintro e w1 ⟨rfl, hb1⟩
    have P_1 := (Below.refl (w.heap.size + 3) (((w.alloc (.cells #[.int .i64 a.num, .int .i64 a.den] 23)).alloc (.cells #[.int .i64 b.num, .int .i64 b.den] 23)).alloc (.cells #[.int .i64 c.num, .int .i64 c.den] 23))).trans (hb1.mono (by (try simp) <;> omega))
    have z1 : w.heap.size + 3 ≤ w1.heap.size := by have := hb1.size; (try simp at this); omega
    clear hb1
    obtain ⟨m0, m1, m2, m3, m4, m5, m6, m7, m8⟩ := par_cells3 (a := a) (b := b) (c := c) P_1
    go_wp2_with fail
    refine Calls.mono (Check_any a HA.out _) ?_
    rw [Ca.out]
    try simp only [Ra.v]
    rintro e w2 ⟨rfl, hb2⟩
    have z2 : w1.heap.size + 0 ≤ w2.heap.size := by have := hb2.size; (try simp at this); omega
    have P_2 := P_1.trans (hb2.mono (by (try simp) <;> omega))
    clear P_1 
    clear hb2
    clear m0 m1 m2 m3 m4 m5 m6 m7 m8
    obtain ⟨m0, m1, m2, m3, m4, m5, m6, m7, m8⟩ := par_cells3 (a := a) (b := b) (c := c) P_2
    go_wp2_with fail
    refine Calls.mono (Check_any b HB.out _) ?_
    rw [Cb.out]
    try simp only [Ra.v]
    rintro e w3 ⟨rfl, hb3⟩
    have z3 : w2.heap.size + 0 ≤ w3.heap.size := by have := hb3.size; (try simp at this); omega
    have P_3 := P_2.trans (hb3.mono (by (try simp) <;> omega))
    clear P_2 
    clear hb3
    clear m0 m1 m2 m3 m4 m5 m6 m7 m8
    obtain ⟨m0, m1, m2, m3, m4, m5, m6, m7, m8⟩ := par_cells3 (a := a) (b := b) (c := c) P_3
    go_wp2_with fail
    go_ret
    exact ⟨rfl, par_end3 P_3⟩
  by_cases oc : okR c
  rotate_left
  · have Cc := Lib.hid (checkR_no oc)
    have Ca := Lib.hid (checkR_ok oa)
    have Cb := Lib.hid (checkR_ok ob)
    clear oa ob oc
    unfold Ra.v
    go_enter Try.func7, Try.ntmps7
    go_wp2_with fail
    refine Calls.mono (sane_any _) ?_
    try simp only [Ra.v]
    rintro e w1 ⟨rfl, hb1⟩
    have P_1 := (Below.refl (w.heap.size + 3) (((w.alloc (.cells #[.int .i64 a.num, .int .i64 a.den] 23)).alloc (.cells #[.int .i64 b.num, .int .i64 b.den] 23)).alloc (.cells #[.int .i64 c.num, .int .i64 c.den] 23))).trans (hb1.mono (by (try simp) <;> omega))
    have z1 : w.heap.size + 3 ≤ w1.heap.size := by have := hb1.size; (try simp at this); omega
    clear hb1
    obtain ⟨m0, m1, m2, m3, m4, m5, m6, m7, m8⟩ := par_cells3 (a := a) (b := b) (c := c) P_1
    go_wp2_with fail
    refine Calls.mono (Check_any a HA.out _) ?_
    rw [Ca.out]
    try simp only [Ra.v]
    rintro e w2 ⟨rfl, hb2⟩
    have z2 : w1.heap.size + 0 ≤ w2.heap.size := by have := hb2.size; (try simp at this); omega
    have P_2 := P_1.trans (hb2.mono (by (try simp) <;> omega))
    clear P_1 
    clear hb2
    clear m0 m1 m2 m3 m4 m5 m6 m7 m8
    obtain ⟨m0, m1, m2, m3, m4, m5, m6, m7, m8⟩ := par_cells3 (a := a) (b := b) (c := c) P_2
    go_wp2_with fail
    refine Calls.mono (Check_any b HB.out _) ?_
    rw [Cb.out]
    try simp only [Ra.v]
    rintro e w3 ⟨rfl, hb3⟩
    have z3 : w2.heap.size + 0 ≤ w3.heap.size := by have := hb3.size; (try simp at this); omega
    have P_3 := P_2.trans (hb3.mono (by (try simp) <;> omega))
    clear P_2 
    clear hb3
    clear m0 m1 m2 m3 m4 m5 m6 m7 m8
    obtain ⟨m0, m1, m2, m3, m4, m5, m6, m7, m8⟩ := par_cells3 (a := a) (b := b) (c := c) P_3
    go_wp2_with fail
    refine Calls.mono (Check_any c HC.out _) ?_
    rw [Cc.out]
    try simp only [Ra.v]
    rintro e w4 ⟨rfl, hb4⟩
    have z4 : w3.heap.size + 0 ≤ w4.heap.size := by have := hb4.size; (try simp at this); omega
    have P_4 := P_3.trans (hb4.mono (by (try simp) <;> omega))
    clear P_3 
    clear hb4
    clear m0 m1 m2 m3 m4 m5 m6 m7 m8
    obtain ⟨m0, m1, m2, m3, m4, m5, m6, m7, m8⟩ := par_cells3 (a := a) (b := b) (c := c) P_4
    go_wp2_with fail
    go_ret
    exact ⟨rfl, par_end3 P_4⟩
  have Ca := Lib.hid (checkR_ok oa)
  have Cb := Lib.hid (checkR_ok ob)
  have Cc := Lib.hid (checkR_ok oc)
  obtain ⟨n, hn⟩ : ∃ k, k = cmpV a b := ⟨_, rfl⟩
  obtain ⟨k, hk⟩ : ∃ k, k = cmpV b c := ⟨_, rfl⟩
  obtain ⟨l, hl⟩ : ∃ k, k = cmpV a c := ⟨_, rfl⟩
  have N1 : Hid (cmpP a b = (n, 0)) := Lib.hid (by rw [cmpP_ok oa ob, hn])
  have N2 : Hid (cmpP b a = (-n, 0)) := Lib.hid (by rw [cmpP_ok ob oa, cmpV_turn, hn])
  have N3 : Hid (cmpP b c = (k, 0)) := Lib.hid (by rw [cmpP_ok ob oc, hk])
  have N4 : Hid (cmpP a c = (l, 0)) := Lib.hid (by rw [cmpP_ok oa oc, hl])
  have r1 := cmpV_range a b
  have r2 := cmpV_range b c
  have r3 := cmpV_range a c
  have tr := cmpV_trans oa ob oc
  have hz := cmpV_zero oa ob
  rw [← hn] at r1 tr hz
  rw [← hk] at r2 tr
  rw [← hl] at r3 tr
  have ALL : Hid (((n = 0 ∧ a = b ∧ (k ≤ 0 → l ≤ 0)) ∨ (n = -1 ∧ a ≠ b ∧ (k ≤ 0 → l < 0)) ∨ (n = 1 ∧ a ≠ b)) ∧ -1 ≤ k ∧ k ≤ 1 ∧ -1 ≤ l ∧ l ≤ 1) := Lib.hid (by
    refine ⟨?_, r2.1, r2.2, r3.1, r3.2⟩
    have h3 : n = 0 ∨ n = -1 ∨ n = 1 := by omega
    rcases h3 with h | h | h
    · exact .inl ⟨h, hz.1 h, fun h2 => (tr (by omega) h2).1⟩
    · exact .inr (.inl ⟨h, fun e => by have := hz.2 e; omega, fun h2 => (tr (by omega) h2).2 (by omega)⟩)
    · exact .inr (.inr ⟨h, fun e => by have := hz.2 e; omega⟩))
  obtain ⟨⟨⟨n1, d1⟩, E1⟩, hq1⟩ : ∃ q, q = addP a c := ⟨_, rfl⟩
  have hq1 := hq1.symm
  have Q1 := Lib.hid hq1
  have I1 : Hid (Ra.i64 ⟨n1, d1⟩) := Lib.hid (by have := addP_i64 a c; rw [hq1] at this; exact this)
  obtain ⟨⟨⟨n2, d2⟩, E2⟩, hq2⟩ : ∃ q, q = addP b c := ⟨_, rfl⟩
  have hq2 := hq2.symm
  have Q2 := Lib.hid hq2
  have I2 : Hid (Ra.i64 ⟨n2, d2⟩) := Lib.hid (by have := addP_i64 b c; rw [hq2] at this; exact this)
  obtain ⟨⟨⟨n3, d3⟩, E3⟩, hq3⟩ : ∃ q, q = mulP a c := ⟨_, rfl⟩
  have hq3 := hq3.symm
  have Q3 := Lib.hid hq3
  have I3 : Hid (Ra.i64 ⟨n3, d3⟩) := Lib.hid (by have := mulP_i64 a c; rw [hq3] at this; exact this)
  obtain ⟨⟨⟨n4, d4⟩, E4⟩, hq4⟩ : ∃ q, q = mulP b c := ⟨_, rfl⟩
  have hq4 := hq4.symm
  have Q4 := Lib.hid hq4
  have I4 : Hid (Ra.i64 ⟨n4, d4⟩) := Lib.hid (by have := mulP_i64 b c; rw [hq4] at this; exact this)
  have FA : Hid (E1 = 0 → E2 = 0 → cmpP ⟨n1, d1⟩ ⟨n2, d2⟩ = (n, 0)) := Lib.hid (fun h1 h2 => by
    subst h1 h2
    rw [cmpP_ok (addV oa oc hq1).1 (addV ob oc hq2).1, cmpV_add oa ob oc hq1 hq2, hn])
  have FB : Hid (E3 = 0 → E4 = 0 → 0 < c.num → cmpP ⟨n3, d3⟩ ⟨n4, d4⟩ = (n, 0)) := Lib.hid (fun h1 h2 h3 => by
    subst h1 h2
    rw [cmpP_ok (mulV oa oc hq3).1 (mulV ob oc hq4).1, cmpV_mul oa ob oc h3 hq3 hq4, hn])
  clear oa ob oc hn hk hl r1 r2 r3 tr hz hq1 hq2 hq3 hq4
  unfold Ra.v
  go_enter Try.func7, Try.ntmps7
  go_wp2_with fail
  refine Calls.mono (sane_any _) ?_
  try simp only [Ra.v]
  rintro e w1 ⟨rfl, hb1⟩
  have P_1 := (Below.refl (w.heap.size + 3) (((w.alloc (.cells #[.int .i64 a.num, .int .i64 a.den] 23)).alloc (.cells #[.int .i64 b.num, .int .i64 b.den] 23)).alloc (.cells #[.int .i64 c.num, .int .i64 c.den] 23))).trans (hb1.mono (by (try simp) <;> omega))
  have z1 : w.heap.size + 3 ≤ w1.heap.size := by have := hb1.size; (try simp at this); omega
  clear hb1
  obtain ⟨m0, m1, m2, m3, m4, m5, m6, m7, m8⟩ := par_cells3 (a := a) (b := b) (c := c) P_1
  go_wp2_with fail
  refine Calls.mono (Check_any a HA.out _) ?_
  rw [Ca.out]
  try simp only [Ra.v]
  rintro e w2 ⟨rfl, hb2⟩
  have z2 : w1.heap.size + 0 ≤ w2.heap.size := by have := hb2.size; (try simp at this); omega
  have P_2 := P_1.trans (hb2.mono (by (try simp) <;> omega))
  clear P_1 
  clear hb2
  clear m0 m1 m2 m3 m4 m5 m6 m7 m8
  obtain ⟨m0, m1, m2, m3, m4, m5, m6, m7, m8⟩ := par_cells3 (a := a) (b := b) (c := c) P_2
  go_wp2_with fail
  refine Calls.mono (Check_any b HB.out _) ?_
  rw [Cb.out]
  try simp only [Ra.v]
  rintro e w3 ⟨rfl, hb3⟩
  have z3 : w2.heap.size + 0 ≤ w3.heap.size := by have := hb3.size; (try simp at this); omega
  have P_3 := P_2.trans (hb3.mono (by (try simp) <;> omega))
  clear P_2 
  clear hb3
  clear m0 m1 m2 m3 m4 m5 m6 m7 m8
  obtain ⟨m0, m1, m2, m3, m4, m5, m6, m7, m8⟩ := par_cells3 (a := a) (b := b) (c := c) P_3
  go_wp2_with fail
  refine Calls.mono (Check_any c HC.out _) ?_
  rw [Cc.out]
  try simp only [Ra.v]
  rintro e w4 ⟨rfl, hb4⟩
  have z4 : w3.heap.size + 0 ≤ w4.heap.size := by have := hb4.size; (try simp at this); omega
  have P_4 := P_3.trans (hb4.mono (by (try simp) <;> omega))
  clear P_3 
  clear hb4
  clear m0 m1 m2 m3 m4 m5 m6 m7 m8
  obtain ⟨m0, m1, m2, m3, m4, m5, m6, m7, m8⟩ := par_cells3 (a := a) (b := b) (c := c) P_4
  go_wp2_with fail
  refine Calls.mono (RaCompare_any a b HA.out HB.out _) ?_
  rw [N1.out]
  try simp only [Ra.v]
  rintro e w5 ⟨rfl, hb5⟩
  have z5 : w4.heap.size + 0 ≤ w5.heap.size := by have := hb5.size; (try simp at this); omega
  have P_5 := P_4.trans (hb5.mono (by (try simp) <;> omega))
  clear P_4 
  clear hb5
  clear m0 m1 m2 m3 m4 m5 m6 m7 m8
  obtain ⟨m0, m1, m2, m3, m4, m5, m6, m7, m8⟩ := par_cells3 (a := a) (b := b) (c := c) P_5
  go_wp2_with fail
  refine Calls.mono (RaCompare_any b a HB.out HA.out _) ?_
  rw [N2.out]
  try simp only [Ra.v]
  rintro e w6 ⟨rfl, hb6⟩
  have z6 : w5.heap.size + 0 ≤ w6.heap.size := by have := hb6.size; (try simp at this); omega
  have P_6 := P_5.trans (hb6.mono (by (try simp) <;> omega))
  clear P_5 
  clear hb6
  clear m0 m1 m2 m3 m4 m5 m6 m7 m8
  obtain ⟨m0, m1, m2, m3, m4, m5, m6, m7, m8⟩ := par_cells3 (a := a) (b := b) (c := c) P_6
  go_wp2_with fail
  refine Calls.mono (RaCompare_any b c HB.out HC.out _) ?_
  rw [N3.out]
  try simp only [Ra.v]
  rintro e w7 ⟨rfl, hb7⟩
  have z7 : w6.heap.size + 0 ≤ w7.heap.size := by have := hb7.size; (try simp at this); omega
  have P_7 := P_6.trans (hb7.mono (by (try simp) <;> omega))
  clear P_6 
  clear hb7
  clear m0 m1 m2 m3 m4 m5 m6 m7 m8
  obtain ⟨m0, m1, m2, m3, m4, m5, m6, m7, m8⟩ := par_cells3 (a := a) (b := b) (c := c) P_7
  go_wp2_with fail
  refine Calls.mono (RaCompare_any a c HA.out HC.out _) ?_
  rw [N4.out]
  try simp only [Ra.v]
  rintro e w8 ⟨rfl, hb8⟩
  have z8 : w7.heap.size + 0 ≤ w8.heap.size := by have := hb8.size; (try simp at this); omega
  have P_8 := P_7.trans (hb8.mono (by (try simp) <;> omega))
  clear P_7 
  clear hb8
  clear m0 m1 m2 m3 m4 m5 m6 m7 m8
  obtain ⟨m0, m1, m2, m3, m4, m5, m6, m7, m8⟩ := par_cells3 (a := a) (b := b) (c := c) P_8
  go_upto_region 9 with fail
  go_cut [121] (fun t wx => t = .bool false ∧ Below w8.heap.size w8 wx)
  case first =>
    as_aux_lemma =>
      obtain ⟨h3, hk1, hk2, hl1, hl2⟩ := ALL.out
      rcases h3 with ⟨rfl, hab, hkl⟩ | ⟨rfl, hab, hkl⟩ | ⟨rfl, hab⟩
      · have e1 : (a.num == b.num) = true := by rw [hab]; simp
        have e2 : (a.den == b.den) = true := by rw [hab]; simp
        clear hab
        have hc3 : k = 1 ∨ (k ≤ 0 ∧ l ≤ 0) := by omega
        rcases hc3 with rfl | ⟨hk0, hl0⟩
        · clear hkl
          go_wp2_with fail
          go_meet
          exact ⟨by first | rfl | (refine congrArg Value.bool ?_; simp; omega), Below.refl _ _⟩
        · clear hkl
          go_wp2_with fail
          go_meet
          exact ⟨by first | rfl | (refine congrArg Value.bool ?_; simp; omega), Below.refl _ _⟩
      · rcases ra_parts hab with e1 | ⟨e1, e2⟩
        · clear hab
          have hc3 : k = 1 ∨ (k ≤ 0 ∧ l < 0) := by omega
          rcases hc3 with rfl | ⟨hk0, hl0⟩
          · clear hkl
            go_wp2_with fail
            go_meet
            exact ⟨by first | rfl | (refine congrArg Value.bool ?_; simp; omega), Below.refl _ _⟩
          · clear hkl
            have hl1 : l ≤ 0 := by omega
            go_wp2_with fail
            go_meet
            exact ⟨by first | rfl | (refine congrArg Value.bool ?_; simp; omega), Below.refl _ _⟩
        · clear hab
          have hc3 : k = 1 ∨ (k ≤ 0 ∧ l < 0) := by omega
          rcases hc3 with rfl | ⟨hk0, hl0⟩
          · clear hkl
            go_wp2_with fail
            go_meet
            exact ⟨by first | rfl | (refine congrArg Value.bool ?_; simp; omega), Below.refl _ _⟩
          · clear hkl
            have hl1 : l ≤ 0 := by omega
            go_wp2_with fail
            go_meet
            exact ⟨by first | rfl | (refine congrArg Value.bool ?_; simp; omega), Below.refl _ _⟩
      · rcases ra_parts hab with e1 | ⟨e1, e2⟩
        · clear hab
          go_wp2_with fail
          go_meet
          exact ⟨by first | rfl | (refine congrArg Value.bool ?_; simp; omega), Below.refl _ _⟩
        · clear hab
          go_wp2_with fail
          go_meet
          exact ⟨by first | rfl | (refine congrArg Value.bool ?_; simp; omega), Below.refl _ _⟩
  as_aux_lemma =>
    obtain ⟨w9, hwc⟩ : ∃ x, x = wc := ⟨_, rfl⟩
    subst hwc
    obtain ⟨rfl, hb9⟩ := hcut
    have z9 : w8.heap.size + 0 ≤ w9.heap.size := by have := hb9.size; (try simp at this); omega
    have P_9 := P_8.trans (hb9.mono (by (try simp) <;> omega))
    clear P_8 
    clear hb9
    clear m0 m1 m2 m3 m4 m5 m6 m7 m8
    obtain ⟨m0, m1, m2, m3, m4, m5, m6, m7, m8⟩ := par_cells3 (a := a) (b := b) (c := c) P_9
    go_wp2_with fail
    refine Calls.mono (Add_any a c HA.out HC.out _) ?_
    rw [Q1.out]
    try simp only [Ra.v]
    rintro e w10 ⟨rfl, hb10⟩
    have z10 : w9.heap.size + 0 ≤ w10.heap.size := by have := hb10.size; (try simp at this); omega
    have P_10 := P_9.trans (hb10.mono (by (try simp) <;> omega))
    clear P_9 
    clear hb10
    clear m0 m1 m2 m3 m4 m5 m6 m7 m8
    obtain ⟨m0, m1, m2, m3, m4, m5, m6, m7, m8⟩ := par_cells3 (a := a) (b := b) (c := c) P_10
    go_wp2_with fail
    refine Calls.mono (Add_any b c HB.out HC.out _) ?_
    rw [Q2.out]
    try simp only [Ra.v]
    rintro e w11 ⟨rfl, hb11⟩
    have z11 : w10.heap.size + 1 ≤ w11.heap.size := by have := hb11.size; (try simp at this); omega
    have P_11 := (P_10.alloc (by (try simp) <;> omega) (.cells #[.int .i64 n1, .int .i64 d1] 23)).trans (hb11.mono (by (try simp) <;> omega))
    have K10_11 := (Below.refl (w10.heap.size + 1) (w10.alloc (.cells #[.int .i64 n1, .int .i64 d1] 23))).trans (hb11.mono (by (try simp) <;> omega))
    clear P_10 
    clear hb11
    clear m0 m1 m2 m3 m4 m5 m6 m7 m8
    obtain ⟨m0, m1, m2, m3, m4, m5, m6, m7, m8⟩ := par_cells3 (a := a) (b := b) (c := c) P_11
    obtain ⟨_, hc, _, hs10, _⟩ := below_new K10_11
    have cA10 := hc 0
    have cB10 := hc 1
    simp at cA10 cB10
    clear hc
    obtain ⟨bo, hbo⟩ : ∃ x, x = decide (E1 = 0 ∧ E2 = 0) := ⟨_, rfl⟩
    have HBO := Lib.hid hbo
    clear hbo
    go_upto_region 13 with fail
    go_cut [139] (fun t wx => t = .bool bo ∧ Below (w11.alloc (.cells #[.int .i64 n2, .int .i64 d2] 23)).heap.size (w11.alloc (.cells #[.int .i64 n2, .int .i64 d2] 23)) wx)
    case first =>
      as_aux_lemma =>
        by_cases h1 : E1 = 0
        all_goals by_cases h2 : E2 = 0
        · have q1 : (E1 == 0) = true := by simpa using h1
          have q2 : (E2 == 0) = true := by simpa using h2
          go_wp2_with fail
          go_meet
          exact ⟨congrArg Value.bool (by rw [HBO.out]; simp [h1, h2]), Below.refl _ _⟩
        · have q1 : (E1 == 0) = true := by simpa using h1
          have q2 : (E2 == 0) = false := by simpa using h2
          go_wp2_with fail
          go_meet
          exact ⟨congrArg Value.bool (by rw [HBO.out]; simp [h1, h2]), Below.refl _ _⟩
        · have q1 : (E1 == 0) = false := by simpa using h1
          have q2 : (E2 == 0) = true := by simpa using h2
          go_wp2_with fail
          go_meet
          exact ⟨congrArg Value.bool (by rw [HBO.out]; simp [h1, h2]), Below.refl _ _⟩
        · have q1 : (E1 == 0) = false := by simpa using h1
          have q2 : (E2 == 0) = false := by simpa using h2
          go_wp2_with fail
          go_meet
          exact ⟨congrArg Value.bool (by rw [HBO.out]; simp [h1, h2]), Below.refl _ _⟩
    as_aux_lemma =>
      obtain ⟨w12, hwc⟩ : ∃ x, x = wc := ⟨_, rfl⟩
      subst hwc
      obtain ⟨rfl, hb12⟩ := hcut
      have z12 : w11.heap.size + 1 ≤ w12.heap.size := by have := hb12.size; (try simp at this); omega
      have P_12 := (P_11.alloc (by (try simp) <;> omega) (.cells #[.int .i64 n2, .int .i64 d2] 23)).trans (hb12.mono (by (try simp) <;> omega))
      have K10_12 := (K10_11.alloc (by (try simp) <;> omega) (.cells #[.int .i64 n2, .int .i64 d2] 23)).trans (hb12.mono (by (try simp) <;> omega))
      have K11_12 := (Below.refl (w11.heap.size + 1) (w11.alloc (.cells #[.int .i64 n2, .int .i64 d2] 23))).trans (hb12.mono (by (try simp) <;> omega))
      clear P_11 K10_11
      clear hb12
      clear m0 m1 m2 m3 m4 m5 m6 m7 m8 cA10 cB10 hs10
      obtain ⟨m0, m1, m2, m3, m4, m5, m6, m7, m8⟩ := par_cells3 (a := a) (b := b) (c := c) P_12
      obtain ⟨_, hc, _, hs10, _⟩ := below_new K10_12
      have cA10 := hc 0
      have cB10 := hc 1
      simp at cA10 cB10
      clear hc
      obtain ⟨_, hc, _, hs11, _⟩ := below_new K11_12
      have cA11 := hc 0
      have cB11 := hc 1
      simp at cA11 cB11
      clear hc
      go_upto_if 139 with fail
      go_cut [19, 20] (fun _ _ wx => Below w12.heap.size w12 wx)
      case first =>
        as_aux_lemma =>
          cases bo
          · go_wp2_with fail
            go_meet
            exact Below.refl _ _
          · have hh := HBO.out
            simp at hh
            have hcm := FA.out hh.1 hh.2
            have FA2 := Lib.hid hcm
            clear hh hcm
            go_wp2_with fail
            refine Calls.mono (RaCompare_any ⟨n1, d1⟩ ⟨n2, d2⟩ I1.out I2.out _) ?_
            rw [FA2.out]
            rintro e v1 ⟨rfl, hv1⟩
            go_wp2_with fail
            go_meet
            exact hv1
      as_aux_lemma =>
        obtain ⟨w13, hwc⟩ : ∃ x, x = wc := ⟨_, rfl⟩
        subst hwc
        have hb13 := hcut
        clear hcut
        have z13 : w12.heap.size + 0 ≤ w13.heap.size := by have := hb13.size; (try simp at this); omega
        have P_13 := P_12.trans (hb13.mono (by (try simp) <;> omega))
        have K10_13 := K10_12.trans (hb13.mono (by (try simp) <;> omega))
        have K11_13 := K11_12.trans (hb13.mono (by (try simp) <;> omega))
        clear P_12 K10_12 K11_12
        clear hb13
        clear m0 m1 m2 m3 m4 m5 m6 m7 m8 cA10 cB10 hs10 cA11 cB11 hs11
        obtain ⟨m0, m1, m2, m3, m4, m5, m6, m7, m8⟩ := par_cells3 (a := a) (b := b) (c := c) P_13
        obtain ⟨_, xc, xf, xs, _⟩ := below_new K10_13
        obtain ⟨_, yc, yf, ys, _⟩ := below_new K11_13
        have xA := xc 0
        have xB := xc 1
        have yA := yc 0
        have yB := yc 1
        simp at xA xB yA yB
        have xFA := xf 0
        have xFB := xf 1
        have yFA := yf 0
        have yFB := yf 1
        have gx : w.heap.size + 3 ≤ w10.heap.size := by omega
        have gy : w10.heap.size + 1 ≤ w11.heap.size := by omega
        clear xc xf yc yf K10_13 K11_13
        go_wp2_with fail
        refine Calls.mono (Mul_any a c HA.out HC.out _) ?_
        rw [Q3.out]
        try simp only [Ra.v]
        rintro e w14 ⟨rfl, hb14⟩
        have P_14 := P_13.trans (hb14.mono (by omega))
        replace xA := (hb14.cell (p := ⟨w10.heap.size, 0, none⟩) xs).trans xA
        replace xFA := (hb14.frozen (p := ⟨w10.heap.size, 0, none⟩) xs).trans xFA
        replace xB := (hb14.cell (p := ⟨w10.heap.size, 1, none⟩) xs).trans xB
        replace xFB := (hb14.frozen (p := ⟨w10.heap.size, 1, none⟩) xs).trans xFB
        replace yA := (hb14.cell (p := ⟨w11.heap.size, 0, none⟩) ys).trans yA
        replace yFA := (hb14.frozen (p := ⟨w11.heap.size, 0, none⟩) ys).trans yFA
        replace yB := (hb14.cell (p := ⟨w11.heap.size, 1, none⟩) ys).trans yB
        replace yFB := (hb14.frozen (p := ⟨w11.heap.size, 1, none⟩) ys).trans yFB
        have zz14 := hb14.size
        replace xs : w10.heap.size < w14.heap.size := by omega
        replace ys : w11.heap.size < w14.heap.size := by omega
        clear hb14 P_13
        go_upto_region 18 with fail
        refine abs_wp ?_
        intro w15 hW
        have P_15 := (P_14.setCell (p := ⟨w10.heap.size, 0, none⟩) (by simp; omega) (.int .i64 n3)).setCell (p := ⟨w10.heap.size, 1, none⟩) (by simp; omega) (.int .i64 d3)
        rw [← hW] at P_15
        have hset := setB (setA ⟨xA, xB⟩ (.int .i64 n3)) (.int .i64 d3)
        rw [← hW] at hset
        have hzW : w15.heap.size = w14.heap.size := by rw [hW]; simp [World.setCell]
        have tA : w15.cell? ⟨w11.heap.size, 0, none⟩ = w14.cell? ⟨w11.heap.size, 0, none⟩ := by rw [hW, set_far _ _ _ _ (addr_ne (by omega)), set_far _ _ _ _ (addr_ne (by omega))]
        replace yA := tA.trans yA
        clear tA
        have tA : w15.frozen? ⟨w10.heap.size, 0, none⟩ = w14.frozen? ⟨w10.heap.size, 0, none⟩ := by rw [hW, World.frozen?_setCell, World.frozen?_setCell]
        replace xFA := tA.trans xFA
        clear tA
        have tA : w15.frozen? ⟨w11.heap.size, 0, none⟩ = w14.frozen? ⟨w11.heap.size, 0, none⟩ := by rw [hW, World.frozen?_setCell, World.frozen?_setCell]
        replace yFA := tA.trans yFA
        clear tA
        have tB : w15.cell? ⟨w11.heap.size, 1, none⟩ = w14.cell? ⟨w11.heap.size, 1, none⟩ := by rw [hW, set_far _ _ _ _ (addr_ne (by omega)), set_far _ _ _ _ (addr_ne (by omega))]
        replace yB := tB.trans yB
        clear tB
        have tB : w15.frozen? ⟨w10.heap.size, 1, none⟩ = w14.frozen? ⟨w10.heap.size, 1, none⟩ := by rw [hW, World.frozen?_setCell, World.frozen?_setCell]
        replace xFB := tB.trans xFB
        clear tB
        have tB : w15.frozen? ⟨w11.heap.size, 1, none⟩ = w14.frozen? ⟨w11.heap.size, 1, none⟩ := by rw [hW, World.frozen?_setCell, World.frozen?_setCell]
        replace yFB := tB.trans yFB
        clear tB
        clear xA xB
        obtain ⟨xA, xB⟩ := hset
        replace xs : w10.heap.size < w15.heap.size := by omega
        replace ys : w11.heap.size < w15.heap.size := by omega
        clear hW P_14
        clear m0 m1 m2 m3 m4 m5 m6 m7 m8
        obtain ⟨m0, m1, m2, m3, m4, m5, m6, m7, m8⟩ := par_cells3 (a := a) (b := b) (c := c) P_15
        go_wp2_with fail
        refine Calls.mono (Mul_any b c HB.out HC.out _) ?_
        rw [Q4.out]
        try simp only [Ra.v]
        rintro e w16 ⟨rfl, hb16⟩
        have P_16 := P_15.trans (hb16.mono (by omega))
        replace xA := (hb16.cell (p := ⟨w10.heap.size, 0, none⟩) xs).trans xA
        replace xFA := (hb16.frozen (p := ⟨w10.heap.size, 0, none⟩) xs).trans xFA
        replace xB := (hb16.cell (p := ⟨w10.heap.size, 1, none⟩) xs).trans xB
        replace xFB := (hb16.frozen (p := ⟨w10.heap.size, 1, none⟩) xs).trans xFB
        replace yA := (hb16.cell (p := ⟨w11.heap.size, 0, none⟩) ys).trans yA
        replace yFA := (hb16.frozen (p := ⟨w11.heap.size, 0, none⟩) ys).trans yFA
        replace yB := (hb16.cell (p := ⟨w11.heap.size, 1, none⟩) ys).trans yB
        replace yFB := (hb16.frozen (p := ⟨w11.heap.size, 1, none⟩) ys).trans yFB
        have zz16 := hb16.size
        replace xs : w10.heap.size < w16.heap.size := by omega
        replace ys : w11.heap.size < w16.heap.size := by omega
        clear hb16 P_15
        go_upto_region 19 with fail
        refine abs_wp ?_
        intro w17 hW
        have P_17 := (P_16.setCell (p := ⟨w11.heap.size, 0, none⟩) (by simp; omega) (.int .i64 n4)).setCell (p := ⟨w11.heap.size, 1, none⟩) (by simp; omega) (.int .i64 d4)
        rw [← hW] at P_17
        have hset := setB (setA ⟨yA, yB⟩ (.int .i64 n4)) (.int .i64 d4)
        rw [← hW] at hset
        have hzW : w17.heap.size = w16.heap.size := by rw [hW]; simp [World.setCell]
        have tA : w17.cell? ⟨w10.heap.size, 0, none⟩ = w16.cell? ⟨w10.heap.size, 0, none⟩ := by rw [hW, set_far _ _ _ _ (addr_ne (by omega)), set_far _ _ _ _ (addr_ne (by omega))]
        replace xA := tA.trans xA
        clear tA
        have tA : w17.frozen? ⟨w10.heap.size, 0, none⟩ = w16.frozen? ⟨w10.heap.size, 0, none⟩ := by rw [hW, World.frozen?_setCell, World.frozen?_setCell]
        replace xFA := tA.trans xFA
        clear tA
        have tA : w17.frozen? ⟨w11.heap.size, 0, none⟩ = w16.frozen? ⟨w11.heap.size, 0, none⟩ := by rw [hW, World.frozen?_setCell, World.frozen?_setCell]
        replace yFA := tA.trans yFA
        clear tA
        have tB : w17.cell? ⟨w10.heap.size, 1, none⟩ = w16.cell? ⟨w10.heap.size, 1, none⟩ := by rw [hW, set_far _ _ _ _ (addr_ne (by omega)), set_far _ _ _ _ (addr_ne (by omega))]
        replace xB := tB.trans xB
        clear tB
        have tB : w17.frozen? ⟨w10.heap.size, 1, none⟩ = w16.frozen? ⟨w10.heap.size, 1, none⟩ := by rw [hW, World.frozen?_setCell, World.frozen?_setCell]
        replace xFB := tB.trans xFB
        clear tB
        have tB : w17.frozen? ⟨w11.heap.size, 1, none⟩ = w16.frozen? ⟨w11.heap.size, 1, none⟩ := by rw [hW, World.frozen?_setCell, World.frozen?_setCell]
        replace yFB := tB.trans yFB
        clear tB
        clear yA yB
        obtain ⟨yA, yB⟩ := hset
        replace xs : w10.heap.size < w17.heap.size := by omega
        replace ys : w11.heap.size < w17.heap.size := by omega
        clear hW P_16
        clear m0 m1 m2 m3 m4 m5 m6 m7 m8
        obtain ⟨m0, m1, m2, m3, m4, m5, m6, m7, m8⟩ := par_cells3 (a := a) (b := b) (c := c) P_17
        by_cases h3 : E3 = 0
        rotate_left
        · have q3 : (E3 == 0) = false := by simpa using h3
          go_wp2_with fail
          go_ret
          exact ⟨rfl, par_end3 P_17⟩
        by_cases h4 : E4 = 0
        rotate_left
        · have q3 : (E3 == 0) = true := by simpa using h3
          have q4 : (E4 == 0) = false := by simpa using h4
          go_wp2_with fail
          go_ret
          exact ⟨rfl, par_end3 P_17⟩
        by_cases h5 : 0 < c.num
        rotate_left
        · have q3 : (E3 == 0) = true := by simpa using h3
          have q4 : (E4 == 0) = true := by simpa using h4
          have q5 : decide (0 < c.num) = false := by simpa using h5
          go_wp2_with fail
          go_ret
          exact ⟨rfl, par_end3 P_17⟩
        have FB2 := Lib.hid (FB.out h3 h4 h5)
        have q3 : (E3 == 0) = true := by simpa using h3
        have q4 : (E4 == 0) = true := by simpa using h4
        have q5 : decide (0 < c.num) = true := by simpa using h5
        clear h3 h4
        go_wp2_with fail
        refine Calls.mono (RaCompare_any ⟨n3, d3⟩ ⟨n4, d4⟩ I3.out I4.out _) ?_
        rw [FB2.out]
        rintro e w18 ⟨rfl, hb18⟩
        go_wp2_with fail
        go_ret
        exact ⟨rfl, par_end3 (P_17.trans (hb18.mono (by omega)))⟩
end Go.Proofs.Ytaogcmgbmomilaa
