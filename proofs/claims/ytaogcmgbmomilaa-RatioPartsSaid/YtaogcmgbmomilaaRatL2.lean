/- RatioAddSpec and RatioMeanSpec, walked. -/
import Derived.Test.YtaogcmgbmomilaaRatL1
import Derived.BigRegion
namespace Go.Proofs.Ytaogcmgbmomilaa
open Go.RowKit Go.Shelf
set_option linter.unusedSimpArgs false
set_option linter.unusedVariables false

theorem par_cells2 {w w' : World} {a b : Ra} {t t' : TypeId} (h : Below (w.heap.size + 2) ((w.alloc (.cells #[.int .i64 a.num, .int .i64 a.den] t)).alloc (.cells #[.int .i64 b.num, .int .i64 b.den] t')) w') :
    w'.cell? ⟨w.heap.size, 0, none⟩ = some (.int .i64 a.num) ∧ w'.cell? ⟨w.heap.size, 1, none⟩ = some (.int .i64 a.den) ∧
    w'.cell? ⟨w.heap.size + 1, 0, none⟩ = some (.int .i64 b.num) ∧ w'.cell? ⟨w.heap.size + 1, 1, none⟩ = some (.int .i64 b.den) ∧
    w.heap.size < w'.heap.size ∧ w.heap.size + 1 < w'.heap.size := ab_cells h
theorem par_end2 {w w' : World} {o o' : Obj} (h : Below (w.heap.size + 2) ((w.alloc o).alloc o') w') : Below w.heap.size w w' := ab_end h

set_option maxHeartbeats 8000000 in
theorem RatioAddSpec_any {w : World} (a : Ra) (ha : a.ok) (b : Ra) (hb : b.ok) :
    Calls Try.prog 4 #[a.v, b.v] w fun e w' => e = .returned (.bool true) ∧ Below w.heap.size w w' := by
  have HA := Lib.hid (Ra.ok_i64 ha)
  have HB := Lib.hid (Ra.ok_i64 hb)
  clear ha hb
  obtain ⟨⟨⟨n1, d1⟩, E1⟩, hq1⟩ : ∃ q, q = addP a b := ⟨_, rfl⟩
  obtain ⟨⟨⟨n2, d2⟩, E2⟩, hq2⟩ : ∃ q, q = mulP a b := ⟨_, rfl⟩
  obtain ⟨⟨n3, E3⟩, hq3⟩ : ∃ q, q = cmpP a b := ⟨_, rfl⟩
  have Q1 := Lib.hid hq1.symm
  have Q2 := Lib.hid hq2.symm
  have Q3 := Lib.hid hq3.symm
  clear hq1 hq2 hq3
  unfold Ra.v
  go_enter Try.func4, Try.ntmps4
  go_wp2_with fail
  refine Calls.mono (sane_any _) ?_
  try simp only [Ra.v]
  rintro e w1 ⟨rfl, hb1⟩
  have P_1 := (Below.refl (w.heap.size + 2) ((w.alloc (.cells #[.int .i64 a.num, .int .i64 a.den] 23)).alloc (.cells #[.int .i64 b.num, .int .i64 b.den] 23))).trans (hb1.mono (by (try simp) <;> omega))
  have z1 : w.heap.size + 2 ≤ w1.heap.size := by have := hb1.size; (try simp at this); omega
  clear hb1
  obtain ⟨m0, m1, m2, m3, m4, m5⟩ := par_cells2 (a := a) (b := b) P_1
  go_wp2_with fail
  refine Calls.mono (Add_any a b HA.out HB.out _) ?_
  rw [Q1.out]
  try simp only [Ra.v]
  rintro e w2 ⟨rfl, hb2⟩
  have z2 : w1.heap.size + 0 ≤ w2.heap.size := by have := hb2.size; (try simp at this); omega
  have P_2 := P_1.trans (hb2.mono (by (try simp) <;> omega))
  clear P_1 
  clear hb2
  obtain ⟨m0, m1, m2, m3, m4, m5⟩ := par_cells2 (a := a) (b := b) P_2
  go_wp2_with fail
  refine Calls.mono (RAdd_any a b HA.out HB.out _) ?_
  rw [Q1.out]
  try simp only [Ra.v]
  rintro e w3 ⟨rfl, hb3⟩
  have z3 : w2.heap.size + 1 ≤ w3.heap.size := by have := hb3.size; (try simp at this); omega
  have P_3 := (P_2.alloc (by (try simp) <;> omega) (.cells #[.int .i64 n1, .int .i64 d1] 23)).trans (hb3.mono (by (try simp) <;> omega))
  have K2_3 := (Below.refl (w2.heap.size + 1) (w2.alloc (.cells #[.int .i64 n1, .int .i64 d1] 23))).trans (hb3.mono (by (try simp) <;> omega))
  clear P_2 
  clear hb3
  obtain ⟨m0, m1, m2, m3, m4, m5⟩ := par_cells2 (a := a) (b := b) P_3
  go_wp2_with fail
  refine Calls.mono (Mul_any a b HA.out HB.out _) ?_
  rw [Q2.out]
  try simp only [Ra.v]
  rintro e w4 ⟨rfl, hb4⟩
  have z4 : w3.heap.size + 1 ≤ w4.heap.size := by have := hb4.size; (try simp at this); omega
  have P_4 := (P_3.alloc (by (try simp) <;> omega) (.cells #[.int .i64 n1, .int .i64 d1] 23)).trans (hb4.mono (by (try simp) <;> omega))
  have K2_4 := (K2_3.alloc (by (try simp) <;> omega) (.cells #[.int .i64 n1, .int .i64 d1] 23)).trans (hb4.mono (by (try simp) <;> omega))
  have K3_4 := (Below.refl (w3.heap.size + 1) (w3.alloc (.cells #[.int .i64 n1, .int .i64 d1] 23))).trans (hb4.mono (by (try simp) <;> omega))
  clear P_3 K2_3
  clear hb4
  obtain ⟨m0, m1, m2, m3, m4, m5⟩ := par_cells2 (a := a) (b := b) P_4
  go_wp2_with fail
  refine Calls.mono (RMul_any a b HA.out HB.out _) ?_
  rw [Q2.out]
  try simp only [Ra.v]
  rintro e w5 ⟨rfl, hb5⟩
  have z5 : w4.heap.size + 1 ≤ w5.heap.size := by have := hb5.size; (try simp at this); omega
  have P_5 := (P_4.alloc (by (try simp) <;> omega) (.cells #[.int .i64 n2, .int .i64 d2] 23)).trans (hb5.mono (by (try simp) <;> omega))
  have K2_5 := (K2_4.alloc (by (try simp) <;> omega) (.cells #[.int .i64 n2, .int .i64 d2] 23)).trans (hb5.mono (by (try simp) <;> omega))
  have K3_5 := (K3_4.alloc (by (try simp) <;> omega) (.cells #[.int .i64 n2, .int .i64 d2] 23)).trans (hb5.mono (by (try simp) <;> omega))
  have K4_5 := (Below.refl (w4.heap.size + 1) (w4.alloc (.cells #[.int .i64 n2, .int .i64 d2] 23))).trans (hb5.mono (by (try simp) <;> omega))
  clear P_4 K2_4 K3_4
  clear hb5
  obtain ⟨m0, m1, m2, m3, m4, m5⟩ := par_cells2 (a := a) (b := b) P_5
  go_wp2_with fail
  refine Calls.mono (RaCompare_any a b HA.out HB.out _) ?_
  rw [Q3.out]
  try simp only [Ra.v]
  rintro e w6 ⟨rfl, hb6⟩
  have z6 : w5.heap.size + 1 ≤ w6.heap.size := by have := hb6.size; (try simp at this); omega
  have P_6 := (P_5.alloc (by (try simp) <;> omega) (.cells #[.int .i64 n2, .int .i64 d2] 23)).trans (hb6.mono (by (try simp) <;> omega))
  have K2_6 := (K2_5.alloc (by (try simp) <;> omega) (.cells #[.int .i64 n2, .int .i64 d2] 23)).trans (hb6.mono (by (try simp) <;> omega))
  have K3_6 := (K3_5.alloc (by (try simp) <;> omega) (.cells #[.int .i64 n2, .int .i64 d2] 23)).trans (hb6.mono (by (try simp) <;> omega))
  have K4_6 := (K4_5.alloc (by (try simp) <;> omega) (.cells #[.int .i64 n2, .int .i64 d2] 23)).trans (hb6.mono (by (try simp) <;> omega))
  have K5_6 := (Below.refl (w5.heap.size + 1) (w5.alloc (.cells #[.int .i64 n2, .int .i64 d2] 23))).trans (hb6.mono (by (try simp) <;> omega))
  clear P_5 K2_5 K3_5 K4_5
  clear hb6
  obtain ⟨m0, m1, m2, m3, m4, m5⟩ := par_cells2 (a := a) (b := b) P_6
  go_wp2_with fail
  refine Calls.mono (RRaCompare_any a b HA.out HB.out _) ?_
  rw [Q3.out]
  try simp only [Ra.v]
  rintro e w7 ⟨rfl, hb7⟩
  have z7 : w6.heap.size + 0 ≤ w7.heap.size := by have := hb7.size; (try simp at this); omega
  have P_7 := P_6.trans (hb7.mono (by (try simp) <;> omega))
  have K2_7 := K2_6.trans (hb7.mono (by (try simp) <;> omega))
  have K3_7 := K3_6.trans (hb7.mono (by (try simp) <;> omega))
  have K4_7 := K4_6.trans (hb7.mono (by (try simp) <;> omega))
  have K5_7 := K5_6.trans (hb7.mono (by (try simp) <;> omega))
  clear P_6 K2_6 K3_6 K4_6 K5_6
  clear hb7
  obtain ⟨m0, m1, m2, m3, m4, m5⟩ := par_cells2 (a := a) (b := b) P_7
  obtain ⟨_, hc, _, hs2, _⟩ := below_new K2_7
  have cA2 := hc 0
  have cB2 := hc 1
  simp at cA2 cB2
  clear hc
  obtain ⟨_, hc, _, hs3, _⟩ := below_new K3_7
  have cA3 := hc 0
  have cB3 := hc 1
  simp at cA3 cB3
  clear hc
  obtain ⟨_, hc, _, hs4, _⟩ := below_new K4_7
  have cA4 := hc 0
  have cB4 := hc 1
  simp at cA4 cB4
  clear hc
  obtain ⟨_, hc, _, hs5, _⟩ := below_new K5_7
  have cA5 := hc 0
  have cB5 := hc 1
  simp at cA5 cB5
  clear hc
  go_wp2_with fail
  go_ret
  first | exact ⟨rfl, par_end2 P_7⟩ | exact ⟨ret_bool (by simp), par_end2 P_7⟩

set_option maxHeartbeats 8000000 in
theorem RatioMeanSpec_any {w : World} (us : List Int) (A : Option Addr) (c : Nat) (hx : Reads w w.heap.size A 1 In.enc us) (hq : ∀ y ∈ us, In.ok y) (hm : us.length ≤ maxLen)
    (vs : List Int) (D : Option Addr) (d : Nat) (hy : Reads w w.heap.size D 1 In.enc vs) (hq2 : ∀ y ∈ vs, In.ok y) (hm2 : vs.length ≤ maxLen) :
    Calls Try.prog 5 #[.slice A us.length c, .slice D vs.length d] w fun e w' => e = .returned (.bool true) ∧ Below w.heap.size w w' := by
  clear hq hq2
  unfold maxLen at hm hm2
  have HX := Lib.hid hx
  have HY := Lib.hid hy
  clear hx hy
  by_cases h1 : 2000 < us.length
  · have q1 : decide ((2000 : Int) < (us.length : Int)) = true := by simp; omega
    clear h1
    go_enter Try.func5, Try.ntmps5
    go_wp2_with fail
    refine (sane_any _).mono ?_
    rintro e w1 ⟨rfl, hb1⟩
    go_wp2_with fail
    go_ret
    exact ⟨rfl, hb1⟩
  · have q1 : decide ((2000 : Int) < (us.length : Int)) = false := by simp; omega
    by_cases h2 : 2000 < vs.length
    · have q2 : decide ((2000 : Int) < (vs.length : Int)) = true := by simp; omega
      clear h1 h2
      go_enter Try.func5, Try.ntmps5
      go_wp2_with fail
      refine (sane_any _).mono ?_
      rintro e w1 ⟨rfl, hb1⟩
      go_wp2_with fail
      go_ret
      exact ⟨rfl, hb1⟩
    · have q2 : decide ((2000 : Int) < (vs.length : Int)) = false := by simp; omega
      obtain ⟨⟨⟨n, d'⟩, E⟩, hr⟩ : ∃ r, r = meanP us vs := ⟨_, rfl⟩
      have HR := Lib.hid hr.symm
      clear hr
      go_enter Try.func5, Try.ntmps5
      go_wp2_with fail
      refine (sane_any _).mono ?_
      rintro e w1 ⟨rfl, hb1⟩
      go_wp2_with fail
      refine (Mean_any us vs A D c d _ ((HX.out.below hb1).more hb1.size) ((HY.out.below hb1).more hb1.size) (by omega)).mono ?_
      rw [HR.out]
      simp only [Ra.v]
      rintro e w2 ⟨rfl, hb2⟩
      have G2 := hb1.trans (hb2.mono hb1.size)
      clear hb1 hb2
      go_wp2_with fail
      have G3 := G2.alloc G2.size (.cells #[.int .i64 n, .int .i64 d'] 23)
      refine (RMean_any us vs A D c d _ ((HX.out.below G3).more G3.size) ((HY.out.below G3).more G3.size) (by omega)).mono ?_
      rw [HR.out]
      simp only [Ra.v]
      rintro e w3 ⟨rfl, hb3⟩
      have F3 := hb3.mono (B' := w2.heap.size + 1) (by simp)
      have G4 := G3.trans (hb3.mono G3.size)
      obtain ⟨p0, p1, hp⟩ := one_box (a := ⟨n, d'⟩) F3
      clear hb3 F3 G2 G3
      go_wp2_with fail
      go_ret
      first | exact ⟨rfl, G4.alloc G4.size _⟩ | exact ⟨ret_bool (by simp), G4.alloc G4.size _⟩
end Go.Proofs.Ytaogcmgbmomilaa
