/- RatioField, walked. -/
import Derived.Test.YtaogcmgbmomilaaRatL2
import Derived.Test.YtaogcmgbmomilaaRatQ
import Derived.Deep.DeepCutAuto
namespace Go.Proofs.Ytaogcmgbmomilaa
open Go.RowKit Go.Shelf
set_option linter.unusedSimpArgs false
set_option linter.unusedVariables false

theorem par_cells3 {w w' : World} {a b c : Ra} {t0 t1 t2 : TypeId} (h : Below (w.heap.size + 3) (((w.alloc (.cells #[.int .i64 a.num, .int .i64 a.den] t0)).alloc (.cells #[.int .i64 b.num, .int .i64 b.den] t1)).alloc (.cells #[.int .i64 c.num, .int .i64 c.den] t2)) w') :
    w'.cell? ⟨w.heap.size, 0, none⟩ = some (.int .i64 a.num) ∧ w'.cell? ⟨w.heap.size, 1, none⟩ = some (.int .i64 a.den) ∧ w.heap.size < w'.heap.size ∧ w'.cell? ⟨w.heap.size + 1, 0, none⟩ = some (.int .i64 b.num) ∧ w'.cell? ⟨w.heap.size + 1, 1, none⟩ = some (.int .i64 b.den) ∧ w.heap.size + 1 < w'.heap.size ∧ w'.cell? ⟨w.heap.size + 1 + 1, 0, none⟩ = some (.int .i64 c.num) ∧ w'.cell? ⟨w.heap.size + 1 + 1, 1, none⟩ = some (.int .i64 c.den) ∧ w.heap.size + 1 + 1 < w'.heap.size := by
  have hs := h.size
  simp only [World.size_alloc] at hs
  obtain ⟨c0, _, _⟩ := below_at (w.heap.size) (by simp) ((((Below.refl (w.heap.size + 1) (w.alloc (.cells #[.int .i64 a.num, .int .i64 a.den] t0))).alloc (by simp <;> omega) _).alloc (by simp <;> omega) _).trans (h.mono (by omega))) (by omega)
  obtain ⟨c1, _, _⟩ := below_at (w.heap.size + 1) (by simp) (((Below.refl (w.heap.size + 2) ((w.alloc (.cells #[.int .i64 a.num, .int .i64 a.den] t0)).alloc (.cells #[.int .i64 b.num, .int .i64 b.den] t1))).alloc (by simp <;> omega) _).trans (h.mono (by omega))) (by omega)
  obtain ⟨c2, _, _⟩ := below_at (w.heap.size + 1 + 1) (by simp) ((Below.refl (w.heap.size + 3) (((w.alloc (.cells #[.int .i64 a.num, .int .i64 a.den] t0)).alloc (.cells #[.int .i64 b.num, .int .i64 b.den] t1)).alloc (.cells #[.int .i64 c.num, .int .i64 c.den] t2))).trans (h.mono (by omega))) (by omega)
  exact ⟨c0 0, c0 1, by omega, c1 0, c1 1, by omega, c2 0, c2 1, by omega⟩
theorem par_end3 {w w' : World} {o0 o1 o2 : Obj} (h : Below (w.heap.size + 3) (((w.alloc o0).alloc o1).alloc o2) w') : Below w.heap.size w w' := ((((Below.refl w.heap.size w).alloc (by simp <;> omega) _).alloc (by simp <;> omega) _).alloc (by simp <;> omega) _).trans (h.mono (by omega))
theorem par_cells4 {w w' : World} {a b c d : Ra} {t0 t1 t2 t3 : TypeId} (h : Below (w.heap.size + 4) ((((w.alloc (.cells #[.int .i64 a.num, .int .i64 a.den] t0)).alloc (.cells #[.int .i64 b.num, .int .i64 b.den] t1)).alloc (.cells #[.int .i64 c.num, .int .i64 c.den] t2)).alloc (.cells #[.int .i64 d.num, .int .i64 d.den] t3)) w') :
    w'.cell? ⟨w.heap.size, 0, none⟩ = some (.int .i64 a.num) ∧ w'.cell? ⟨w.heap.size, 1, none⟩ = some (.int .i64 a.den) ∧ w.heap.size < w'.heap.size ∧ w'.cell? ⟨w.heap.size + 1, 0, none⟩ = some (.int .i64 b.num) ∧ w'.cell? ⟨w.heap.size + 1, 1, none⟩ = some (.int .i64 b.den) ∧ w.heap.size + 1 < w'.heap.size ∧ w'.cell? ⟨w.heap.size + 1 + 1, 0, none⟩ = some (.int .i64 c.num) ∧ w'.cell? ⟨w.heap.size + 1 + 1, 1, none⟩ = some (.int .i64 c.den) ∧ w.heap.size + 1 + 1 < w'.heap.size ∧ w'.cell? ⟨w.heap.size + 1 + 1 + 1, 0, none⟩ = some (.int .i64 d.num) ∧ w'.cell? ⟨w.heap.size + 1 + 1 + 1, 1, none⟩ = some (.int .i64 d.den) ∧ w.heap.size + 1 + 1 + 1 < w'.heap.size := by
  have hs := h.size
  simp only [World.size_alloc] at hs
  obtain ⟨c0, _, _⟩ := below_at (w.heap.size) (by simp) (((((Below.refl (w.heap.size + 1) (w.alloc (.cells #[.int .i64 a.num, .int .i64 a.den] t0))).alloc (by simp <;> omega) _).alloc (by simp <;> omega) _).alloc (by simp <;> omega) _).trans (h.mono (by omega))) (by omega)
  obtain ⟨c1, _, _⟩ := below_at (w.heap.size + 1) (by simp) ((((Below.refl (w.heap.size + 2) ((w.alloc (.cells #[.int .i64 a.num, .int .i64 a.den] t0)).alloc (.cells #[.int .i64 b.num, .int .i64 b.den] t1))).alloc (by simp <;> omega) _).alloc (by simp <;> omega) _).trans (h.mono (by omega))) (by omega)
  obtain ⟨c2, _, _⟩ := below_at (w.heap.size + 1 + 1) (by simp) (((Below.refl (w.heap.size + 3) (((w.alloc (.cells #[.int .i64 a.num, .int .i64 a.den] t0)).alloc (.cells #[.int .i64 b.num, .int .i64 b.den] t1)).alloc (.cells #[.int .i64 c.num, .int .i64 c.den] t2))).alloc (by simp <;> omega) _).trans (h.mono (by omega))) (by omega)
  obtain ⟨c3, _, _⟩ := below_at (w.heap.size + 1 + 1 + 1) (by simp) ((Below.refl (w.heap.size + 4) ((((w.alloc (.cells #[.int .i64 a.num, .int .i64 a.den] t0)).alloc (.cells #[.int .i64 b.num, .int .i64 b.den] t1)).alloc (.cells #[.int .i64 c.num, .int .i64 c.den] t2)).alloc (.cells #[.int .i64 d.num, .int .i64 d.den] t3))).trans (h.mono (by omega))) (by omega)
  exact ⟨c0 0, c0 1, by omega, c1 0, c1 1, by omega, c2 0, c2 1, by omega, c3 0, c3 1, by omega⟩
theorem par_end4 {w w' : World} {o0 o1 o2 o3 : Obj} (h : Below (w.heap.size + 4) ((((w.alloc o0).alloc o1).alloc o2).alloc o3) w') : Below w.heap.size w w' := (((((Below.refl w.heap.size w).alloc (by simp <;> omega) _).alloc (by simp <;> omega) _).alloc (by simp <;> omega) _).alloc (by simp <;> omega) _).trans (h.mono (by omega))

def sumP (a b c : Ra) : Ra × Bool := ((addP (addP a b).1 c).1, (addP a b).2 == 0 && (addP (addP a b).1 c).2 == 0)

set_option maxHeartbeats 4000000 in
theorem sum_any (a b c : Ra) (ha : a.i64) (hb : b.i64) (hc : c.i64) (w : World) :
    Calls Try.prog 24 #[a.v, b.v, c.v] w fun e w' => e = .returned (.tuple #[(sumP a b c).1.v, .bool (sumP a b c).2]) ∧ Below w.heap.size w w' := by
  have HA := Lib.hid ha
  have HB := Lib.hid hb
  have HC := Lib.hid hc
  clear ha hb hc
  have hx := addP_i64 a b
  unfold sumP
  obtain ⟨⟨⟨n1, d1⟩, E1⟩, hq1⟩ : ∃ q, q = addP a b := ⟨_, rfl⟩
  rw [← hq1] at hx
  rw [← hq1]
  obtain ⟨⟨⟨n2, d2⟩, E2⟩, hq2⟩ : ∃ q, q = addP ⟨n1, d1⟩ c := ⟨_, rfl⟩
  simp only
  rw [← hq2]
  have Q1 := Lib.hid hq1.symm
  have Q2 := Lib.hid hq2.symm
  have HX := Lib.hid hx
  clear hq1 hq2 hx
  simp only [Ra.v]
  go_enter Try.func24, Try.ntmps24
  go_wp2_with fail
  refine Calls.mono (Add_any a b HA.out HB.out _) ?_
  rw [Q1.out]
  try simp only [Ra.v]
  rintro e w1 ⟨rfl, hb1⟩
  have P_1 := (Below.refl (w.heap.size + 4) ((((w.alloc (.cells #[.int .i64 a.num, .int .i64 a.den] 23)).alloc (.cells #[.int .i64 b.num, .int .i64 b.den] 23)).alloc (.cells #[.int .i64 c.num, .int .i64 c.den] 23)).alloc (.cells #[.int .i64 0, .int .i64 0] 23))).trans (hb1.mono (by (try simp) <;> omega))
  have z1 : w.heap.size + 4 ≤ w1.heap.size := by have := hb1.size; (try simp at this); omega
  clear hb1
  obtain ⟨m0, m1, m2, m3, m4, m5, m6, m7, m8, m9, m10, m11⟩ := par_cells4 (a := a) (b := b) (c := c) (d := ⟨0, 0⟩) P_1
  go_wp2_with fail
  refine Calls.mono (Add_any ⟨n1, d1⟩ c HX.out HC.out _) ?_
  rw [Q2.out]
  try simp only [Ra.v]
  rintro e w2 ⟨rfl, hb2⟩
  have z2 : w1.heap.size + 1 ≤ w2.heap.size := by have := hb2.size; (try simp at this); omega
  have P_2 := (P_1.alloc (by (try simp) <;> omega) (.cells #[.int .i64 n1, .int .i64 d1] 23)).trans (hb2.mono (by (try simp) <;> omega))
  have K1_2 := (Below.refl (w1.heap.size + 1) (w1.alloc (.cells #[.int .i64 n1, .int .i64 d1] 23))).trans (hb2.mono (by (try simp) <;> omega))
  clear P_1 
  clear hb2
  obtain ⟨m0, m1, m2, m3, m4, m5, m6, m7, m8, m9, m10, m11⟩ := par_cells4 (a := a) (b := b) (c := c) (d := ⟨0, 0⟩) P_2
  obtain ⟨_, hc, _, hs1, _⟩ := below_new K1_2
  have cA1 := hc 0
  have cB1 := hc 1
  simp at cA1 cB1
  clear hc
  obtain ⟨_, ff, _⟩ := below_at (w.heap.size + 1 + 1 + 1) (by simp) (P_2.mono (B' := w.heap.size + 4) (by omega)) (by omega)
  have ff0 := ff 0
  have ff1 := ff 1
  have PE := Lib.hid (par_end4 P_2)
  clear ff P_2 K1_2
  have hz2 : w.heap.size + 1 + 1 + 1 < w2.heap.size := m11
  cases h1 : (E1 == 0)
  all_goals
    go_wp2_with fail
    have hcA := setA ⟨m9, m10⟩ (.int .i64 n2)
    have hcB := setB hcA (.int .i64 d2)
    have hz3 : w.heap.size + 1 + 1 + 1 < w2.heap.size + 1 := by omega
    have pe := PE.out
    exact bodyPost_ret (v := .tuple #[.agg #[.int .i64 n2, .int .i64 d2], .bool (E1 == 0 && E2 == 0)]) (by simp [results, Try.results24, go_sem, hcA.1, hcB.1, hcB.2, h1, hz2, hz3]) rfl ⟨rfl, by go_grown⟩

set_option maxRecDepth 100000 in
set_option maxHeartbeats 16000000 in
theorem RatioField_any {w : World} (a : Ra) (ha : a.ok) (b : Ra) (hb : b.ok) (c : Ra) (hc : c.ok) :
    Calls Try.prog 6 #[a.v, b.v, c.v] w fun e w' => e = .returned (.bool true) ∧ Below w.heap.size w w' := by
  have HA := Lib.hid (Ra.ok_i64 ha)
  have HB := Lib.hid (Ra.ok_i64 hb)
  have HC := Lib.hid (Ra.ok_i64 hc)
  clear ha hb hc
  by_cases oa : okR a
  rotate_left
  · have Ca := Lib.hid (checkR_no oa)
    clear oa
    unfold Ra.v
    go_enter Try.func6, Try.ntmps6
    go_wp2_with fail
    refine Calls.mono (sane_any _) ?_
    try simp only [Ra.v]
    rintro e w1 ⟨rfl, hb1⟩
    have P_1 := (Below.refl (w.heap.size + 3) (((w.alloc (.cells #[.int .i64 a.num, .int .i64 a.den] 23)).alloc (.cells #[.int .i64 b.num, .int .i64 b.den] 23)).alloc (.cells #[.int .i64 c.num, .int .i64 c.den] 23))).trans (hb1.mono (by (try simp) <;> omega))
    have z1 : w.heap.size + 3 ≤ w1.heap.size := by have := hb1.size; (try simp at this); omega
    clear hb1
    obtain ⟨m0, m1, m2, m3, m4, m5, m6, m7, m8⟩ := par_cells3 (a := a) (b := b) (c := c) P_1
    go_wp2_with fail
    refine Calls.mono (Check_any a HA.out _) ?_
    rw [Ca.out]
    try simp only [Ra.v]
    rintro e w2 ⟨rfl, hb2⟩
    have z2 : w1.heap.size + 0 ≤ w2.heap.size := by have := hb2.size; (try simp at this); omega
    have P_2 := P_1.trans (hb2.mono (by (try simp) <;> omega))
    clear P_1 
    clear hb2
    clear m0 m1 m2 m3 m4 m5 m6 m7 m8
    obtain ⟨m0, m1, m2, m3, m4, m5, m6, m7, m8⟩ := par_cells3 (a := a) (b := b) (c := c) P_2
    go_wp2_with fail
    go_ret
    exact ⟨rfl, par_end3 P_2⟩
  by_cases ob : okR b
  rotate_left
  · have Cb := Lib.hid (checkR_no ob)
    have Ca := Lib.hid (checkR_ok oa)
    clear oa ob
    unfold Ra.v
    go_enter Try.func6, Try.ntmps6
    go_wp2_with fail
    refine Calls.mono (sane_any _) ?_
    try simp only [Ra.v]
    rintro e w1 ⟨rfl, hb1⟩
    have P_1 := (Below.refl (w.heap.size + 3) (((w.alloc (.cells #[.int .i64 a.num, .int .i64 a.den] 23)).alloc (.cells #[.int .i64 b.num, .int .i64 b.den] 23)).alloc (.cells #[.int .i64 c.num, .int .i64 c.den] 23))).trans (hb1.mono (by (try simp) <;> omega))
    have z1 : w.heap.size + 3 ≤ w1.heap.size := by have := hb1.size; (try simp at this); omega
    clear hb1
    obtain ⟨m0, m1, m2, m3, m4, m5, m6, m7, m8⟩ := par_cells3 (a := a) (b := b) (c := c) P_1
    go_wp2_with fail
    refine Calls.mono (Check_any a HA.out _) ?_
    rw [Ca.out]
    try simp only [Ra.v]
    rintro e w2 ⟨rfl, hb2⟩
    have z2 : w1.heap.size + 0 ≤ w2.heap.size := by have := hb2.size; (try simp at this); omega
    have P_2 := P_1.trans (hb2.mono (by (try simp) <;> omega))
    clear P_1 
    clear hb2
    clear m0 m1 m2 m3 m4 m5 m6 m7 m8
    obtain ⟨m0, m1, m2, m3, m4, m5, m6, m7, m8⟩ := par_cells3 (a := a) (b := b) (c := c) P_2
    go_wp2_with fail
    refine Calls.mono (Check_any b HB.out _) ?_
    rw [Cb.out]
    try simp only [Ra.v]
    rintro e w3 ⟨rfl, hb3⟩
    have z3 : w2.heap.size + 0 ≤ w3.heap.size := by have := hb3.size; (try simp at this); omega
    have P_3 := P_2.trans (hb3.mono (by (try simp) <;> omega))
    clear P_2 
    clear hb3
    clear m0 m1 m2 m3 m4 m5 m6 m7 m8
    obtain ⟨m0, m1, m2, m3, m4, m5, m6, m7, m8⟩ := par_cells3 (a := a) (b := b) (c := c) P_3
    go_wp2_with fail
    go_ret
    exact ⟨rfl, par_end3 P_3⟩
  by_cases oc : okR c
  rotate_left
  · have Cc := Lib.hid (checkR_no oc)
    have Ca := Lib.hid (checkR_ok oa)
    have Cb := Lib.hid (checkR_ok ob)
    clear oa ob oc
    unfold Ra.v
    go_enter Try.func6, Try.ntmps6
    go_wp2_with fail
    refine Calls.mono (sane_any _) ?_
    try simp only [Ra.v]
    rintro e w1 ⟨rfl, hb1⟩
    have P_1 := (Below.refl (w.heap.size + 3) (((w.alloc (.cells #[.int .i64 a.num, .int .i64 a.den] 23)).alloc (.cells #[.int .i64 b.num, .int .i64 b.den] 23)).alloc (.cells #[.int .i64 c.num, .int .i64 c.den] 23))).trans (hb1.mono (by (try simp) <;> omega))
    have z1 : w.heap.size + 3 ≤ w1.heap.size := by have := hb1.size; (try simp at this); omega
    clear hb1
    obtain ⟨m0, m1, m2, m3, m4, m5, m6, m7, m8⟩ := par_cells3 (a := a) (b := b) (c := c) P_1
    go_wp2_with fail
    refine Calls.mono (Check_any a HA.out _) ?_
    rw [Ca.out]
    try simp only [Ra.v]
    rintro e w2 ⟨rfl, hb2⟩
    have z2 : w1.heap.size + 0 ≤ w2.heap.size := by have := hb2.size; (try simp at this); omega
    have P_2 := P_1.trans (hb2.mono (by (try simp) <;> omega))
    clear P_1 
    clear hb2
    clear m0 m1 m2 m3 m4 m5 m6 m7 m8
    obtain ⟨m0, m1, m2, m3, m4, m5, m6, m7, m8⟩ := par_cells3 (a := a) (b := b) (c := c) P_2
    go_wp2_with fail
    refine Calls.mono (Check_any b HB.out _) ?_
    rw [Cb.out]
    try simp only [Ra.v]
    rintro e w3 ⟨rfl, hb3⟩
    have z3 : w2.heap.size + 0 ≤ w3.heap.size := by have := hb3.size; (try simp at this); omega
    have P_3 := P_2.trans (hb3.mono (by (try simp) <;> omega))
    clear P_2 
    clear hb3
    clear m0 m1 m2 m3 m4 m5 m6 m7 m8
    obtain ⟨m0, m1, m2, m3, m4, m5, m6, m7, m8⟩ := par_cells3 (a := a) (b := b) (c := c) P_3
    go_wp2_with fail
    refine Calls.mono (Check_any c HC.out _) ?_
    rw [Cc.out]
    try simp only [Ra.v]
    rintro e w4 ⟨rfl, hb4⟩
    have z4 : w3.heap.size + 0 ≤ w4.heap.size := by have := hb4.size; (try simp at this); omega
    have P_4 := P_3.trans (hb4.mono (by (try simp) <;> omega))
    clear P_3 
    clear hb4
    clear m0 m1 m2 m3 m4 m5 m6 m7 m8
    obtain ⟨m0, m1, m2, m3, m4, m5, m6, m7, m8⟩ := par_cells3 (a := a) (b := b) (c := c) P_4
    go_wp2_with fail
    go_ret
    exact ⟨rfl, par_end3 P_4⟩
  have Ca := Lib.hid (checkR_ok oa)
  have Cb := Lib.hid (checkR_ok ob)
  have Cc := Lib.hid (checkR_ok oc)
  obtain ⟨⟨⟨n1, d1⟩, E1⟩, hq1⟩ : ∃ q, q = addP a b := ⟨_, rfl⟩
  have hq1 := hq1.symm
  have Q1 := Lib.hid hq1
  have I1 : Hid (Ra.i64 ⟨n1, d1⟩) := Lib.hid (by have := addP_i64 a b; rw [hq1] at this; exact this)
  obtain ⟨⟨⟨n2, d2⟩, E2⟩, hq2⟩ : ∃ q, q = mulP a b := ⟨_, rfl⟩
  have hq2 := hq2.symm
  have Q2 := Lib.hid hq2
  have I2 : Hid (Ra.i64 ⟨n2, d2⟩) := Lib.hid (by have := mulP_i64 a b; rw [hq2] at this; exact this)
  obtain ⟨⟨⟨n5, d5⟩, E5⟩, hq5⟩ : ∃ q, q = mulP ⟨n2, d2⟩ c := ⟨_, rfl⟩
  have hq5 := hq5.symm
  have Q5 := Lib.hid hq5
  have I5 : Hid (Ra.i64 ⟨n5, d5⟩) := Lib.hid (by have := mulP_i64 ⟨n2, d2⟩ c; rw [hq5] at this; exact this)
  obtain ⟨⟨⟨n6, d6⟩, E6⟩, hq6⟩ : ∃ q, q = mulP b c := ⟨_, rfl⟩
  have hq6 := hq6.symm
  have Q6 := Lib.hid hq6
  have I6 : Hid (Ra.i64 ⟨n6, d6⟩) := Lib.hid (by have := mulP_i64 b c; rw [hq6] at this; exact this)
  obtain ⟨⟨⟨n7, d7⟩, E7⟩, hq7⟩ : ∃ q, q = mulP a ⟨n6, d6⟩ := ⟨_, rfl⟩
  have hq7 := hq7.symm
  have Q7 := Lib.hid hq7
  have I7 : Hid (Ra.i64 ⟨n7, d7⟩) := Lib.hid (by have := mulP_i64 a ⟨n6, d6⟩; rw [hq7] at this; exact this)
  obtain ⟨⟨⟨n8, d8⟩, E8⟩, hq8⟩ : ∃ q, q = mulP a c := ⟨_, rfl⟩
  have hq8 := hq8.symm
  have Q8 := Lib.hid hq8
  have I8 : Hid (Ra.i64 ⟨n8, d8⟩) := Lib.hid (by have := mulP_i64 a c; rw [hq8] at this; exact this)
  obtain ⟨⟨⟨n9, d9⟩, E9⟩, hq9⟩ : ∃ q, q = mulP ⟨n1, d1⟩ c := ⟨_, rfl⟩
  have hq9 := hq9.symm
  have Q9 := Lib.hid hq9
  have I9 : Hid (Ra.i64 ⟨n9, d9⟩) := Lib.hid (by have := mulP_i64 ⟨n1, d1⟩ c; rw [hq9] at this; exact this)
  obtain ⟨⟨⟨n10, d10⟩, E10⟩, hq10⟩ : ∃ q, q = addP ⟨n8, d8⟩ ⟨n6, d6⟩ := ⟨_, rfl⟩
  have hq10 := hq10.symm
  have Q10 := Lib.hid hq10
  have I10 : Hid (Ra.i64 ⟨n10, d10⟩) := Lib.hid (by have := addP_i64 ⟨n8, d8⟩ ⟨n6, d6⟩; rw [hq10] at this; exact this)
  have Q1' : Hid (addP b a = (⟨n1, d1⟩, E1)) := Lib.hid (by rw [addP_comm, hq1])
  have Q2' : Hid (mulP b a = (⟨n2, d2⟩, E2)) := Lib.hid (by rw [mulP_comm, hq2])
  have Q11 : Hid (addP a ⟨0, 1⟩ = (a, 0)) := Lib.hid (add_nought oa)
  have Q12 : Hid (mulP a ⟨1, 1⟩ = (a, 0)) := Lib.hid (mul_one oa)
  have FE : Hid (E1 = 0 → checkR ⟨n1, d1⟩ = 0) := Lib.hid (fun h => by subst h; exact checkR_ok (addV oa ob hq1).1)
  have FG : Hid (E2 = 0 → checkR ⟨n2, d2⟩ = 0) := Lib.hid (fun h => by subst h; exact checkR_ok (mulV oa ob hq2).1)
  obtain ⟨⟨⟨n3, d3⟩, f1⟩, hs1⟩ : ∃ q, q = sumP a b c := ⟨_, rfl⟩
  obtain ⟨⟨⟨n4, d4⟩, f2⟩, hs2⟩ : ∃ q, q = sumP b c a := ⟨_, rfl⟩
  have S1 := Lib.hid hs1.symm
  have S2 := Lib.hid hs2.symm
  have FSx : Hid (f1 = true → f2 = true → n3 = n4 ∧ d3 = d4) := Lib.hid (fun h1 h2 => by
    subst h1 h2
    unfold sumP at hs1 hs2
    simp only [Prod.mk.injEq] at hs1 hs2
    obtain ⟨g1, g2⟩ := hs1
    obtain ⟨g3, g4⟩ := hs2
    have g2 := g2.symm
    have g4 := g4.symm
    simp only [Bool.and_eq_true, beq_iff_eq] at g2 g4
    have := add_turn (a := a) (b := b) (c := c) (x := (addP a b).1) (y := ⟨n3, d3⟩) (x' := (addP b c).1) (y' := ⟨n4, d4⟩) oa ob oc (Prod.ext rfl g2.1) (Prod.ext g1.symm g2.2) (Prod.ext rfl g4.1) (Prod.ext g3.symm g4.2)
    cases this
    exact ⟨rfl, rfl⟩)
  have FM : Hid (E2 = 0 → E5 = 0 → E6 = 0 → E7 = 0 → n5 = n7 ∧ d5 = d7) := Lib.hid (fun h1 h2 h3 h4 => by
    subst h1 h2 h3 h4
    have := mul_turn oa ob oc hq2 hq5 hq6 hq7
    cases this
    exact ⟨rfl, rfl⟩)
  have FD : Hid (E1 = 0 → E8 = 0 → E6 = 0 → E9 = 0 → E10 = 0 → n9 = n10 ∧ d9 = d10) := Lib.hid (fun h1 h2 h3 h4 h5 => by
    subst h1 h2 h3 h4 h5
    have := mul_over oa ob oc hq1 hq8 hq6 hq9 hq10
    cases this
    exact ⟨rfl, rfl⟩)
  clear oa ob oc hs1 hs2 hq1 hq2 hq5 hq6 hq7 hq8 hq9 hq10
  unfold Ra.v
  go_enter Try.func6, Try.ntmps6
  go_wp2_with fail
  refine Calls.mono (sane_any _) ?_
  try simp only [Ra.v]
  rintro e w1 ⟨rfl, hb1⟩
  have P_1 := (Below.refl (w.heap.size + 3) (((w.alloc (.cells #[.int .i64 a.num, .int .i64 a.den] 23)).alloc (.cells #[.int .i64 b.num, .int .i64 b.den] 23)).alloc (.cells #[.int .i64 c.num, .int .i64 c.den] 23))).trans (hb1.mono (by (try simp) <;> omega))
  have z1 : w.heap.size + 3 ≤ w1.heap.size := by have := hb1.size; (try simp at this); omega
  clear hb1
  obtain ⟨m0, m1, m2, m3, m4, m5, m6, m7, m8⟩ := par_cells3 (a := a) (b := b) (c := c) P_1
  go_wp2_with fail
  refine Calls.mono (Check_any a HA.out _) ?_
  rw [Ca.out]
  try simp only [Ra.v]
  rintro e w2 ⟨rfl, hb2⟩
  have z2 : w1.heap.size + 0 ≤ w2.heap.size := by have := hb2.size; (try simp at this); omega
  have P_2 := P_1.trans (hb2.mono (by (try simp) <;> omega))
  clear P_1 
  clear hb2
  clear m0 m1 m2 m3 m4 m5 m6 m7 m8
  obtain ⟨m0, m1, m2, m3, m4, m5, m6, m7, m8⟩ := par_cells3 (a := a) (b := b) (c := c) P_2
  go_wp2_with fail
  refine Calls.mono (Check_any b HB.out _) ?_
  rw [Cb.out]
  try simp only [Ra.v]
  rintro e w3 ⟨rfl, hb3⟩
  have z3 : w2.heap.size + 0 ≤ w3.heap.size := by have := hb3.size; (try simp at this); omega
  have P_3 := P_2.trans (hb3.mono (by (try simp) <;> omega))
  clear P_2 
  clear hb3
  clear m0 m1 m2 m3 m4 m5 m6 m7 m8
  obtain ⟨m0, m1, m2, m3, m4, m5, m6, m7, m8⟩ := par_cells3 (a := a) (b := b) (c := c) P_3
  go_wp2_with fail
  refine Calls.mono (Check_any c HC.out _) ?_
  rw [Cc.out]
  try simp only [Ra.v]
  rintro e w4 ⟨rfl, hb4⟩
  have z4 : w3.heap.size + 0 ≤ w4.heap.size := by have := hb4.size; (try simp at this); omega
  have P_4 := P_3.trans (hb4.mono (by (try simp) <;> omega))
  clear P_3 
  clear hb4
  clear m0 m1 m2 m3 m4 m5 m6 m7 m8
  obtain ⟨m0, m1, m2, m3, m4, m5, m6, m7, m8⟩ := par_cells3 (a := a) (b := b) (c := c) P_4
  go_wp2_with fail
  refine Calls.mono (Add_any a b HA.out HB.out _) ?_
  rw [Q1.out]
  try simp only [Ra.v]
  rintro e w5 ⟨rfl, hb5⟩
  have z5 : w4.heap.size + 0 ≤ w5.heap.size := by have := hb5.size; (try simp at this); omega
  have P_5 := P_4.trans (hb5.mono (by (try simp) <;> omega))
  clear P_4 
  clear hb5
  clear m0 m1 m2 m3 m4 m5 m6 m7 m8
  obtain ⟨m0, m1, m2, m3, m4, m5, m6, m7, m8⟩ := par_cells3 (a := a) (b := b) (c := c) P_5
  go_wp2_with fail
  refine Calls.mono (Add_any b a HB.out HA.out _) ?_
  rw [Q1'.out]
  try simp only [Ra.v]
  rintro e w6 ⟨rfl, hb6⟩
  have z6 : w5.heap.size + 1 ≤ w6.heap.size := by have := hb6.size; (try simp at this); omega
  have P_6 := (P_5.alloc (by (try simp) <;> omega) (.cells #[.int .i64 n1, .int .i64 d1] 23)).trans (hb6.mono (by (try simp) <;> omega))
  have K5_6 := (Below.refl (w5.heap.size + 1) (w5.alloc (.cells #[.int .i64 n1, .int .i64 d1] 23))).trans (hb6.mono (by (try simp) <;> omega))
  clear P_5 
  clear hb6
  clear m0 m1 m2 m3 m4 m5 m6 m7 m8
  obtain ⟨m0, m1, m2, m3, m4, m5, m6, m7, m8⟩ := par_cells3 (a := a) (b := b) (c := c) P_6
  go_wp2_with fail
  refine Calls.mono (Mul_any a b HA.out HB.out _) ?_
  rw [Q2.out]
  try simp only [Ra.v]
  rintro e w7 ⟨rfl, hb7⟩
  have z7 : w6.heap.size + 1 ≤ w7.heap.size := by have := hb7.size; (try simp at this); omega
  have P_7 := (P_6.alloc (by (try simp) <;> omega) (.cells #[.int .i64 n1, .int .i64 d1] 23)).trans (hb7.mono (by (try simp) <;> omega))
  have K5_7 := (K5_6.alloc (by (try simp) <;> omega) (.cells #[.int .i64 n1, .int .i64 d1] 23)).trans (hb7.mono (by (try simp) <;> omega))
  have K6_7 := (Below.refl (w6.heap.size + 1) (w6.alloc (.cells #[.int .i64 n1, .int .i64 d1] 23))).trans (hb7.mono (by (try simp) <;> omega))
  clear P_6 K5_6
  clear hb7
  clear m0 m1 m2 m3 m4 m5 m6 m7 m8
  obtain ⟨m0, m1, m2, m3, m4, m5, m6, m7, m8⟩ := par_cells3 (a := a) (b := b) (c := c) P_7
  go_wp2_with fail
  refine Calls.mono (Mul_any b a HB.out HA.out _) ?_
  rw [Q2'.out]
  try simp only [Ra.v]
  rintro e w8 ⟨rfl, hb8⟩
  have z8 : w7.heap.size + 1 ≤ w8.heap.size := by have := hb8.size; (try simp at this); omega
  have P_8 := (P_7.alloc (by (try simp) <;> omega) (.cells #[.int .i64 n2, .int .i64 d2] 23)).trans (hb8.mono (by (try simp) <;> omega))
  have K5_8 := (K5_7.alloc (by (try simp) <;> omega) (.cells #[.int .i64 n2, .int .i64 d2] 23)).trans (hb8.mono (by (try simp) <;> omega))
  have K6_8 := (K6_7.alloc (by (try simp) <;> omega) (.cells #[.int .i64 n2, .int .i64 d2] 23)).trans (hb8.mono (by (try simp) <;> omega))
  have K7_8 := (Below.refl (w7.heap.size + 1) (w7.alloc (.cells #[.int .i64 n2, .int .i64 d2] 23))).trans (hb8.mono (by (try simp) <;> omega))
  clear P_7 K5_7 K6_7
  clear hb8
  clear m0 m1 m2 m3 m4 m5 m6 m7 m8
  obtain ⟨m0, m1, m2, m3, m4, m5, m6, m7, m8⟩ := par_cells3 (a := a) (b := b) (c := c) P_8
  obtain ⟨_, hc, _, hs5, _⟩ := below_new K5_8
  have cA5 := hc 0
  have cB5 := hc 1
  simp at cA5 cB5
  clear hc
  obtain ⟨_, hc, _, hs6, _⟩ := below_new K6_8
  have cA6 := hc 0
  have cB6 := hc 1
  simp at cA6 cB6
  clear hc
  obtain ⟨_, hc, _, hs7, _⟩ := below_new K7_8
  have cA7 := hc 0
  have cB7 := hc 1
  simp at cA7 cB7
  clear hc
  have bz : w8.heap.size < (w8.alloc (.cells #[.int .i64 n2, .int .i64 d2] 23)).heap.size := by simp
  go_upto_region 9 with fail
  go_cut [109] (fun t wx => t = .bool false ∧ Below (w8.alloc (.cells #[.int .i64 n2, .int .i64 d2] 23)).heap.size (w8.alloc (.cells #[.int .i64 n2, .int .i64 d2] 23)) wx)
  case first =>
    as_aux_lemma =>
      by_cases h1 : E1 = 0
      all_goals by_cases h2 : E2 = 0
      · have qE1 : (E1 == 0) = true := by simpa using h1
        have qE2 : (E2 == 0) = true := by simpa using h2
        have g1 := Lib.hid (FE.out h1)
        have g2 := Lib.hid (FG.out h2)
        clear h1 h2
        go_wp2_with fail
        refine Calls.mono (Check2 n1 d1 I1.out.1 I1.out.2 _) ?_
        rw [g1.out]
        rintro e v1 ⟨rfl, hv1⟩
        have y1 := hv1.size
        have t1 := (hv1.cell (p := ⟨w7.heap.size, 0, none⟩) (by simp; omega)).trans (show _ = some (.int .i64 n2) from by simp [go_sem, cA7, hs7])
        have t2 := (hv1.cell (p := ⟨w7.heap.size, 1, none⟩) (by simp; omega)).trans (show _ = some (.int .i64 d2) from by simp [go_sem, cB7, hs7])
        have t3 : w7.heap.size < v1.heap.size := by simp at y1; omega
        go_wp2_with fail
        refine Calls.mono (Check2 n2 d2 I2.out.1 I2.out.2 _) ?_
        rw [g2.out]
        rintro e v2 ⟨rfl, hv2⟩
        go_wp2_with fail
        go_meet
        exact ⟨rfl, (hv1.trans (hv2.mono hv1.size))⟩
      · have qE1 : (E1 == 0) = true := by simpa using h1
        have qE2 : (E2 == 0) = false := by simpa using h2
        have g1 := Lib.hid (FE.out h1)
        clear h1 h2
        go_wp2_with fail
        refine Calls.mono (Check2 n1 d1 I1.out.1 I1.out.2 _) ?_
        rw [g1.out]
        rintro e v1 ⟨rfl, hv1⟩
        have y1 := hv1.size
        have t1 := (hv1.cell (p := ⟨w7.heap.size, 0, none⟩) (by simp; omega)).trans (show _ = some (.int .i64 n2) from by simp [go_sem, cA7, hs7])
        have t2 := (hv1.cell (p := ⟨w7.heap.size, 1, none⟩) (by simp; omega)).trans (show _ = some (.int .i64 d2) from by simp [go_sem, cB7, hs7])
        have t3 : w7.heap.size < v1.heap.size := by simp at y1; omega
        go_wp2_with fail
        go_meet
        exact ⟨rfl, hv1⟩
      · have qE1 : (E1 == 0) = false := by simpa using h1
        have qE2 : (E2 == 0) = true := by simpa using h2
        have g2 := Lib.hid (FG.out h2)
        clear h1 h2
        go_wp2_with fail
        refine Calls.mono (Check2 n2 d2 I2.out.1 I2.out.2 _) ?_
        rw [g2.out]
        rintro e v2 ⟨rfl, hv2⟩
        go_wp2_with fail
        go_meet
        exact ⟨rfl, hv2⟩
      · have qE1 : (E1 == 0) = false := by simpa using h1
        have qE2 : (E2 == 0) = false := by simpa using h2
        clear h1 h2
        go_wp2_with fail
        go_meet
        exact ⟨rfl, Below.refl _ _⟩
  as_aux_lemma =>
    obtain ⟨w9, hwc⟩ : ∃ x, x = wc := ⟨_, rfl⟩
    subst hwc
    obtain ⟨rfl, hb9⟩ := hcut
    have z9 : w8.heap.size + 1 ≤ w9.heap.size := by have := hb9.size; (try simp at this); omega
    have P_9 := (P_8.alloc (by (try simp) <;> omega) (.cells #[.int .i64 n2, .int .i64 d2] 23)).trans (hb9.mono (by (try simp) <;> omega))
    have K5_9 := (K5_8.alloc (by (try simp) <;> omega) (.cells #[.int .i64 n2, .int .i64 d2] 23)).trans (hb9.mono (by (try simp) <;> omega))
    have K6_9 := (K6_8.alloc (by (try simp) <;> omega) (.cells #[.int .i64 n2, .int .i64 d2] 23)).trans (hb9.mono (by (try simp) <;> omega))
    have K7_9 := (K7_8.alloc (by (try simp) <;> omega) (.cells #[.int .i64 n2, .int .i64 d2] 23)).trans (hb9.mono (by (try simp) <;> omega))
    have K8_9 := (Below.refl (w8.heap.size + 1) (w8.alloc (.cells #[.int .i64 n2, .int .i64 d2] 23))).trans (hb9.mono (by (try simp) <;> omega))
    clear P_8 K5_8 K6_8 K7_8
    clear hb9
    clear m0 m1 m2 m3 m4 m5 m6 m7 m8 cA5 cB5 hs5 cA6 cB6 hs6 cA7 cB7 hs7
    obtain ⟨m0, m1, m2, m3, m4, m5, m6, m7, m8⟩ := par_cells3 (a := a) (b := b) (c := c) P_9
    go_wp2_with fail
    refine Calls.mono (sum_any a b c HA.out HB.out HC.out _) ?_
    rw [S1.out]
    try simp only [Ra.v]
    rintro e w10 ⟨rfl, hb10⟩
    have z10 : w9.heap.size + 0 ≤ w10.heap.size := by have := hb10.size; (try simp at this); omega
    have P_10 := P_9.trans (hb10.mono (by (try simp) <;> omega))
    have K5_10 := K5_9.trans (hb10.mono (by (try simp) <;> omega))
    have K6_10 := K6_9.trans (hb10.mono (by (try simp) <;> omega))
    have K7_10 := K7_9.trans (hb10.mono (by (try simp) <;> omega))
    have K8_10 := K8_9.trans (hb10.mono (by (try simp) <;> omega))
    clear P_9 K5_9 K6_9 K7_9 K8_9
    clear hb10
    clear m0 m1 m2 m3 m4 m5 m6 m7 m8
    obtain ⟨m0, m1, m2, m3, m4, m5, m6, m7, m8⟩ := par_cells3 (a := a) (b := b) (c := c) P_10
    go_wp2_with fail
    refine Calls.mono (sum_any b c a HB.out HC.out HA.out _) ?_
    rw [S2.out]
    try simp only [Ra.v]
    rintro e w11 ⟨rfl, hb11⟩
    have z11 : w10.heap.size + 1 ≤ w11.heap.size := by have := hb11.size; (try simp at this); omega
    have P_11 := (P_10.alloc (by (try simp) <;> omega) (.cells #[.int .i64 n3, .int .i64 d3] 23)).trans (hb11.mono (by (try simp) <;> omega))
    have K5_11 := (K5_10.alloc (by (try simp) <;> omega) (.cells #[.int .i64 n3, .int .i64 d3] 23)).trans (hb11.mono (by (try simp) <;> omega))
    have K6_11 := (K6_10.alloc (by (try simp) <;> omega) (.cells #[.int .i64 n3, .int .i64 d3] 23)).trans (hb11.mono (by (try simp) <;> omega))
    have K7_11 := (K7_10.alloc (by (try simp) <;> omega) (.cells #[.int .i64 n3, .int .i64 d3] 23)).trans (hb11.mono (by (try simp) <;> omega))
    have K8_11 := (K8_10.alloc (by (try simp) <;> omega) (.cells #[.int .i64 n3, .int .i64 d3] 23)).trans (hb11.mono (by (try simp) <;> omega))
    have K10_11 := (Below.refl (w10.heap.size + 1) (w10.alloc (.cells #[.int .i64 n3, .int .i64 d3] 23))).trans (hb11.mono (by (try simp) <;> omega))
    clear P_10 K5_10 K6_10 K7_10 K8_10
    clear hb11
    clear m0 m1 m2 m3 m4 m5 m6 m7 m8
    obtain ⟨m0, m1, m2, m3, m4, m5, m6, m7, m8⟩ := par_cells3 (a := a) (b := b) (c := c) P_11
    obtain ⟨_, hc, _, hs10, _⟩ := below_new K10_11
    have cA10 := hc 0
    have cB10 := hc 1
    simp at cA10 cB10
    clear hc
    go_upto_region 13 with fail
    go_cut [132] (fun t wx => t = .bool false ∧ Below (w11.alloc (.cells #[.int .i64 n4, .int .i64 d4] 23)).heap.size (w11.alloc (.cells #[.int .i64 n4, .int .i64 d4] 23)) wx)
    case first =>
      as_aux_lemma =>
        cases f1
        all_goals cases f2
        · skip
          go_wp2_with fail
          go_meet
          exact ⟨rfl, Below.refl _ _⟩
        · skip
          go_wp2_with fail
          go_meet
          exact ⟨rfl, Below.refl _ _⟩
        · skip
          go_wp2_with fail
          go_meet
          exact ⟨rfl, Below.refl _ _⟩
        · obtain ⟨e1, e2⟩ := FSx.out rfl rfl
          subst e1
          subst e2
          go_wp2_with fail
          go_meet
          exact ⟨rfl, Below.refl _ _⟩
    as_aux_lemma =>
      obtain ⟨w12, hwc⟩ : ∃ x, x = wc := ⟨_, rfl⟩
      subst hwc
      obtain ⟨rfl, hb12⟩ := hcut
      have z12 : w11.heap.size + 1 ≤ w12.heap.size := by have := hb12.size; (try simp at this); omega
      have P_12 := (P_11.alloc (by (try simp) <;> omega) (.cells #[.int .i64 n4, .int .i64 d4] 23)).trans (hb12.mono (by (try simp) <;> omega))
      have K5_12 := (K5_11.alloc (by (try simp) <;> omega) (.cells #[.int .i64 n4, .int .i64 d4] 23)).trans (hb12.mono (by (try simp) <;> omega))
      have K6_12 := (K6_11.alloc (by (try simp) <;> omega) (.cells #[.int .i64 n4, .int .i64 d4] 23)).trans (hb12.mono (by (try simp) <;> omega))
      have K7_12 := (K7_11.alloc (by (try simp) <;> omega) (.cells #[.int .i64 n4, .int .i64 d4] 23)).trans (hb12.mono (by (try simp) <;> omega))
      have K8_12 := (K8_11.alloc (by (try simp) <;> omega) (.cells #[.int .i64 n4, .int .i64 d4] 23)).trans (hb12.mono (by (try simp) <;> omega))
      have K10_12 := (K10_11.alloc (by (try simp) <;> omega) (.cells #[.int .i64 n4, .int .i64 d4] 23)).trans (hb12.mono (by (try simp) <;> omega))
      have K11_12 := (Below.refl (w11.heap.size + 1) (w11.alloc (.cells #[.int .i64 n4, .int .i64 d4] 23))).trans (hb12.mono (by (try simp) <;> omega))
      clear P_11 K5_11 K6_11 K7_11 K8_11 K10_11
      clear hb12
      clear m0 m1 m2 m3 m4 m5 m6 m7 m8 cA10 cB10 hs10
      obtain ⟨m0, m1, m2, m3, m4, m5, m6, m7, m8⟩ := par_cells3 (a := a) (b := b) (c := c) P_12
      obtain ⟨_, hc, _, hs7, _⟩ := below_new K7_12
      have cA7 := hc 0
      have cB7 := hc 1
      simp at cA7 cB7
      clear hc
      go_wp2_with fail
      refine Calls.mono (Mul_any ⟨n2, d2⟩ c I2.out HC.out _) ?_
      rw [Q5.out]
      try simp only [Ra.v]
      rintro e w13 ⟨rfl, hb13⟩
      have z13 : w12.heap.size + 0 ≤ w13.heap.size := by have := hb13.size; (try simp at this); omega
      have P_13 := P_12.trans (hb13.mono (by (try simp) <;> omega))
      have K5_13 := K5_12.trans (hb13.mono (by (try simp) <;> omega))
      have K6_13 := K6_12.trans (hb13.mono (by (try simp) <;> omega))
      have K7_13 := K7_12.trans (hb13.mono (by (try simp) <;> omega))
      have K8_13 := K8_12.trans (hb13.mono (by (try simp) <;> omega))
      have K10_13 := K10_12.trans (hb13.mono (by (try simp) <;> omega))
      have K11_13 := K11_12.trans (hb13.mono (by (try simp) <;> omega))
      clear P_12 K5_12 K6_12 K7_12 K8_12 K10_12 K11_12
      clear hb13
      clear m0 m1 m2 m3 m4 m5 m6 m7 m8 cA7 cB7 hs7
      obtain ⟨m0, m1, m2, m3, m4, m5, m6, m7, m8⟩ := par_cells3 (a := a) (b := b) (c := c) P_13
      go_wp2_with fail
      refine Calls.mono (Mul_any b c HB.out HC.out _) ?_
      rw [Q6.out]
      try simp only [Ra.v]
      rintro e w14 ⟨rfl, hb14⟩
      have z14 : w13.heap.size + 1 ≤ w14.heap.size := by have := hb14.size; (try simp at this); omega
      have P_14 := (P_13.alloc (by (try simp) <;> omega) (.cells #[.int .i64 n5, .int .i64 d5] 23)).trans (hb14.mono (by (try simp) <;> omega))
      have K5_14 := (K5_13.alloc (by (try simp) <;> omega) (.cells #[.int .i64 n5, .int .i64 d5] 23)).trans (hb14.mono (by (try simp) <;> omega))
      have K6_14 := (K6_13.alloc (by (try simp) <;> omega) (.cells #[.int .i64 n5, .int .i64 d5] 23)).trans (hb14.mono (by (try simp) <;> omega))
      have K7_14 := (K7_13.alloc (by (try simp) <;> omega) (.cells #[.int .i64 n5, .int .i64 d5] 23)).trans (hb14.mono (by (try simp) <;> omega))
      have K8_14 := (K8_13.alloc (by (try simp) <;> omega) (.cells #[.int .i64 n5, .int .i64 d5] 23)).trans (hb14.mono (by (try simp) <;> omega))
      have K10_14 := (K10_13.alloc (by (try simp) <;> omega) (.cells #[.int .i64 n5, .int .i64 d5] 23)).trans (hb14.mono (by (try simp) <;> omega))
      have K11_14 := (K11_13.alloc (by (try simp) <;> omega) (.cells #[.int .i64 n5, .int .i64 d5] 23)).trans (hb14.mono (by (try simp) <;> omega))
      have K13_14 := (Below.refl (w13.heap.size + 1) (w13.alloc (.cells #[.int .i64 n5, .int .i64 d5] 23))).trans (hb14.mono (by (try simp) <;> omega))
      clear P_13 K5_13 K6_13 K7_13 K8_13 K10_13 K11_13
      clear hb14
      clear m0 m1 m2 m3 m4 m5 m6 m7 m8
      obtain ⟨m0, m1, m2, m3, m4, m5, m6, m7, m8⟩ := par_cells3 (a := a) (b := b) (c := c) P_14
      go_wp2_with fail
      refine Calls.mono (Mul_any a ⟨n6, d6⟩ HA.out I6.out _) ?_
      rw [Q7.out]
      try simp only [Ra.v]
      rintro e w15 ⟨rfl, hb15⟩
      have z15 : w14.heap.size + 1 ≤ w15.heap.size := by have := hb15.size; (try simp at this); omega
      have P_15 := (P_14.alloc (by (try simp) <;> omega) (.cells #[.int .i64 n6, .int .i64 d6] 23)).trans (hb15.mono (by (try simp) <;> omega))
      have K5_15 := (K5_14.alloc (by (try simp) <;> omega) (.cells #[.int .i64 n6, .int .i64 d6] 23)).trans (hb15.mono (by (try simp) <;> omega))
      have K6_15 := (K6_14.alloc (by (try simp) <;> omega) (.cells #[.int .i64 n6, .int .i64 d6] 23)).trans (hb15.mono (by (try simp) <;> omega))
      have K7_15 := (K7_14.alloc (by (try simp) <;> omega) (.cells #[.int .i64 n6, .int .i64 d6] 23)).trans (hb15.mono (by (try simp) <;> omega))
      have K8_15 := (K8_14.alloc (by (try simp) <;> omega) (.cells #[.int .i64 n6, .int .i64 d6] 23)).trans (hb15.mono (by (try simp) <;> omega))
      have K10_15 := (K10_14.alloc (by (try simp) <;> omega) (.cells #[.int .i64 n6, .int .i64 d6] 23)).trans (hb15.mono (by (try simp) <;> omega))
      have K11_15 := (K11_14.alloc (by (try simp) <;> omega) (.cells #[.int .i64 n6, .int .i64 d6] 23)).trans (hb15.mono (by (try simp) <;> omega))
      have K13_15 := (K13_14.alloc (by (try simp) <;> omega) (.cells #[.int .i64 n6, .int .i64 d6] 23)).trans (hb15.mono (by (try simp) <;> omega))
      have K14_15 := (Below.refl (w14.heap.size + 1) (w14.alloc (.cells #[.int .i64 n6, .int .i64 d6] 23))).trans (hb15.mono (by (try simp) <;> omega))
      clear P_14 K5_14 K6_14 K7_14 K8_14 K10_14 K11_14 K13_14
      clear hb15
      clear m0 m1 m2 m3 m4 m5 m6 m7 m8
      obtain ⟨m0, m1, m2, m3, m4, m5, m6, m7, m8⟩ := par_cells3 (a := a) (b := b) (c := c) P_15
      obtain ⟨_, hc, _, hs13, _⟩ := below_new K13_15
      have cA13 := hc 0
      have cB13 := hc 1
      simp at cA13 cB13
      clear hc
      go_upto_region 18 with fail
      go_cut [169] (fun t wx => t = .bool false ∧ Below (w15.alloc (.cells #[.int .i64 n7, .int .i64 d7] 23)).heap.size (w15.alloc (.cells #[.int .i64 n7, .int .i64 d7] 23)) wx)
      case first =>
        as_aux_lemma =>
          by_cases hE2 : E2 = 0
          rotate_left
          · have qE2 : (E2 == 0) = false := by simpa using hE2
            clear hE2
            go_wp2_with fail
            go_meet
            exact ⟨rfl, Below.refl _ _⟩
          by_cases hE5 : E5 = 0
          rotate_left
          · have qE5 : (E5 == 0) = false := by simpa using hE5
            have qE2 : (E2 == 0) = true := by simpa using hE2
            clear hE2 hE5
            go_wp2_with fail
            go_meet
            exact ⟨rfl, Below.refl _ _⟩
          by_cases hE6 : E6 = 0
          rotate_left
          · have qE6 : (E6 == 0) = false := by simpa using hE6
            have qE2 : (E2 == 0) = true := by simpa using hE2
            have qE5 : (E5 == 0) = true := by simpa using hE5
            clear hE2 hE5 hE6
            go_wp2_with fail
            go_meet
            exact ⟨rfl, Below.refl _ _⟩
          by_cases hE7 : E7 = 0
          rotate_left
          · have qE7 : (E7 == 0) = false := by simpa using hE7
            have qE2 : (E2 == 0) = true := by simpa using hE2
            have qE5 : (E5 == 0) = true := by simpa using hE5
            have qE6 : (E6 == 0) = true := by simpa using hE6
            clear hE2 hE5 hE6 hE7
            go_wp2_with fail
            go_meet
            exact ⟨rfl, Below.refl _ _⟩
          obtain ⟨e1, e2⟩ := FM.out hE2 hE5 hE6 hE7
          subst e1
          subst e2
          have qE2 : (E2 == 0) = true := by simpa using hE2
          have qE5 : (E5 == 0) = true := by simpa using hE5
          have qE6 : (E6 == 0) = true := by simpa using hE6
          have qE7 : (E7 == 0) = true := by simpa using hE7
          clear hE2 hE5 hE6 hE7
          go_wp2_with fail
          go_meet
          exact ⟨rfl, Below.refl _ _⟩
      as_aux_lemma =>
        obtain ⟨w16, hwc⟩ : ∃ x, x = wc := ⟨_, rfl⟩
        subst hwc
        obtain ⟨rfl, hb16⟩ := hcut
        have z16 : w15.heap.size + 1 ≤ w16.heap.size := by have := hb16.size; (try simp at this); omega
        have P_16 := (P_15.alloc (by (try simp) <;> omega) (.cells #[.int .i64 n7, .int .i64 d7] 23)).trans (hb16.mono (by (try simp) <;> omega))
        have K5_16 := (K5_15.alloc (by (try simp) <;> omega) (.cells #[.int .i64 n7, .int .i64 d7] 23)).trans (hb16.mono (by (try simp) <;> omega))
        have K6_16 := (K6_15.alloc (by (try simp) <;> omega) (.cells #[.int .i64 n7, .int .i64 d7] 23)).trans (hb16.mono (by (try simp) <;> omega))
        have K7_16 := (K7_15.alloc (by (try simp) <;> omega) (.cells #[.int .i64 n7, .int .i64 d7] 23)).trans (hb16.mono (by (try simp) <;> omega))
        have K8_16 := (K8_15.alloc (by (try simp) <;> omega) (.cells #[.int .i64 n7, .int .i64 d7] 23)).trans (hb16.mono (by (try simp) <;> omega))
        have K10_16 := (K10_15.alloc (by (try simp) <;> omega) (.cells #[.int .i64 n7, .int .i64 d7] 23)).trans (hb16.mono (by (try simp) <;> omega))
        have K11_16 := (K11_15.alloc (by (try simp) <;> omega) (.cells #[.int .i64 n7, .int .i64 d7] 23)).trans (hb16.mono (by (try simp) <;> omega))
        have K13_16 := (K13_15.alloc (by (try simp) <;> omega) (.cells #[.int .i64 n7, .int .i64 d7] 23)).trans (hb16.mono (by (try simp) <;> omega))
        have K14_16 := (K14_15.alloc (by (try simp) <;> omega) (.cells #[.int .i64 n7, .int .i64 d7] 23)).trans (hb16.mono (by (try simp) <;> omega))
        have K15_16 := (Below.refl (w15.heap.size + 1) (w15.alloc (.cells #[.int .i64 n7, .int .i64 d7] 23))).trans (hb16.mono (by (try simp) <;> omega))
        clear P_15 K5_15 K6_15 K7_15 K8_15 K10_15 K11_15 K13_15 K14_15
        clear hb16
        clear m0 m1 m2 m3 m4 m5 m6 m7 m8 cA13 cB13 hs13
        obtain ⟨m0, m1, m2, m3, m4, m5, m6, m7, m8⟩ := par_cells3 (a := a) (b := b) (c := c) P_16
        go_wp2_with fail
        refine Calls.mono (Mul_any a c HA.out HC.out _) ?_
        rw [Q8.out]
        try simp only [Ra.v]
        rintro e w17 ⟨rfl, hb17⟩
        have z17 : w16.heap.size + 0 ≤ w17.heap.size := by have := hb17.size; (try simp at this); omega
        have P_17 := P_16.trans (hb17.mono (by (try simp) <;> omega))
        have K5_17 := K5_16.trans (hb17.mono (by (try simp) <;> omega))
        have K6_17 := K6_16.trans (hb17.mono (by (try simp) <;> omega))
        have K7_17 := K7_16.trans (hb17.mono (by (try simp) <;> omega))
        have K8_17 := K8_16.trans (hb17.mono (by (try simp) <;> omega))
        have K10_17 := K10_16.trans (hb17.mono (by (try simp) <;> omega))
        have K11_17 := K11_16.trans (hb17.mono (by (try simp) <;> omega))
        have K13_17 := K13_16.trans (hb17.mono (by (try simp) <;> omega))
        have K14_17 := K14_16.trans (hb17.mono (by (try simp) <;> omega))
        have K15_17 := K15_16.trans (hb17.mono (by (try simp) <;> omega))
        clear P_16 K5_16 K6_16 K7_16 K8_16 K10_16 K11_16 K13_16 K14_16 K15_16
        clear hb17
        clear m0 m1 m2 m3 m4 m5 m6 m7 m8
        obtain ⟨m0, m1, m2, m3, m4, m5, m6, m7, m8⟩ := par_cells3 (a := a) (b := b) (c := c) P_17
        obtain ⟨_, hc, _, hs5, _⟩ := below_new K5_17
        have cA5 := hc 0
        have cB5 := hc 1
        simp at cA5 cB5
        clear hc
        go_wp2_with fail
        refine Calls.mono (Mul_any ⟨n1, d1⟩ c I1.out HC.out _) ?_
        rw [Q9.out]
        try simp only [Ra.v]
        rintro e w18 ⟨rfl, hb18⟩
        have z18 : w17.heap.size + 1 ≤ w18.heap.size := by have := hb18.size; (try simp at this); omega
        have P_18 := (P_17.alloc (by (try simp) <;> omega) (.cells #[.int .i64 n8, .int .i64 d8] 23)).trans (hb18.mono (by (try simp) <;> omega))
        have K5_18 := (K5_17.alloc (by (try simp) <;> omega) (.cells #[.int .i64 n8, .int .i64 d8] 23)).trans (hb18.mono (by (try simp) <;> omega))
        have K6_18 := (K6_17.alloc (by (try simp) <;> omega) (.cells #[.int .i64 n8, .int .i64 d8] 23)).trans (hb18.mono (by (try simp) <;> omega))
        have K7_18 := (K7_17.alloc (by (try simp) <;> omega) (.cells #[.int .i64 n8, .int .i64 d8] 23)).trans (hb18.mono (by (try simp) <;> omega))
        have K8_18 := (K8_17.alloc (by (try simp) <;> omega) (.cells #[.int .i64 n8, .int .i64 d8] 23)).trans (hb18.mono (by (try simp) <;> omega))
        have K10_18 := (K10_17.alloc (by (try simp) <;> omega) (.cells #[.int .i64 n8, .int .i64 d8] 23)).trans (hb18.mono (by (try simp) <;> omega))
        have K11_18 := (K11_17.alloc (by (try simp) <;> omega) (.cells #[.int .i64 n8, .int .i64 d8] 23)).trans (hb18.mono (by (try simp) <;> omega))
        have K13_18 := (K13_17.alloc (by (try simp) <;> omega) (.cells #[.int .i64 n8, .int .i64 d8] 23)).trans (hb18.mono (by (try simp) <;> omega))
        have K14_18 := (K14_17.alloc (by (try simp) <;> omega) (.cells #[.int .i64 n8, .int .i64 d8] 23)).trans (hb18.mono (by (try simp) <;> omega))
        have K15_18 := (K15_17.alloc (by (try simp) <;> omega) (.cells #[.int .i64 n8, .int .i64 d8] 23)).trans (hb18.mono (by (try simp) <;> omega))
        have K17_18 := (Below.refl (w17.heap.size + 1) (w17.alloc (.cells #[.int .i64 n8, .int .i64 d8] 23))).trans (hb18.mono (by (try simp) <;> omega))
        clear P_17 K5_17 K6_17 K7_17 K8_17 K10_17 K11_17 K13_17 K14_17 K15_17
        clear hb18
        clear m0 m1 m2 m3 m4 m5 m6 m7 m8 cA5 cB5 hs5
        obtain ⟨m0, m1, m2, m3, m4, m5, m6, m7, m8⟩ := par_cells3 (a := a) (b := b) (c := c) P_18
        obtain ⟨_, hc, _, hs14, _⟩ := below_new K14_18
        have cA14 := hc 0
        have cB14 := hc 1
        simp at cA14 cB14
        clear hc
        obtain ⟨_, hc, _, hs17, _⟩ := below_new K17_18
        have cA17 := hc 0
        have cB17 := hc 1
        simp at cA17 cB17
        clear hc
        go_wp2_with fail
        refine Calls.mono (Add_any ⟨n8, d8⟩ ⟨n6, d6⟩ I8.out I6.out _) ?_
        rw [Q10.out]
        try simp only [Ra.v]
        rintro e w19 ⟨rfl, hb19⟩
        have z19 : w18.heap.size + 1 ≤ w19.heap.size := by have := hb19.size; (try simp at this); omega
        have P_19 := (P_18.alloc (by (try simp) <;> omega) (.cells #[.int .i64 n9, .int .i64 d9] 23)).trans (hb19.mono (by (try simp) <;> omega))
        have K5_19 := (K5_18.alloc (by (try simp) <;> omega) (.cells #[.int .i64 n9, .int .i64 d9] 23)).trans (hb19.mono (by (try simp) <;> omega))
        have K6_19 := (K6_18.alloc (by (try simp) <;> omega) (.cells #[.int .i64 n9, .int .i64 d9] 23)).trans (hb19.mono (by (try simp) <;> omega))
        have K7_19 := (K7_18.alloc (by (try simp) <;> omega) (.cells #[.int .i64 n9, .int .i64 d9] 23)).trans (hb19.mono (by (try simp) <;> omega))
        have K8_19 := (K8_18.alloc (by (try simp) <;> omega) (.cells #[.int .i64 n9, .int .i64 d9] 23)).trans (hb19.mono (by (try simp) <;> omega))
        have K10_19 := (K10_18.alloc (by (try simp) <;> omega) (.cells #[.int .i64 n9, .int .i64 d9] 23)).trans (hb19.mono (by (try simp) <;> omega))
        have K11_19 := (K11_18.alloc (by (try simp) <;> omega) (.cells #[.int .i64 n9, .int .i64 d9] 23)).trans (hb19.mono (by (try simp) <;> omega))
        have K13_19 := (K13_18.alloc (by (try simp) <;> omega) (.cells #[.int .i64 n9, .int .i64 d9] 23)).trans (hb19.mono (by (try simp) <;> omega))
        have K14_19 := (K14_18.alloc (by (try simp) <;> omega) (.cells #[.int .i64 n9, .int .i64 d9] 23)).trans (hb19.mono (by (try simp) <;> omega))
        have K15_19 := (K15_18.alloc (by (try simp) <;> omega) (.cells #[.int .i64 n9, .int .i64 d9] 23)).trans (hb19.mono (by (try simp) <;> omega))
        have K17_19 := (K17_18.alloc (by (try simp) <;> omega) (.cells #[.int .i64 n9, .int .i64 d9] 23)).trans (hb19.mono (by (try simp) <;> omega))
        have K18_19 := (Below.refl (w18.heap.size + 1) (w18.alloc (.cells #[.int .i64 n9, .int .i64 d9] 23))).trans (hb19.mono (by (try simp) <;> omega))
        clear P_18 K5_18 K6_18 K7_18 K8_18 K10_18 K11_18 K13_18 K14_18 K15_18 K17_18
        clear hb19
        clear m0 m1 m2 m3 m4 m5 m6 m7 m8 cA17 cB17 hs17 cA14 cB14 hs14
        obtain ⟨m0, m1, m2, m3, m4, m5, m6, m7, m8⟩ := par_cells3 (a := a) (b := b) (c := c) P_19
        obtain ⟨_, hc, _, hs18, _⟩ := below_new K18_19
        have cA18 := hc 0
        have cB18 := hc 1
        simp at cA18 cB18
        clear hc
        go_upto_region 23 with fail
        go_cut [210] (fun t wx => t = .bool false ∧ Below (w19.alloc (.cells #[.int .i64 n10, .int .i64 d10] 23)).heap.size (w19.alloc (.cells #[.int .i64 n10, .int .i64 d10] 23)) wx)
        case first =>
          as_aux_lemma =>
            by_cases hE1 : E1 = 0
            rotate_left
            · have qE1 : (E1 == 0) = false := by simpa using hE1
              clear hE1
              go_wp2_with fail
              go_meet
              exact ⟨rfl, Below.refl _ _⟩
            by_cases hE8 : E8 = 0
            rotate_left
            · have qE8 : (E8 == 0) = false := by simpa using hE8
              have qE1 : (E1 == 0) = true := by simpa using hE1
              clear hE1 hE8
              go_wp2_with fail
              go_meet
              exact ⟨rfl, Below.refl _ _⟩
            by_cases hE6 : E6 = 0
            rotate_left
            · have qE6 : (E6 == 0) = false := by simpa using hE6
              have qE1 : (E1 == 0) = true := by simpa using hE1
              have qE8 : (E8 == 0) = true := by simpa using hE8
              clear hE1 hE8 hE6
              go_wp2_with fail
              go_meet
              exact ⟨rfl, Below.refl _ _⟩
            by_cases hE9 : E9 = 0
            rotate_left
            · have qE9 : (E9 == 0) = false := by simpa using hE9
              have qE1 : (E1 == 0) = true := by simpa using hE1
              have qE8 : (E8 == 0) = true := by simpa using hE8
              have qE6 : (E6 == 0) = true := by simpa using hE6
              clear hE1 hE8 hE6 hE9
              go_wp2_with fail
              go_meet
              exact ⟨rfl, Below.refl _ _⟩
            by_cases hE10 : E10 = 0
            rotate_left
            · have qE10 : (E10 == 0) = false := by simpa using hE10
              have qE1 : (E1 == 0) = true := by simpa using hE1
              have qE8 : (E8 == 0) = true := by simpa using hE8
              have qE6 : (E6 == 0) = true := by simpa using hE6
              have qE9 : (E9 == 0) = true := by simpa using hE9
              clear hE1 hE8 hE6 hE9 hE10
              go_wp2_with fail
              go_meet
              exact ⟨rfl, Below.refl _ _⟩
            obtain ⟨e1, e2⟩ := FD.out hE1 hE8 hE6 hE9 hE10
            subst e1
            subst e2
            have qE1 : (E1 == 0) = true := by simpa using hE1
            have qE8 : (E8 == 0) = true := by simpa using hE8
            have qE6 : (E6 == 0) = true := by simpa using hE6
            have qE9 : (E9 == 0) = true := by simpa using hE9
            have qE10 : (E10 == 0) = true := by simpa using hE10
            clear hE1 hE8 hE6 hE9 hE10
            go_wp2_with fail
            go_meet
            exact ⟨rfl, Below.refl _ _⟩
        as_aux_lemma =>
          obtain ⟨w20, hwc⟩ : ∃ x, x = wc := ⟨_, rfl⟩
          subst hwc
          obtain ⟨rfl, hb20⟩ := hcut
          have z20 : w19.heap.size + 1 ≤ w20.heap.size := by have := hb20.size; (try simp at this); omega
          have P_20 := (P_19.alloc (by (try simp) <;> omega) (.cells #[.int .i64 n10, .int .i64 d10] 23)).trans (hb20.mono (by (try simp) <;> omega))
          have K5_20 := (K5_19.alloc (by (try simp) <;> omega) (.cells #[.int .i64 n10, .int .i64 d10] 23)).trans (hb20.mono (by (try simp) <;> omega))
          have K6_20 := (K6_19.alloc (by (try simp) <;> omega) (.cells #[.int .i64 n10, .int .i64 d10] 23)).trans (hb20.mono (by (try simp) <;> omega))
          have K7_20 := (K7_19.alloc (by (try simp) <;> omega) (.cells #[.int .i64 n10, .int .i64 d10] 23)).trans (hb20.mono (by (try simp) <;> omega))
          have K8_20 := (K8_19.alloc (by (try simp) <;> omega) (.cells #[.int .i64 n10, .int .i64 d10] 23)).trans (hb20.mono (by (try simp) <;> omega))
          have K10_20 := (K10_19.alloc (by (try simp) <;> omega) (.cells #[.int .i64 n10, .int .i64 d10] 23)).trans (hb20.mono (by (try simp) <;> omega))
          have K11_20 := (K11_19.alloc (by (try simp) <;> omega) (.cells #[.int .i64 n10, .int .i64 d10] 23)).trans (hb20.mono (by (try simp) <;> omega))
          have K13_20 := (K13_19.alloc (by (try simp) <;> omega) (.cells #[.int .i64 n10, .int .i64 d10] 23)).trans (hb20.mono (by (try simp) <;> omega))
          have K14_20 := (K14_19.alloc (by (try simp) <;> omega) (.cells #[.int .i64 n10, .int .i64 d10] 23)).trans (hb20.mono (by (try simp) <;> omega))
          have K15_20 := (K15_19.alloc (by (try simp) <;> omega) (.cells #[.int .i64 n10, .int .i64 d10] 23)).trans (hb20.mono (by (try simp) <;> omega))
          have K17_20 := (K17_19.alloc (by (try simp) <;> omega) (.cells #[.int .i64 n10, .int .i64 d10] 23)).trans (hb20.mono (by (try simp) <;> omega))
          have K18_20 := (K18_19.alloc (by (try simp) <;> omega) (.cells #[.int .i64 n10, .int .i64 d10] 23)).trans (hb20.mono (by (try simp) <;> omega))
          have K19_20 := (Below.refl (w19.heap.size + 1) (w19.alloc (.cells #[.int .i64 n10, .int .i64 d10] 23))).trans (hb20.mono (by (try simp) <;> omega))
          clear P_19 K5_19 K6_19 K7_19 K8_19 K10_19 K11_19 K13_19 K14_19 K15_19 K17_19 K18_19
          clear hb20
          clear m0 m1 m2 m3 m4 m5 m6 m7 m8 cA18 cB18 hs18
          obtain ⟨m0, m1, m2, m3, m4, m5, m6, m7, m8⟩ := par_cells3 (a := a) (b := b) (c := c) P_20
          go_wp2_with fail
          refine Calls.mono (Add_any a ⟨0, 1⟩ HA.out ⟨(I64_of (by decide) (by decide)), (I64_of (by decide) (by decide))⟩ _) ?_
          rw [Q11.out]
          try simp only [Ra.v]
          rintro e w21 ⟨rfl, hb21⟩
          have z21 : w20.heap.size + 0 ≤ w21.heap.size := by have := hb21.size; (try simp at this); omega
          have P_21 := P_20.trans (hb21.mono (by (try simp) <;> omega))
          have K5_21 := K5_20.trans (hb21.mono (by (try simp) <;> omega))
          have K6_21 := K6_20.trans (hb21.mono (by (try simp) <;> omega))
          have K7_21 := K7_20.trans (hb21.mono (by (try simp) <;> omega))
          have K8_21 := K8_20.trans (hb21.mono (by (try simp) <;> omega))
          have K10_21 := K10_20.trans (hb21.mono (by (try simp) <;> omega))
          have K11_21 := K11_20.trans (hb21.mono (by (try simp) <;> omega))
          have K13_21 := K13_20.trans (hb21.mono (by (try simp) <;> omega))
          have K14_21 := K14_20.trans (hb21.mono (by (try simp) <;> omega))
          have K15_21 := K15_20.trans (hb21.mono (by (try simp) <;> omega))
          have K17_21 := K17_20.trans (hb21.mono (by (try simp) <;> omega))
          have K18_21 := K18_20.trans (hb21.mono (by (try simp) <;> omega))
          have K19_21 := K19_20.trans (hb21.mono (by (try simp) <;> omega))
          clear P_20 K5_20 K6_20 K7_20 K8_20 K10_20 K11_20 K13_20 K14_20 K15_20 K17_20 K18_20 K19_20
          clear hb21
          clear m0 m1 m2 m3 m4 m5 m6 m7 m8
          obtain ⟨m0, m1, m2, m3, m4, m5, m6, m7, m8⟩ := par_cells3 (a := a) (b := b) (c := c) P_21
          go_wp2_with fail
          refine Calls.mono (Mul_any a ⟨1, 1⟩ HA.out ⟨(I64_of (by decide) (by decide)), (I64_of (by decide) (by decide))⟩ _) ?_
          rw [Q12.out]
          try simp only [Ra.v]
          rintro e w22 ⟨rfl, hb22⟩
          have z22 : w21.heap.size + 1 ≤ w22.heap.size := by have := hb22.size; (try simp at this); omega
          have P_22 := (P_21.alloc (by (try simp) <;> omega) (.cells #[.int .i64 a.num, .int .i64 a.den] 23)).trans (hb22.mono (by (try simp) <;> omega))
          have K5_22 := (K5_21.alloc (by (try simp) <;> omega) (.cells #[.int .i64 a.num, .int .i64 a.den] 23)).trans (hb22.mono (by (try simp) <;> omega))
          have K6_22 := (K6_21.alloc (by (try simp) <;> omega) (.cells #[.int .i64 a.num, .int .i64 a.den] 23)).trans (hb22.mono (by (try simp) <;> omega))
          have K7_22 := (K7_21.alloc (by (try simp) <;> omega) (.cells #[.int .i64 a.num, .int .i64 a.den] 23)).trans (hb22.mono (by (try simp) <;> omega))
          have K8_22 := (K8_21.alloc (by (try simp) <;> omega) (.cells #[.int .i64 a.num, .int .i64 a.den] 23)).trans (hb22.mono (by (try simp) <;> omega))
          have K10_22 := (K10_21.alloc (by (try simp) <;> omega) (.cells #[.int .i64 a.num, .int .i64 a.den] 23)).trans (hb22.mono (by (try simp) <;> omega))
          have K11_22 := (K11_21.alloc (by (try simp) <;> omega) (.cells #[.int .i64 a.num, .int .i64 a.den] 23)).trans (hb22.mono (by (try simp) <;> omega))
          have K13_22 := (K13_21.alloc (by (try simp) <;> omega) (.cells #[.int .i64 a.num, .int .i64 a.den] 23)).trans (hb22.mono (by (try simp) <;> omega))
          have K14_22 := (K14_21.alloc (by (try simp) <;> omega) (.cells #[.int .i64 a.num, .int .i64 a.den] 23)).trans (hb22.mono (by (try simp) <;> omega))
          have K15_22 := (K15_21.alloc (by (try simp) <;> omega) (.cells #[.int .i64 a.num, .int .i64 a.den] 23)).trans (hb22.mono (by (try simp) <;> omega))
          have K17_22 := (K17_21.alloc (by (try simp) <;> omega) (.cells #[.int .i64 a.num, .int .i64 a.den] 23)).trans (hb22.mono (by (try simp) <;> omega))
          have K18_22 := (K18_21.alloc (by (try simp) <;> omega) (.cells #[.int .i64 a.num, .int .i64 a.den] 23)).trans (hb22.mono (by (try simp) <;> omega))
          have K19_22 := (K19_21.alloc (by (try simp) <;> omega) (.cells #[.int .i64 a.num, .int .i64 a.den] 23)).trans (hb22.mono (by (try simp) <;> omega))
          have K21_22 := (Below.refl (w21.heap.size + 1) (w21.alloc (.cells #[.int .i64 a.num, .int .i64 a.den] 23))).trans (hb22.mono (by (try simp) <;> omega))
          clear P_21 K5_21 K6_21 K7_21 K8_21 K10_21 K11_21 K13_21 K14_21 K15_21 K17_21 K18_21 K19_21
          clear hb22
          clear m0 m1 m2 m3 m4 m5 m6 m7 m8
          obtain ⟨m0, m1, m2, m3, m4, m5, m6, m7, m8⟩ := par_cells3 (a := a) (b := b) (c := c) P_22
          obtain ⟨_, hc, _, hs21, _⟩ := below_new K21_22
          have cA21 := hc 0
          have cB21 := hc 1
          simp at cA21 cB21
          clear hc
          go_wp2_with fail
          go_ret
          first | exact ⟨rfl, par_end3 (P_22.alloc (by (try simp) <;> omega) _)⟩ | exact ⟨ret_bool (by simp), par_end3 (P_22.alloc (by (try simp) <;> omega) _)⟩
end Go.Proofs.Ytaogcmgbmomilaa
