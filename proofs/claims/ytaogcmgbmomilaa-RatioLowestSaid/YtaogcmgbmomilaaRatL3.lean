/- RatioLowest, walked. -/
import Derived.Test.YtaogcmgbmomilaaRatL2
namespace Go.Proofs.Ytaogcmgbmomilaa
open Go.RowKit Go.Shelf
set_option linter.unusedSimpArgs false
set_option linter.unusedVariables false

theorem abs_mul {x y : Int} {A B : Nat} (h1 : x.natAbs ≤ A) (h2 : y.natAbs ≤ B) : (x * y).natAbs ≤ A * B := by
  rw [Int.natAbs_mul]; exact Nat.mul_le_mul h1 h2

set_option maxHeartbeats 8000000 in
theorem RatioLowest_any {w : World} (n : Int) (wn : (Lit.int .i32 n).wf = true) (d : Int) (wd : (Lit.int .i32 d).wf = true) (k : Int) (wk : (Lit.int .i16 k).wf = true) :
    Calls Try.prog 8 #[.int .i32 n, .int .i32 d, .int .i16 k] w fun e w' => e = .returned (.bool true) ∧ Below w.heap.size w w' := by
  obtain ⟨n0, n1⟩ := bounds_i32 wn
  obtain ⟨d0, d1⟩ := bounds_i32 wd
  obtain ⟨k0, k1⟩ := bounds_i16 wk
  clear wn wd wk
  by_cases hd : d = 0
  · have q1 : (d == 0) = true := by simpa using hd
    clear hd
    go_enter Try.func8, Try.ntmps8
    go_wp2_with fail
    refine Calls.mono (sane_any _) ?_
    try simp only [Ra.v]
    rintro e w1 ⟨rfl, hb1⟩
    have P_1 := (Below.refl (w.heap.size + 0) w).trans (hb1.mono (by (try simp) <;> omega))
    have z1 : w.heap.size + 0 ≤ w1.heap.size := by have := hb1.size; (try simp at this); omega
    clear hb1
    go_wp2_with fail
    refine Calls.mono (New_any n 0 (I64_of (by omega) (by omega)) (I64_of (by decide) (by decide)) _) ?_
    rw [newP_zero]
    try simp only [Ra.v]
    rintro e w2 ⟨rfl, hb2⟩
    have z2 : w1.heap.size + 0 ≤ w2.heap.size := by have := hb2.size; (try simp at this); omega
    have P_2 := P_1.trans (hb2.mono (by (try simp) <;> omega))
    clear P_1 
    clear hb2
    go_wp2_with fail
    go_ret
    exact ⟨rfl, P_2.alloc (by (try simp) <;> omega) _⟩
  · have q1 : (d == 0) = false := by simpa using hd
    by_cases hk : k = 0
    · have q2 : (k == 0) = true := by simpa using hk
      clear hd hk
      go_enter Try.func8, Try.ntmps8
      go_wp2_with fail
      refine Calls.mono (sane_any _) ?_
      try simp only [Ra.v]
      rintro e w1 ⟨rfl, hb1⟩
      have P_1 := (Below.refl (w.heap.size + 0) w).trans (hb1.mono (by (try simp) <;> omega))
      have z1 : w.heap.size + 0 ≤ w1.heap.size := by have := hb1.size; (try simp at this); omega
      clear hb1
      go_wp2_with fail
      refine Calls.mono (New_any n 0 (I64_of (by omega) (by omega)) (I64_of (by decide) (by decide)) _) ?_
      rw [newP_zero]
      try simp only [Ra.v]
      rintro e w2 ⟨rfl, hb2⟩
      have z2 : w1.heap.size + 0 ≤ w2.heap.size := by have := hb2.size; (try simp at this); omega
      have P_2 := P_1.trans (hb2.mono (by (try simp) <;> omega))
      clear P_1 
      clear hb2
      go_wp2_with fail
      go_ret
      exact ⟨rfl, P_2.alloc (by (try simp) <;> omega) _⟩
    · have q2 : (k == 0) = false := by simpa using hk
      obtain ⟨P, hP⟩ : ∃ P, n * k = P := ⟨_, rfl⟩
      obtain ⟨Q, hQ⟩ : ∃ Q, d * k = Q := ⟨_, rfl⟩
      have bP := abs_mul (x := n) (y := k) (A := 2147483648) (B := 32768) (by omega) (by omega)
      have bQ := abs_mul (x := d) (y := k) (A := 2147483648) (B := 32768) (by omega) (by omega)
      rw [hP] at bP
      rw [hQ] at bQ
      have hQ0 : Q ≠ 0 := by
        intro h
        rw [← hQ] at h
        rcases Int.mul_eq_zero.1 h with h | h
        · exact hd h
        · exact hk h
      have s1 : newP P Q = newP n d := newP_same hQ0 hd (by rw [← hP, ← hQ]; grind)
      have s2 : newP (-n) (-d) = newP n d := newP_same (by omega) hd (by grind)
      rcases newP_cases n d with ⟨⟨rn, rd⟩, hr, hok, _, he⟩ | ⟨_, h⟩ | ⟨hr, _⟩
      · have hself := newP_self hok
        have hch := checkR_ok hok
        obtain ⟨o1, o2, o3, o4, _⟩ := hok
        simp only at he hself o1 o2 o3 o4
        obtain ⟨S, hS⟩ : ∃ S, rn * d = S := ⟨_, rfl⟩
        have hS2 : n * rd = S := by rw [← hS]; exact he.symm
        have bS := abs_mul (x := rn) (y := d) (A := 1073741824) (B := 2147483648) (by omega) (by omega)
        rw [hS] at bS
        rw [hr] at s1 s2
        have R0 := Lib.hid hr
        have R1 := Lib.hid s1
        have R2 := Lib.hid s2
        have R3 := Lib.hid hself
        have R4 := Lib.hid hch
        clear hr s1 s2 hself hch he hd hk hQ0
        go_enter Try.func8, Try.ntmps8
        go_wp2_with fail
        refine Calls.mono (sane_any _) ?_
        try simp only [Ra.v]
        rintro e w1 ⟨rfl, hb1⟩
        have P_1 := (Below.refl (w.heap.size + 0) w).trans (hb1.mono (by (try simp) <;> omega))
        have z1 : w.heap.size + 0 ≤ w1.heap.size := by have := hb1.size; (try simp at this); omega
        clear hb1
        go_wp2_with fail
        refine Calls.mono (New_any n d (I64_of (by omega) (by omega)) (I64_of (by omega) (by omega)) _) ?_
        rw [R0.out]
        try simp only [Ra.v]
        rintro e w2 ⟨rfl, hb2⟩
        have z2 : w1.heap.size + 0 ≤ w2.heap.size := by have := hb2.size; (try simp at this); omega
        have P_2 := P_1.trans (hb2.mono (by (try simp) <;> omega))
        clear P_1 
        clear hb2
        go_wp2_with fail
        refine Calls.mono (New_any P Q (I64_of (by omega) (by omega)) (I64_of (by omega) (by omega)) _) ?_
        rw [R1.out]
        try simp only [Ra.v]
        rintro e w3 ⟨rfl, hb3⟩
        have z3 : w2.heap.size + 1 ≤ w3.heap.size := by have := hb3.size; (try simp at this); omega
        have P_3 := (P_2.alloc (by (try simp) <;> omega) (.cells #[.int .i64 rn, .int .i64 rd] 23)).trans (hb3.mono (by (try simp) <;> omega))
        have K2_3 := (Below.refl (w2.heap.size + 1) (w2.alloc (.cells #[.int .i64 rn, .int .i64 rd] 23))).trans (hb3.mono (by (try simp) <;> omega))
        clear P_2 
        clear hb3
        go_wp2_with fail
        refine Calls.mono (New_any (-n) (-d) (I64_of (by omega) (by omega)) (I64_of (by omega) (by omega)) _) ?_
        rw [R2.out]
        try simp only [Ra.v]
        rintro e w4 ⟨rfl, hb4⟩
        have z4 : w3.heap.size + 1 ≤ w4.heap.size := by have := hb4.size; (try simp at this); omega
        have P_4 := (P_3.alloc (by (try simp) <;> omega) (.cells #[.int .i64 rn, .int .i64 rd] 23)).trans (hb4.mono (by (try simp) <;> omega))
        have K2_4 := (K2_3.alloc (by (try simp) <;> omega) (.cells #[.int .i64 rn, .int .i64 rd] 23)).trans (hb4.mono (by (try simp) <;> omega))
        have K3_4 := (Below.refl (w3.heap.size + 1) (w3.alloc (.cells #[.int .i64 rn, .int .i64 rd] 23))).trans (hb4.mono (by (try simp) <;> omega))
        clear P_3 K2_3
        clear hb4
        obtain ⟨_, hc, _, hs2, _⟩ := below_new K2_4
        have cA2 := hc 0
        have cB2 := hc 1
        simp at cA2 cB2
        clear hc
        obtain ⟨_, hc, _, hs3, _⟩ := below_new K3_4
        have cA3 := hc 0
        have cB3 := hc 1
        simp at cA3 cB3
        clear hc
        go_wp2_with fail
        refine Calls.mono (New_any rn rd (I64_of (by omega) (by omega)) (I64_of (by omega) (by omega)) _) ?_
        rw [R3.out]
        try simp only [Ra.v]
        rintro e w5 ⟨rfl, hb5⟩
        have z5 : w4.heap.size + 1 ≤ w5.heap.size := by have := hb5.size; (try simp at this); omega
        have P_5 := (P_4.alloc (by (try simp) <;> omega) (.cells #[.int .i64 rn, .int .i64 rd] 23)).trans (hb5.mono (by (try simp) <;> omega))
        have K2_5 := (K2_4.alloc (by (try simp) <;> omega) (.cells #[.int .i64 rn, .int .i64 rd] 23)).trans (hb5.mono (by (try simp) <;> omega))
        have K3_5 := (K3_4.alloc (by (try simp) <;> omega) (.cells #[.int .i64 rn, .int .i64 rd] 23)).trans (hb5.mono (by (try simp) <;> omega))
        have K4_5 := (Below.refl (w4.heap.size + 1) (w4.alloc (.cells #[.int .i64 rn, .int .i64 rd] 23))).trans (hb5.mono (by (try simp) <;> omega))
        clear P_4 K2_4 K3_4
        clear hb5
        clear cA2 cB2 hs2 cA3 cB3 hs3
        obtain ⟨_, hc, _, hs2, _⟩ := below_new K2_5
        have cA2 := hc 0
        have cB2 := hc 1
        simp at cA2 cB2
        clear hc
        obtain ⟨_, hc, _, hs3, _⟩ := below_new K3_5
        have cA3 := hc 0
        have cB3 := hc 1
        simp at cA3 cB3
        clear hc
        obtain ⟨_, hc, _, hs4, _⟩ := below_new K4_5
        have cA4 := hc 0
        have cB4 := hc 1
        simp at cA4 cB4
        clear hc
        go_wp2_with fail
        refine Calls.mono (Check2 rn rd (I64_of (by omega) (by omega)) (I64_of (by omega) (by omega)) _) ?_
        rw [R4.out]
        rintro e w9 ⟨rfl, hb9⟩
        go_wp2_with fail
        go_ret
        first | exact ⟨rfl, (P_5.alloc (by (try simp) <;> omega) _).trans (hb9.mono (by (try simp) <;> omega))⟩ | exact ⟨ret_bool (by simp), (P_5.alloc (by (try simp) <;> omega) _).trans (hb9.mono (by (try simp) <;> omega))⟩
      · exact absurd h hd
      · rw [hr] at s1 s2
        have R0 := Lib.hid hr
        have R1 := Lib.hid s1
        have R2 := Lib.hid s2
        clear hr s1 s2 hd hk hQ0
        go_enter Try.func8, Try.ntmps8
        go_wp2_with fail
        refine Calls.mono (sane_any _) ?_
        try simp only [Ra.v]
        rintro e w1 ⟨rfl, hb1⟩
        have P_1 := (Below.refl (w.heap.size + 0) w).trans (hb1.mono (by (try simp) <;> omega))
        have z1 : w.heap.size + 0 ≤ w1.heap.size := by have := hb1.size; (try simp at this); omega
        clear hb1
        go_wp2_with fail
        refine Calls.mono (New_any n d (I64_of (by omega) (by omega)) (I64_of (by omega) (by omega)) _) ?_
        rw [R0.out]
        try simp only [Ra.v]
        rintro e w2 ⟨rfl, hb2⟩
        have z2 : w1.heap.size + 0 ≤ w2.heap.size := by have := hb2.size; (try simp at this); omega
        have P_2 := P_1.trans (hb2.mono (by (try simp) <;> omega))
        clear P_1 
        clear hb2
        go_wp2_with fail
        refine Calls.mono (New_any P Q (I64_of (by omega) (by omega)) (I64_of (by omega) (by omega)) _) ?_
        rw [R1.out]
        try simp only [Ra.v]
        rintro e w3 ⟨rfl, hb3⟩
        have z3 : w2.heap.size + 1 ≤ w3.heap.size := by have := hb3.size; (try simp at this); omega
        have P_3 := (P_2.alloc (by (try simp) <;> omega) (.cells #[.int .i64 0, .int .i64 0] 23)).trans (hb3.mono (by (try simp) <;> omega))
        have K2_3 := (Below.refl (w2.heap.size + 1) (w2.alloc (.cells #[.int .i64 0, .int .i64 0] 23))).trans (hb3.mono (by (try simp) <;> omega))
        clear P_2 
        clear hb3
        go_wp2_with fail
        refine Calls.mono (New_any (-n) (-d) (I64_of (by omega) (by omega)) (I64_of (by omega) (by omega)) _) ?_
        rw [R2.out]
        try simp only [Ra.v]
        rintro e w4 ⟨rfl, hb4⟩
        have z4 : w3.heap.size + 1 ≤ w4.heap.size := by have := hb4.size; (try simp at this); omega
        have P_4 := (P_3.alloc (by (try simp) <;> omega) (.cells #[.int .i64 0, .int .i64 0] 23)).trans (hb4.mono (by (try simp) <;> omega))
        have K2_4 := (K2_3.alloc (by (try simp) <;> omega) (.cells #[.int .i64 0, .int .i64 0] 23)).trans (hb4.mono (by (try simp) <;> omega))
        have K3_4 := (Below.refl (w3.heap.size + 1) (w3.alloc (.cells #[.int .i64 0, .int .i64 0] 23))).trans (hb4.mono (by (try simp) <;> omega))
        clear P_3 K2_3
        clear hb4
        obtain ⟨_, hc, _, hs2, _⟩ := below_new K2_4
        have cA2 := hc 0
        have cB2 := hc 1
        simp at cA2 cB2
        clear hc
        obtain ⟨_, hc, _, hs3, _⟩ := below_new K3_4
        have cA3 := hc 0
        have cB3 := hc 1
        simp at cA3 cB3
        clear hc
        go_wp2_with fail
        go_ret
        first | exact ⟨rfl, P_4.alloc (by (try simp) <;> omega) _⟩ | exact ⟨ret_bool (by simp), P_4.alloc (by (try simp) <;> omega) _⟩
end Go.Proofs.Ytaogcmgbmomilaa
