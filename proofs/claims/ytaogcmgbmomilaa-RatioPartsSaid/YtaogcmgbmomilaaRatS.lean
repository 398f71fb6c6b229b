/- The chapter's examples hold. -/
import Derived.Test.YtaogcmgbmomilaaRatI
namespace Go.Proofs.Ytaogcmgbmomilaa
open Go.RowKit Go.Shelf
set_option linter.unusedSimpArgs false
set_option linter.unusedVariables false

set_option maxRecDepth 100000 in
set_option maxHeartbeats 8000000 in
theorem sane_any (w : World) : Calls Try.prog 11 #[] w fun e w' => e = .returned (.bool true) ∧ Below w.heap.size w w' := by
  go_enter Try.func11, Try.ntmps11
  go_wp2_with fail
  refine (New_any 6 (-4) (I64_of (by decide) (by decide)) (I64_of (by decide) (by decide)) _).mono ?_
  rw [show newP 6 (-4) = (⟨-3, 2⟩, 0) from by decide +kernel]
  simp only [Ra.v]
  rintro e w1 ⟨rfl, hb1⟩
  have z1 : w.heap.size + 0 ≤ w1.heap.size := by have := hb1.size; (try simp at this); omega
  have G1 := hb1
  clear hb1
  go_wp2_with fail
  refine (New_any 1 0 (I64_of (by decide) (by decide)) (I64_of (by decide) (by decide)) _).mono ?_
  rw [show newP 1 0 = (⟨0, 0⟩, 1) from by decide +kernel]
  simp only [Ra.v]
  rintro e w2 ⟨rfl, hb2⟩
  have z2 : w1.heap.size + 1 ≤ w2.heap.size := by have := hb2.size; (try simp at this); omega
  have K1_2 := (Below.refl (w1.heap.size + 1) (w1.alloc (.cells #[.int .i64 (-3), .int .i64 (2)] 23))).trans (hb2.mono (by (try simp) <;> omega))
  have G2 := (G1.alloc (by (try simp) <;> omega) (.cells #[.int .i64 (-3), .int .i64 (2)] 23)).trans (hb2.mono (by (try simp) <;> omega))
  clear hb2 G1
  go_wp2_with fail
  refine (New_any 2147483648 2 (I64_of (by decide) (by decide)) (I64_of (by decide) (by decide)) _).mono ?_
  rw [show newP 2147483648 2 = (⟨1073741824, 1⟩, 0) from by decide +kernel]
  simp only [Ra.v]
  rintro e w3 ⟨rfl, hb3⟩
  have z3 : w2.heap.size + 1 ≤ w3.heap.size := by have := hb3.size; (try simp at this); omega
  have K1_3 := (K1_2.alloc (by (try simp) <;> omega) (.cells #[.int .i64 (0), .int .i64 (0)] 23)).trans (hb3.mono (by (try simp) <;> omega))
  have K2_3 := (Below.refl (w2.heap.size + 1) (w2.alloc (.cells #[.int .i64 (0), .int .i64 (0)] 23))).trans (hb3.mono (by (try simp) <;> omega))
  have G3 := (G2.alloc (by (try simp) <;> omega) (.cells #[.int .i64 (0), .int .i64 (0)] 23)).trans (hb3.mono (by (try simp) <;> omega))
  clear hb3 K1_2 G2
  go_wp2_with fail
  refine (New_any 2147483649 2 (I64_of (by decide) (by decide)) (I64_of (by decide) (by decide)) _).mono ?_
  rw [show newP 2147483649 2 = (⟨0, 0⟩, 2) from by decide +kernel]
  simp only [Ra.v]
  rintro e w4 ⟨rfl, hb4⟩
  have z4 : w3.heap.size + 1 ≤ w4.heap.size := by have := hb4.size; (try simp at this); omega
  have K1_4 := (K1_3.alloc (by (try simp) <;> omega) (.cells #[.int .i64 (1073741824), .int .i64 (1)] 23)).trans (hb4.mono (by (try simp) <;> omega))
  have K2_4 := (K2_3.alloc (by (try simp) <;> omega) (.cells #[.int .i64 (1073741824), .int .i64 (1)] 23)).trans (hb4.mono (by (try simp) <;> omega))
  have K3_4 := (Below.refl (w3.heap.size + 1) (w3.alloc (.cells #[.int .i64 (1073741824), .int .i64 (1)] 23))).trans (hb4.mono (by (try simp) <;> omega))
  have G4 := (G3.alloc (by (try simp) <;> omega) (.cells #[.int .i64 (1073741824), .int .i64 (1)] 23)).trans (hb4.mono (by (try simp) <;> omega))
  clear hb4 K1_3 K2_3 G3
  go_wp2_with fail
  refine (New_any 1 2 (I64_of (by decide) (by decide)) (I64_of (by decide) (by decide)) _).mono ?_
  rw [show newP 1 2 = (⟨1, 2⟩, 0) from by decide +kernel]
  simp only [Ra.v]
  rintro e w5 ⟨rfl, hb5⟩
  have z5 : w4.heap.size + 1 ≤ w5.heap.size := by have := hb5.size; (try simp at this); omega
  have K1_5 := (K1_4.alloc (by (try simp) <;> omega) (.cells #[.int .i64 (0), .int .i64 (0)] 23)).trans (hb5.mono (by (try simp) <;> omega))
  have K2_5 := (K2_4.alloc (by (try simp) <;> omega) (.cells #[.int .i64 (0), .int .i64 (0)] 23)).trans (hb5.mono (by (try simp) <;> omega))
  have K3_5 := (K3_4.alloc (by (try simp) <;> omega) (.cells #[.int .i64 (0), .int .i64 (0)] 23)).trans (hb5.mono (by (try simp) <;> omega))
  have K4_5 := (Below.refl (w4.heap.size + 1) (w4.alloc (.cells #[.int .i64 (0), .int .i64 (0)] 23))).trans (hb5.mono (by (try simp) <;> omega))
  have G5 := (G4.alloc (by (try simp) <;> omega) (.cells #[.int .i64 (0), .int .i64 (0)] 23)).trans (hb5.mono (by (try simp) <;> omega))
  clear hb5 K1_4 K2_4 K3_4 G4
  go_wp2_with fail
  refine (New_any 1 3 (I64_of (by decide) (by decide)) (I64_of (by decide) (by decide)) _).mono ?_
  rw [show newP 1 3 = (⟨1, 3⟩, 0) from by decide +kernel]
  simp only [Ra.v]
  rintro e w6 ⟨rfl, hb6⟩
  have z6 : w5.heap.size + 1 ≤ w6.heap.size := by have := hb6.size; (try simp at this); omega
  have K1_6 := (K1_5.alloc (by (try simp) <;> omega) (.cells #[.int .i64 (1), .int .i64 (2)] 23)).trans (hb6.mono (by (try simp) <;> omega))
  have K2_6 := (K2_5.alloc (by (try simp) <;> omega) (.cells #[.int .i64 (1), .int .i64 (2)] 23)).trans (hb6.mono (by (try simp) <;> omega))
  have K3_6 := (K3_5.alloc (by (try simp) <;> omega) (.cells #[.int .i64 (1), .int .i64 (2)] 23)).trans (hb6.mono (by (try simp) <;> omega))
  have K4_6 := (K4_5.alloc (by (try simp) <;> omega) (.cells #[.int .i64 (1), .int .i64 (2)] 23)).trans (hb6.mono (by (try simp) <;> omega))
  have K5_6 := (Below.refl (w5.heap.size + 1) (w5.alloc (.cells #[.int .i64 (1), .int .i64 (2)] 23))).trans (hb6.mono (by (try simp) <;> omega))
  have G6 := (G5.alloc (by (try simp) <;> omega) (.cells #[.int .i64 (1), .int .i64 (2)] 23)).trans (hb6.mono (by (try simp) <;> omega))
  clear hb6 K1_5 K2_5 K3_5 K4_5 G5
  obtain ⟨_, hc5, _, hs5, _⟩ := below_new K5_6
  have cA5 := hc5 0
  have cB5 := hc5 1
  simp at cA5 cB5
  clear hc5
  go_wp2_with fail
  refine (Add_any ⟨1, 2⟩ ⟨1, 3⟩ ⟨(I64_of (by decide) (by decide)), (I64_of (by decide) (by decide))⟩ ⟨(I64_of (by decide) (by decide)), (I64_of (by decide) (by decide))⟩ _).mono ?_
  rw [show addP ⟨1, 2⟩ ⟨1, 3⟩ = (⟨5, 6⟩, 0) from by decide +kernel]
  simp only [Ra.v]
  rintro e w7 ⟨rfl, hb7⟩
  have z7 : w6.heap.size + 1 ≤ w7.heap.size := by have := hb7.size; (try simp at this); omega
  have K1_7 := (K1_6.alloc (by (try simp) <;> omega) (.cells #[.int .i64 (1), .int .i64 (3)] 23)).trans (hb7.mono (by (try simp) <;> omega))
  have K2_7 := (K2_6.alloc (by (try simp) <;> omega) (.cells #[.int .i64 (1), .int .i64 (3)] 23)).trans (hb7.mono (by (try simp) <;> omega))
  have K3_7 := (K3_6.alloc (by (try simp) <;> omega) (.cells #[.int .i64 (1), .int .i64 (3)] 23)).trans (hb7.mono (by (try simp) <;> omega))
  have K4_7 := (K4_6.alloc (by (try simp) <;> omega) (.cells #[.int .i64 (1), .int .i64 (3)] 23)).trans (hb7.mono (by (try simp) <;> omega))
  have K5_7 := (K5_6.alloc (by (try simp) <;> omega) (.cells #[.int .i64 (1), .int .i64 (3)] 23)).trans (hb7.mono (by (try simp) <;> omega))
  have K6_7 := (Below.refl (w6.heap.size + 1) (w6.alloc (.cells #[.int .i64 (1), .int .i64 (3)] 23))).trans (hb7.mono (by (try simp) <;> omega))
  have G7 := (G6.alloc (by (try simp) <;> omega) (.cells #[.int .i64 (1), .int .i64 (3)] 23)).trans (hb7.mono (by (try simp) <;> omega))
  clear cA5 cB5 hs5
  clear hb7 K1_6 K2_6 K3_6 K4_6 K5_6 G6
  obtain ⟨_, hc5, _, hs5, _⟩ := below_new K5_7
  have cA5 := hc5 0
  have cB5 := hc5 1
  simp at cA5 cB5
  clear hc5
  obtain ⟨_, hc6, _, hs6, _⟩ := below_new K6_7
  have cA6 := hc6 0
  have cB6 := hc6 1
  simp at cA6 cB6
  clear hc6
  go_wp2_with fail
  refine (Mul_any ⟨1, 2⟩ ⟨1, 3⟩ ⟨(I64_of (by decide) (by decide)), (I64_of (by decide) (by decide))⟩ ⟨(I64_of (by decide) (by decide)), (I64_of (by decide) (by decide))⟩ _).mono ?_
  rw [show mulP ⟨1, 2⟩ ⟨1, 3⟩ = (⟨1, 6⟩, 0) from by decide +kernel]
  simp only [Ra.v]
  rintro e w8 ⟨rfl, hb8⟩
  have z8 : w7.heap.size + 1 ≤ w8.heap.size := by have := hb8.size; (try simp at this); omega
  have K1_8 := (K1_7.alloc (by (try simp) <;> omega) (.cells #[.int .i64 (5), .int .i64 (6)] 23)).trans (hb8.mono (by (try simp) <;> omega))
  have K2_8 := (K2_7.alloc (by (try simp) <;> omega) (.cells #[.int .i64 (5), .int .i64 (6)] 23)).trans (hb8.mono (by (try simp) <;> omega))
  have K3_8 := (K3_7.alloc (by (try simp) <;> omega) (.cells #[.int .i64 (5), .int .i64 (6)] 23)).trans (hb8.mono (by (try simp) <;> omega))
  have K4_8 := (K4_7.alloc (by (try simp) <;> omega) (.cells #[.int .i64 (5), .int .i64 (6)] 23)).trans (hb8.mono (by (try simp) <;> omega))
  have K5_8 := (K5_7.alloc (by (try simp) <;> omega) (.cells #[.int .i64 (5), .int .i64 (6)] 23)).trans (hb8.mono (by (try simp) <;> omega))
  have K6_8 := (K6_7.alloc (by (try simp) <;> omega) (.cells #[.int .i64 (5), .int .i64 (6)] 23)).trans (hb8.mono (by (try simp) <;> omega))
  have K7_8 := (Below.refl (w7.heap.size + 1) (w7.alloc (.cells #[.int .i64 (5), .int .i64 (6)] 23))).trans (hb8.mono (by (try simp) <;> omega))
  have G8 := (G7.alloc (by (try simp) <;> omega) (.cells #[.int .i64 (5), .int .i64 (6)] 23)).trans (hb8.mono (by (try simp) <;> omega))
  clear cA5 cB5 hs5
  clear cA6 cB6 hs6
  clear hb8 K1_7 K2_7 K3_7 K4_7 K5_7 K6_7 G7
  obtain ⟨_, hc5, _, hs5, _⟩ := below_new K5_8
  have cA5 := hc5 0
  have cB5 := hc5 1
  simp at cA5 cB5
  clear hc5
  obtain ⟨_, hc6, _, hs6, _⟩ := below_new K6_8
  have cA6 := hc6 0
  have cB6 := hc6 1
  simp at cA6 cB6
  clear hc6
  go_wp2_with fail
  refine (RaCompare_any ⟨1, 2⟩ ⟨1, 3⟩ ⟨(I64_of (by decide) (by decide)), (I64_of (by decide) (by decide))⟩ ⟨(I64_of (by decide) (by decide)), (I64_of (by decide) (by decide))⟩ _).mono ?_
  rw [show cmpP ⟨1, 2⟩ ⟨1, 3⟩ = (1, 0) from by decide +kernel]
  simp only [Ra.v]
  rintro e w9 ⟨rfl, hb9⟩
  have z9 : w8.heap.size + 1 ≤ w9.heap.size := by have := hb9.size; (try simp at this); omega
  have K1_9 := (K1_8.alloc (by (try simp) <;> omega) (.cells #[.int .i64 (1), .int .i64 (6)] 23)).trans (hb9.mono (by (try simp) <;> omega))
  have K2_9 := (K2_8.alloc (by (try simp) <;> omega) (.cells #[.int .i64 (1), .int .i64 (6)] 23)).trans (hb9.mono (by (try simp) <;> omega))
  have K3_9 := (K3_8.alloc (by (try simp) <;> omega) (.cells #[.int .i64 (1), .int .i64 (6)] 23)).trans (hb9.mono (by (try simp) <;> omega))
  have K4_9 := (K4_8.alloc (by (try simp) <;> omega) (.cells #[.int .i64 (1), .int .i64 (6)] 23)).trans (hb9.mono (by (try simp) <;> omega))
  have K5_9 := (K5_8.alloc (by (try simp) <;> omega) (.cells #[.int .i64 (1), .int .i64 (6)] 23)).trans (hb9.mono (by (try simp) <;> omega))
  have K6_9 := (K6_8.alloc (by (try simp) <;> omega) (.cells #[.int .i64 (1), .int .i64 (6)] 23)).trans (hb9.mono (by (try simp) <;> omega))
  have K7_9 := (K7_8.alloc (by (try simp) <;> omega) (.cells #[.int .i64 (1), .int .i64 (6)] 23)).trans (hb9.mono (by (try simp) <;> omega))
  have K8_9 := (Below.refl (w8.heap.size + 1) (w8.alloc (.cells #[.int .i64 (1), .int .i64 (6)] 23))).trans (hb9.mono (by (try simp) <;> omega))
  have G9 := (G8.alloc (by (try simp) <;> omega) (.cells #[.int .i64 (1), .int .i64 (6)] 23)).trans (hb9.mono (by (try simp) <;> omega))
  clear cA5 cB5 hs5
  clear cA6 cB6 hs6
  clear hb9 K1_8 K2_8 K3_8 K4_8 K5_8 K6_8 K7_8 G8
  obtain ⟨_, hc5, _, hs5, _⟩ := below_new K5_9
  have cA5 := hc5 0
  have cB5 := hc5 1
  simp at cA5 cB5
  clear hc5
  obtain ⟨_, hc6, _, hs6, _⟩ := below_new K6_9
  have cA6 := hc6 0
  have cB6 := hc6 1
  simp at cA6 cB6
  clear hc6
  go_wp2_with fail
  skip
  refine (Mean_any [1, 4] [2, 1] _ _ _ _ _ ?_ ?_ (by decide)).mono ?_
  · exact ((reads_ints w9 w9.heap.size rfl [1, 4] #[.int .i64 1, .int .i64 4] 3 rfl).alloc (by simp) _).more (by simp)
  · exact (reads_ints (w9.alloc _) (w9.heap.size + 1) (by simp) [2, 1] #[.int .i64 2, .int .i64 1] 3 rfl).more (by simp)
  rw [show meanP [1, 4] [2, 1] = (⟨2, 1⟩, 0) from by decide +kernel]
  simp only [Ra.v]
  rintro e w10 ⟨rfl, hb10⟩
  have z10 : w9.heap.size + 2 ≤ w10.heap.size := by have := hb10.size; (try simp at this); omega
  have K1_10 := ((K1_9.alloc (by (try simp) <;> omega) (.cells #[.int .i64 1, .int .i64 4] 3)).alloc (by (try simp) <;> omega) (.cells #[.int .i64 2, .int .i64 1] 3)).trans (hb10.mono (by (try simp) <;> omega))
  have K2_10 := ((K2_9.alloc (by (try simp) <;> omega) (.cells #[.int .i64 1, .int .i64 4] 3)).alloc (by (try simp) <;> omega) (.cells #[.int .i64 2, .int .i64 1] 3)).trans (hb10.mono (by (try simp) <;> omega))
  have K3_10 := ((K3_9.alloc (by (try simp) <;> omega) (.cells #[.int .i64 1, .int .i64 4] 3)).alloc (by (try simp) <;> omega) (.cells #[.int .i64 2, .int .i64 1] 3)).trans (hb10.mono (by (try simp) <;> omega))
  have K4_10 := ((K4_9.alloc (by (try simp) <;> omega) (.cells #[.int .i64 1, .int .i64 4] 3)).alloc (by (try simp) <;> omega) (.cells #[.int .i64 2, .int .i64 1] 3)).trans (hb10.mono (by (try simp) <;> omega))
  have K5_10 := ((K5_9.alloc (by (try simp) <;> omega) (.cells #[.int .i64 1, .int .i64 4] 3)).alloc (by (try simp) <;> omega) (.cells #[.int .i64 2, .int .i64 1] 3)).trans (hb10.mono (by (try simp) <;> omega))
  have K6_10 := ((K6_9.alloc (by (try simp) <;> omega) (.cells #[.int .i64 1, .int .i64 4] 3)).alloc (by (try simp) <;> omega) (.cells #[.int .i64 2, .int .i64 1] 3)).trans (hb10.mono (by (try simp) <;> omega))
  have K7_10 := ((K7_9.alloc (by (try simp) <;> omega) (.cells #[.int .i64 1, .int .i64 4] 3)).alloc (by (try simp) <;> omega) (.cells #[.int .i64 2, .int .i64 1] 3)).trans (hb10.mono (by (try simp) <;> omega))
  have K8_10 := ((K8_9.alloc (by (try simp) <;> omega) (.cells #[.int .i64 1, .int .i64 4] 3)).alloc (by (try simp) <;> omega) (.cells #[.int .i64 2, .int .i64 1] 3)).trans (hb10.mono (by (try simp) <;> omega))
  have G10 := ((G9.alloc (by (try simp) <;> omega) (.cells #[.int .i64 1, .int .i64 4] 3)).alloc (by (try simp) <;> omega) (.cells #[.int .i64 2, .int .i64 1] 3)).trans (hb10.mono (by (try simp) <;> omega))
  clear cA5 cB5 hs5
  clear cA6 cB6 hs6
  clear hb10 K1_9 K2_9 K3_9 K4_9 K5_9 K6_9 K7_9 K8_9 G9
  obtain ⟨_, hc5, _, hs5, _⟩ := below_new K5_10
  have cA5 := hc5 0
  have cB5 := hc5 1
  simp at cA5 cB5
  clear hc5
  obtain ⟨_, hc6, _, hs6, _⟩ := below_new K6_10
  have cA6 := hc6 0
  have cB6 := hc6 1
  simp at cA6 cB6
  clear hc6
  go_wp2_with fail
  refine (Mean_any [] [] none none 0 0 _ Reads.nil_ Reads.nil_ (by decide)).mono ?_
  rw [show meanP [] [] = (⟨0, 1⟩, 0) from by decide +kernel]
  simp only [Ra.v]
  rintro e w11 ⟨rfl, hb11⟩
  have z11 : w10.heap.size + 1 ≤ w11.heap.size := by have := hb11.size; (try simp at this); omega
  have K1_11 := (K1_10.alloc (by (try simp) <;> omega) (.cells #[.int .i64 (2), .int .i64 (1)] 23)).trans (hb11.mono (by (try simp) <;> omega))
  have K2_11 := (K2_10.alloc (by (try simp) <;> omega) (.cells #[.int .i64 (2), .int .i64 (1)] 23)).trans (hb11.mono (by (try simp) <;> omega))
  have K3_11 := (K3_10.alloc (by (try simp) <;> omega) (.cells #[.int .i64 (2), .int .i64 (1)] 23)).trans (hb11.mono (by (try simp) <;> omega))
  have K4_11 := (K4_10.alloc (by (try simp) <;> omega) (.cells #[.int .i64 (2), .int .i64 (1)] 23)).trans (hb11.mono (by (try simp) <;> omega))
  have K5_11 := (K5_10.alloc (by (try simp) <;> omega) (.cells #[.int .i64 (2), .int .i64 (1)] 23)).trans (hb11.mono (by (try simp) <;> omega))
  have K6_11 := (K6_10.alloc (by (try simp) <;> omega) (.cells #[.int .i64 (2), .int .i64 (1)] 23)).trans (hb11.mono (by (try simp) <;> omega))
  have K7_11 := (K7_10.alloc (by (try simp) <;> omega) (.cells #[.int .i64 (2), .int .i64 (1)] 23)).trans (hb11.mono (by (try simp) <;> omega))
  have K8_11 := (K8_10.alloc (by (try simp) <;> omega) (.cells #[.int .i64 (2), .int .i64 (1)] 23)).trans (hb11.mono (by (try simp) <;> omega))
  have K10_11 := (Below.refl (w10.heap.size + 1) (w10.alloc (.cells #[.int .i64 (2), .int .i64 (1)] 23))).trans (hb11.mono (by (try simp) <;> omega))
  have G11 := (G10.alloc (by (try simp) <;> omega) (.cells #[.int .i64 (2), .int .i64 (1)] 23)).trans (hb11.mono (by (try simp) <;> omega))
  clear cA5 cB5 hs5
  clear cA6 cB6 hs6
  clear hb11 K1_10 K2_10 K3_10 K4_10 K5_10 K6_10 K7_10 K8_10 G10
  obtain ⟨_, hc1, _, hs1, _⟩ := below_new K1_11
  have cA1 := hc1 0
  have cB1 := hc1 1
  simp at cA1 cB1
  clear hc1
  obtain ⟨_, hc2, _, hs2, _⟩ := below_new K2_11
  have cA2 := hc2 0
  have cB2 := hc2 1
  simp at cA2 cB2
  clear hc2
  obtain ⟨_, hc3, _, hs3, _⟩ := below_new K3_11
  have cA3 := hc3 0
  have cB3 := hc3 1
  simp at cA3 cB3
  clear hc3
  obtain ⟨_, hc4, _, hs4, _⟩ := below_new K4_11
  have cA4 := hc4 0
  have cB4 := hc4 1
  simp at cA4 cB4
  clear hc4
  obtain ⟨_, hc5, _, hs5, _⟩ := below_new K5_11
  have cA5 := hc5 0
  have cB5 := hc5 1
  simp at cA5 cB5
  clear hc5
  obtain ⟨_, hc6, _, hs6, _⟩ := below_new K6_11
  have cA6 := hc6 0
  have cB6 := hc6 1
  simp at cA6 cB6
  clear hc6
  obtain ⟨_, hc7, _, hs7, _⟩ := below_new K7_11
  have cA7 := hc7 0
  have cB7 := hc7 1
  simp at cA7 cB7
  clear hc7
  obtain ⟨_, hc8, _, hs8, _⟩ := below_new K8_11
  have cA8 := hc8 0
  have cB8 := hc8 1
  simp at cA8 cB8
  clear hc8
  obtain ⟨_, hc10, _, hs10, _⟩ := below_new K10_11
  have cA10 := hc10 0
  have cB10 := hc10 1
  simp at cA10 cB10
  clear hc10
  go_wp2_with fail
  refine (Check_any ⟨1, 2⟩ ⟨(I64_of (by decide) (by decide)), (I64_of (by decide) (by decide))⟩ _).mono ?_
  rw [show checkR ⟨1, 2⟩ = 0 from by decide +kernel]
  rintro e w12 ⟨rfl, hb12⟩
  go_wp2_with fail
  refine (Check_any ⟨0, 0⟩ ⟨(I64_of (by decide) (by decide)), (I64_of (by decide) (by decide))⟩ _).mono ?_
  rw [show checkR ⟨0, 0⟩ = 50 from by decide +kernel]
  rintro e w13 ⟨rfl, hb13⟩
  have G12 := (G11.alloc (by (try simp) <;> omega) (.cells #[.int .i64 (0), .int .i64 (1)] 23)).trans (hb12.mono (by (try simp) <;> omega))
  have G13 := G12.trans (hb13.mono G12.size)
  go_wp2_with fail
  go_ret
  exact ⟨rfl, G13⟩
end Go.Proofs.Ytaogcmgbmomilaa
