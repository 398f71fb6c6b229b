/- The chapter's examples hold. -/
import Derived.Test.YtjcojohfimhgdaaPolicyR
namespace Go.Proofs.Ytjcojohfimhgdaa
open Go.RowKit

def ex1 : List Cl := [⟨1, 2, 3, 2⟩, ⟨1, 0, 2, 5⟩]

set_option maxHeartbeats 1000000 in
theorem sane_any (w : World) : Calls Try.prog 10 #[] w fun e w' => e = .returned (.bool true) ∧ Below w.heap.size w w' := by
  go_enter Try.func10, Try.ntmps10
  go_wp2_with fail
  have hR : Reads (w.alloc (.cells #[.int .i64 1, .int .i64 2, .int .i64 3, .int .i64 2, .int .i64 1, .int .i64 0, .int .i64 2, .int .i64 5] 35)) (w.heap.size + 1) (some ⟨w.heap.size, 0, none⟩) 4 Cl.enc ex1 :=
    reads_new w 4 Cl.enc ex1 _ _ (by
      intro i x j v hi hj
      match i, j with
      | 0, 0 | 0, 1 | 0, 2 | 0, 3 | 1, 0 | 1, 1 | 1, 2 | 1, 3 => simp [ex1] at hi; subst hi; simpa [Cl.enc] using hj
      | 0, j + 4 | 1, j + 4 => simp [Cl.enc] at hj
      | i + 2, j => simp [ex1] at hi)
  have G0 : Below (w.heap.size + 1) (w.alloc (.cells #[.int .i64 1, .int .i64 2, .int .i64 3, .int .i64 2, .int .i64 1, .int .i64 0, .int .i64 2, .int .i64 5] 35)) (w.alloc (.cells #[.int .i64 1, .int .i64 2, .int .i64 3, .int .i64 2, .int .i64 1, .int .i64 0, .int .i64 2, .int .i64 5] 35)) := Below.refl _ _
  have z0 : w.heap.size + 1 ≤ (w.alloc (.cells #[.int .i64 1, .int .i64 2, .int .i64 3, .int .i64 2, .int .i64 1, .int .i64 0, .int .i64 2, .int .i64 5] 35)).heap.size := by simp
  have hl : ex1.length ≤ 9223372036854775807 := by decide
  have hB0 : Below w.heap.size w (w.alloc (.cells #[.int .i64 1, .int .i64 2, .int .i64 3, .int .i64 2, .int .i64 1, .int .i64 0, .int .i64 2, .int .i64 5] 35)) := (Below.refl _ _).alloc (Nat.le_refl _) _
  have HB := Lib.hid hB0
  have HR := Lib.hid hR
  clear hB0 hR
  refine (Action_any ex1 (some ⟨w.heap.size, 0, none⟩) 2 1 1 0 10 12 _ ((HR.out.below G0).more z0) hl).mono ?_
  rw [show ActionP ex1 1 1 0 10 12 = (3, 0) from by decide +kernel]
  rintro e w1 ⟨rfl, hb1⟩
  have G1 := G0.trans (hb1.mono z0)
  have z1 : w.heap.size + 1 ≤ w1.heap.size := Nat.le_trans z0 hb1.size
  clear hb1
  go_wp2_with fail
  refine (Action_any ex1 (some ⟨w.heap.size, 0, none⟩) 2 1 1 0 10 15 _ ((HR.out.below G1).more z1) hl).mono ?_
  rw [show ActionP ex1 1 1 0 10 15 = (2, 0) from by decide +kernel]
  rintro e w2 ⟨rfl, hb2⟩
  have G2 := G1.trans (hb2.mono z1)
  have z2 : w.heap.size + 1 ≤ w2.heap.size := Nat.le_trans z1 hb2.size
  clear hb2
  go_wp2_with fail
  refine (Action_any ex1 (some ⟨w.heap.size, 0, none⟩) 2 1 1 0 10 16 _ ((HR.out.below G2).more z2) hl).mono ?_
  rw [show ActionP ex1 1 1 0 10 16 = (1, 0) from by decide +kernel]
  rintro e w3 ⟨rfl, hb3⟩
  have G3 := G2.trans (hb3.mono z2)
  have z3 : w.heap.size + 1 ≤ w3.heap.size := Nat.le_trans z2 hb3.size
  clear hb3
  go_wp2_with fail
  refine (Action_any [] none 0 1 1 0 5 5 _ Reads.nil_ (by decide)).mono ?_
  rw [show ActionP [] 1 1 0 5 5 = (1, 0) from by decide +kernel]
  rintro e w4 ⟨rfl, hb4⟩
  have G4 := G3.trans (hb4.mono z3)
  have z4 : w.heap.size + 1 ≤ w4.heap.size := Nat.le_trans z3 hb4.size
  clear hb4
  go_wp2_with fail
  refine (Action_any [] none 0 0 1 0 5 5 _ Reads.nil_ (by decide)).mono ?_
  rw [show ActionP [] 0 1 0 5 5 = (0, 1) from by decide +kernel]
  rintro e w5 ⟨rfl, hb5⟩
  have G5 := G4.trans (hb5.mono z4)
  have z5 : w.heap.size + 1 ≤ w5.heap.size := Nat.le_trans z4 hb5.size
  clear hb5
  go_wp2_with fail
  refine (Until_any ex1 (some ⟨w.heap.size, 0, none⟩) 2 1 1 0 10 _ ((HR.out.below G5).more z5) hl).mono ?_
  rw [show UntilP ex1 1 1 0 10 = (12, 0) from by decide +kernel]
  rintro e w6 ⟨rfl, hb6⟩
  have G6 := G5.trans (hb6.mono z5)
  have z6 : w.heap.size + 1 ≤ w6.heap.size := Nat.le_trans z5 hb6.size
  clear hb6
  go_wp2_with fail
  refine (Until_any [] none 0 1 1 0 5 _ Reads.nil_ (by decide)).mono ?_
  rw [show UntilP [] 1 1 0 5 = (-1, 0) from by decide +kernel]
  rintro e w7 ⟨rfl, hb7⟩
  have G7 := G6.trans (hb7.mono z6)
  have z7 : w.heap.size + 1 ≤ w7.heap.size := Nat.le_trans z6 hb7.size
  clear hb7
  go_wp2_with fail
  refine (Worse_any 3 1 2 _).mono ?_
  rw [show worseP 3 1 2 = (-1, 0) from by decide +kernel]
  rintro e w8 ⟨rfl, hb8⟩
  have G8 := G7.trans (hb8.mono z7)
  have z8 : w.heap.size + 1 ≤ w8.heap.size := Nat.le_trans z7 hb8.size
  clear hb8
  go_wp2_with fail
  refine (Worse_any 1 1 2 _).mono ?_
  rw [show worseP 1 1 2 = (1, 0) from by decide +kernel]
  rintro e w9 ⟨rfl, hb9⟩
  have G9 := G8.trans (hb9.mono z8)
  have z9 : w.heap.size + 1 ≤ w9.heap.size := Nat.le_trans z8 hb9.size
  clear hb9
  go_wp2_with fail
  refine (Check_any [] none 0 _ Reads.nil_ (by decide)).mono ?_
  rw [show checkP [] = 0 from rfl]
  rintro e w10 ⟨rfl, hb10⟩
  have G10 := G9.trans (hb10.mono z9)
  have z10 : w.heap.size + 1 ≤ w10.heap.size := Nat.le_trans z9 hb10.size
  clear hb10
  go_wp2_with fail
  refine (Check_any [⟨1, 0, 1, 13⟩] (some ⟨w10.heap.size, 0, none⟩) 1 _ ((reads_new w10 4 Cl.enc [⟨1, 0, 1, 13⟩] _ _ (by
      intro i x j v hi hj
      match i, j with
      | 0, 0 | 0, 1 | 0, 2 | 0, 3 => simp at hi; subst hi; simpa [Cl.enc] using hj
      | 0, j + 4 => simp [Cl.enc] at hj
      | i + 1, j => simp at hi)).more (by simp)) (by decide)).mono ?_
  rw [show checkP [⟨1, 0, 1, 13⟩] = 330 from by decide +kernel]
  rintro e w11 ⟨rfl, hb11⟩
  have G11 := (G10.alloc z10 _).trans (hb11.mono (by simp; omega))
  clear hb11
  go_wp2_with fail
  go_ret
  exact ⟨rfl, HB.out.trans (G11.mono (by omega))⟩
end Go.Proofs.Ytjcojohfimhgdaa
