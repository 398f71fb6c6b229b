/- The reference's Sums. -/
import Derived.Test.YtimaealmmjdjkaaAvgC
namespace Go.Proofs.Ytimaealmmjdjkaa
open Go.RowKit Go.Shelf
set_option linter.unusedSimpArgs false
set_option linter.unusedVariables false

def sC : List At → Int
  | [] => 0
  | x :: l => x.credits + sC l
def sP : List At → Int
  | [] => 0
  | x :: l => x.grade * x.credits + sP l
theorem sC_snoc (x : At) : ∀ l, sC (l ++ [x]) = sC l + x.credits
  | [] => by simp [sC]
  | y :: l => by simp only [List.cons_append, sC, sC_snoc x l]; omega
theorem sP_snoc (x : At) : ∀ l, sP (l ++ [x]) = sP l + x.grade * x.credits
  | [] => by simp [sP]
  | y :: l => by simp only [List.cons_append, sP, sP_snoc x l]; omega
theorem good_at {x : At} (h : x.good = true) : 0 ≤ x.grade ∧ x.grade ≤ 12 ∧ 0 ≤ x.credits ∧ x.credits ≤ 60 ∧ 0 ≤ x.grade * x.credits ∧ x.grade * x.credits ≤ 720 := by
  simp [At.good, inB] at h
  obtain ⟨_, _, ⟨g0, g1⟩, _, c0, c1⟩ := h
  have h1 : x.grade.natAbs ≤ 12 := by omega
  have h2 : x.credits.natAbs ≤ 60 := by omega
  have h3 : (x.grade * x.credits).natAbs ≤ 12 * 60 := by rw [Int.natAbs_mul]; exact Nat.mul_le_mul h1 h2
  have h4 : 0 ≤ x.grade * x.credits := Int.mul_nonneg g0 c0
  omega
theorem sums_at : ∀ l : List At, (∀ x ∈ l, x.good = true) → 0 ≤ sC l ∧ sC l ≤ 60 * (l.length : Int) ∧ 0 ≤ sP l ∧ sP l ≤ 720 * (l.length : Int)
  | [], _ => by simp [sC, sP]
  | x :: l, h => by
    obtain ⟨h1, h2, h3, h4⟩ := sums_at l (fun y hy => h y (List.mem_cons_of_mem _ hy))
    obtain ⟨g1, g2, g3, g4, g5, g6⟩ := good_at (h x (List.mem_cons_self ..))
    simp only [sC, sP, List.length_cons]
    omega
/-- Sums -/
def sumsA (xs : List At) : Int × Int × Int := if xs.any (fun a => !a.good) then (0, 0, 150) else (sC xs, sP xs, 0)

set_option maxHeartbeats 2000000 in
theorem RSums_any (xs : List At) (A : Option Addr) (c : Nat) (w : World) (hx : Reads w w.heap.size A 5 At.enc xs) (hl : xs.length ≤ 100000) :
    Calls Try.prog 13 #[.slice A xs.length c] w fun e w' => e = .returned (.tuple #[.int .i64 (sumsA xs).1, .int .i64 (sumsA xs).2.1, .int .i64 (sumsA xs).2.2]) ∧ Below w.heap.size w w' := by
  have HX := Lib.hid hx
  clear hx
  cases hb : xs.any (fun a => !a.good)
  · have hg : ∀ x ∈ xs, x.good = true := fun x h => by have := List.any_eq_false.1 hb x h; simpa using this
    have HG := Lib.hid hg
    have HC : Hid (checkA xs = 0) := Lib.hid (by unfold checkA; rw [hb]; rfl)
    have hv : sumsA xs = (sC xs, sP xs, 0) := by unfold sumsA; rw [hb]; rfl
    rw [hv]
    clear hb hg hv
    go_enter Try.func13, Try.ntmps13
    go_wp2_with fail
    refine (RAvCheck_any xs A c _ HX.out (by omega)).mono ?_
    rw [HC.out]
    rintro e w1 ⟨rfl, hb1⟩
    go_wp2_with fail
    go_loopw [6, 7, 8] (fun s t i wr => ∃ k : Nat, k ≤ xs.length ∧ i = .int .i64 k ∧ s = .int .i64 (sC (xs.take k)) ∧ t = .int .i64 (sP (xs.take k)) ∧ Below w.heap.size w wr) (fun _ _ i _ => xs.length - (intOf i).toNat)
    case atStart => exact ⟨0, Nat.zero_le _, rfl, rfl, rfl, hb1⟩
    case round =>
      clear hb1
      obtain ⟨k, hk, rfl, rfl, rfl, hB⟩ := hrel
      obtain ⟨b1, b2, b3, b4⟩ := sums_at (xs.take k) (fun x h => HG.out x (List.mem_of_mem_take h))
      have htl : (xs.take k).length ≤ 100000 := by simp; omega
      obtain ⟨s, hs⟩ : ∃ s, s = sC (xs.take k) := ⟨_, rfl⟩
      obtain ⟨t, ht⟩ : ∃ t, t = sP (xs.take k) := ⟨_, rfl⟩
      rw [← hs] at b1 b2
      rw [← ht] at b3 b4
      rw [← hs, ← ht]
      have HS := Lib.hid hs
      have HT := Lib.hid ht
      have c1 : s ≤ 6000000 := by omega
      have c2 : t ≤ 72000000 := by omega
      clear hs ht b2 b4 htl
      by_cases hlt : k < xs.length
      · obtain ⟨bb, off, x, rfl, hbl, hxk, hc⟩ := (HX.out.below hB).at_ hlt
        have a2 := hc 2 _ rfl
        have a4 := hc 4 _ rfl
        obtain ⟨g1, g2, g3, g4, g5, g6⟩ := good_at (HG.out x (List.mem_of_getElem? hxk))
        obtain ⟨P, hP⟩ : ∃ P, x.grade * x.credits = P := ⟨_, rfl⟩
        rw [hP] at g5 g6
        have e1 : sC (xs.take (k + 1)) = s + x.credits := by rw [take_at hxk, sC_snoc, ← HS.out]
        have e2 : sP (xs.take (k + 1)) = t + P := by rw [take_at hxk, sP_snoc, ← HT.out, hP]
        have E1 := Lib.hid e1
        have E2 := Lib.hid e2
        have hb2 : bb < wr.heap.size := by have := hB.size; omega
        have HB := Lib.hid hB
        clear hc hxk hB e1 e2
        go_wp2_with fail
        go_region
        go_wp2_with fail
        go_roundw
        case rel => exact ⟨k + 1, by omega, by go_num, by rw [E1.out], by rw [E2.out], by first | exact HB.out | exact HB.out.drew | exact HB.out.drew.drew⟩
        case measure => simp [intOf]; omega
      · obtain rfl : k = xs.length := by omega
        have hs := HS.out
        have ht := HT.out
        rw [List.take_length] at hs ht
        have HS2 := Lib.hid hs
        have HT2 := Lib.hid ht
        clear hs ht
        go_wp2_with fail
        go_ret3
        refine ⟨?_, hB⟩
        simp only
        rw [← HS2.out, ← HT2.out]
        rfl
  · have HC : Hid (checkA xs = 150) := Lib.hid (by unfold checkA; rw [hb]; rfl)
    have hv : sumsA xs = (0, 0, 150) := by unfold sumsA; rw [hb]; rfl
    rw [hv]
    clear hb hv
    go_enter Try.func13, Try.ntmps13
    go_wp2_with fail
    refine (RAvCheck_any xs A c _ HX.out (by omega)).mono ?_
    rw [HC.out]
    rintro e w1 ⟨rfl, hb1⟩
    go_wp2_with fail
    go_ret3
    exact ⟨rfl, hb1⟩
end Go.Proofs.Ytimaealmmjdjkaa
