/- TopDegree, what its proof leans on: the texts ProP, Cmp, RatA, RatB. -/
import Derived.Test.YtalmbigebjbaoaaGreatDoorM01
import Derived.Test.YtalmbigebjbaoaaGreatDoorRows
import Derived.Handy
import Derived.BigQuiet
import Derived.BigRegion
import Derived.Deep.QuietTactic
import Derived.StillTailTactics
import Derived.Laws.EntriesVeiled
import Derived.WalkArith
import Derived.Test.YtalmbigebjbaoaaGreatDoorM02
namespace Go.Proofs.YtalmbigebjbaoaaGreatDoor
set_option linter.unusedSimpArgs false
set_option linter.unusedVariables false
def sumN : Nat → (Nat → Int) → Int
 | 0, _ => 0
 | n + 1, f => sumN n f + f n
theorem sumN_le {n : Nat} {f g : Nat → Int} (h : ∀ i, i < n → f i ≤ g i) : sumN n f ≤ sumN n g := by
 induction n with
 | zero => exact Int.le_refl _
 | succ n ih =>
   have h1 := ih (fun i hi => h i (by omega))
   have h2 := h n (by omega)
   simp only [sumN]; omega
theorem sumN_congr {n : Nat} {f g : Nat → Int} (h : ∀ i, i < n → f i = g i) : sumN n f = sumN n g := by
 induction n with
 | zero => rfl
 | succ n ih => simp only [sumN, ih (fun i hi => h i (by omega)), h n (by omega)]
theorem sumN_zero (n : Nat) : sumN n (fun _ => 0) = 0 := by
 induction n with
 | zero => rfl
 | succ n ih => simp only [sumN, ih]; rfl
theorem sumN_nonneg {n : Nat} {f : Nat → Int} (h : ∀ i, i < n → 0 ≤ f i) : 0 ≤ sumN n f := by
 have := sumN_le (f := fun _ => 0) (g := f) h
 rwa [sumN_zero] at this
theorem sumN_add (n : Nat) (f g : Nat → Int) : sumN n (fun i => f i + g i) = sumN n f + sumN n g := by
 induction n with
 | zero => rfl
 | succ n ih => simp only [sumN, ih]; omega
theorem sumN_swap (m n : Nat) (f : Nat → Nat → Int) : sumN m (fun i => sumN n (f i)) = sumN n (fun k => sumN m (fun i => f i k)) := by
 induction m with
 | zero => simp only [sumN]; exact (sumN_zero n).symm
 | succ m ih => simp only [sumN]; rw [sumN_add, ih]
theorem sumN_one {n k : Nat} (hk : k < n) (c : Int) : sumN n (fun i => if i = k then c else 0) = c := by
 induction n with
 | zero => omega
 | succ n ih =>
   simp only [sumN]
   by_cases e : n = k
   ·subst e
    rw [if_pos rfl, sumN_congr (g := fun _ => 0) (fun i hi => if_neg (by omega)), sumN_zero]; omega
   ·rw [if_neg e, ih (by omega)]; omega
theorem weak_cut (m r : Nat) (P : Nat → Nat → Int) (a b : Nat → Int) (e : Nat → Nat → Int) (S T : Nat → Bool) (h0 : ∀ i k, 0 ≤ P i k) (ha : ∀ i, i < m → sumN r (P i) ≤ a i)
 (hb : ∀ k, k < r → sumN m (fun i => P i k) ≤ b k) (he : ∀ i k, i < m → k < r → P i k ≤ e i k) :
 sumN m (fun i => sumN r (P i)) ≤ sumN m (fun i => if S i then sumN r (fun k => if T k then 0 else e i k) else a i) + sumN r (fun k => if T k then b k else 0) := by
 have hsw : sumN m (fun i => sumN r (fun k => if T k then P i k else 0)) ≤ sumN r (fun k => if T k then b k else 0) := by
  rw [sumN_swap m r (fun i k => if T k then P i k else 0)]
  refine sumN_le (fun k hk => ?_)
  cases hT : T k
  ·simp [sumN_zero]
  ·simpa using hb k hk
 have hrow : sumN m (fun i => sumN r (P i)) ≤ sumN m (fun i => (if S i then sumN r (fun k => if T k then 0 else e i k) else a i) + sumN r (fun k => if T k then P i k else 0)) := by
  refine sumN_le (fun i hi => ?_)
  cases hS : S i
  ·have h1 := ha i hi
   have h2 : 0 ≤ sumN r (fun k => if T k then P i k else 0) := sumN_nonneg (fun k hk => by split; exact h0 i k; exact Int.le_refl _)
   simp only [Bool.false_eq_true, if_false]; omega
  ·simp only [if_true]
   rw [← sumN_add]
   refine sumN_le (fun k hk => ?_)
   have := he i k hi hk
   cases hT : T k
   ·simp only [Bool.false_eq_true, if_false]; omega
   ·simp only [if_true]; omega
 rw [sumN_add] at hrow
 omega
end Go.Proofs.YtalmbigebjbaoaaGreatDoor
namespace Go.Proofs.YtalmbigebjbaoaaGreatDoor
open Go.RowKit
theorem isNaN_any (a : Int) (w : World) :
 Calls Tryz.prog 57 #[.int .i64 a] w fun e w' => e = .returned (.bool false) ∧ w = w' := by
 go_enter Tryz.func57, Tryz.ntmps57
 go_wp2
 go_ret
 exact ⟨ret_bool (by simp), rfl⟩
def cmpI (a b : Int) : Int := if a < b then -1 else if b < a then 1 else 0
theorem Compare_any (a b : Int) (w : World) :
 Calls Tryz.prog 26 #[.int .i64 a, .int .i64 b] w fun e w' => e = .returned (.int .i64 (cmpI a b)) ∧ w = w' := by
 go_enter Tryz.func26, Tryz.ntmps26
 go_wp2_with (go_at_call 57; refine (isNaN_any _ _).mono ?_; rintro e w' ⟨rfl, rfl⟩)
 all_goals go_ret
 all_goals refine ⟨ret_int ?_, rfl⟩
 all_goals (unfold cmpI; (repeat' split) <;> omega)
end Go.Proofs.YtalmbigebjbaoaaGreatDoor
namespace Go.Proofs.YtalmbigebjbaoaaGreatDoor
open Go.RowKit
set_option linter.unusedSimpArgs false
set_option linter.unusedVariables false
structure Ra where
 num : Int
 den : Int
 deriving DecidableEq
def Ra.v (s : Ra) : Value := .agg #[.int .i64 s.num, .int .i64 s.den]
def I64 (n : Int) : Prop := -9223372036854775808 ≤ n ∧ n ≤ 9223372036854775807
def newP (num den : Int) : Ra × Int :=
 if den = 0 then (⟨0, 0⟩, 1)
 else if 1073741824 < num.natAbs / Nat.gcd num.natAbs den.natAbs ∨ 1073741824 < den.natAbs / Nat.gcd num.natAbs den.natAbs then (⟨0, 0⟩, 2)
 else (⟨if decide (num < 0) = decide (den < 0) then ((num.natAbs / Nat.gcd num.natAbs den.natAbs : Nat) : Int) else -((num.natAbs / Nat.gcd num.natAbs den.natAbs : Nat) : Int), ((den.natAbs / Nat.gcd num.natAbs den.natAbs : Nat) : Int)⟩, 0)
def okR (r : Ra) : Prop := 1 ≤ r.den ∧ r.den ≤ 1073741824 ∧ -1073741824 ≤ r.num ∧ r.num ≤ 1073741824 ∧ Nat.gcd r.num.natAbs r.den.natAbs = 1
instance (r : Ra) : Decidable (okR r) := by unfold okR; infer_instance
def checkR (r : Ra) : Int := if okR r then 0 else 50
theorem abs_le {n : Int} (h : I64 n) : n.natAbs ≤ 9223372036854775808 := by unfold I64 at h; omega
theorem size_any (n : Int) (h : I64 n) (w : World) :
 Calls Tryz.prog 72 #[.int .i64 n] w fun e w' => e = .returned (.int .u64 (n.natAbs : Nat)) ∧ w = w' := by
 unfold I64 at h
 go_enter Tryz.func72, Tryz.ntmps72
 go_wp2
 all_goals go_ret
 all_goals refine ⟨ret_int ?_, rfl⟩
 all_goals (try simp only [IntKind.wrap, IntKind.bits, IntKind.signed, Bool.false_eq_true, Bool.false_and, if_false, Int.reducePow]); omega
theorem gcd_step (a b : Nat) : Nat.gcd b (a % b) = Nat.gcd a b := by rw [Nat.gcd_comm b (a % b), ← Nat.gcd_rec, Nat.gcd_comm]
theorem step_any : ∀ (k x y : Nat), y < k → x ≤ 9223372036854775808 → y ≤ 9223372036854775808 → ∀ (b : Nat) (w : World), b < w.heap.size → w.cell? ⟨b, 0, none⟩ = some (.func (.func 118) #[] #[.pointer (some ⟨b, 0, none⟩)]) →
 Calls Tryz.prog 118 #[.int .u64 x, .int .u64 y, .pointer (some ⟨b, 0, none⟩)] w fun e w' => e = .returned (.int .u64 (Nat.gcd x y : Nat)) ∧ Below w.heap.size w w'
 | 0, _, _, h, _, _ => absurd h (by omega)
 | k + 1, x, y, h, hx, hy => fun b w hbl hc => by
   by_cases h0 : y = 0
   ·subst h0
    go_enter Tryz.func118, Tryz.ntmps118
    go_wp2_with fail
    go_ret
    exact ⟨ret_int (by simp), Below.refl _ _⟩
   ·have h1 : 0 < y := by omega
    have hr : x % y < y := Nat.mod_lt _ h1
    have hgc : Nat.gcd y (x % y) = Nat.gcd x y := gcd_step x y
    have ih := step_any k y (x % y) (by omega) hy (by omega) b
    rw [hgc] at ih
    rw [show ((x % y : Nat) : Int) = (x : Int) % (y : Int) from by simp] at ih
    have IH := Lib.hid ih
    clear ih hgc
    go_enter Tryz.func118, Tryz.ntmps118
    go_wp2_with fail
    refine wp_region_below (by kernel_rfl) (by kernel_rfl) ?_
    repeat (first
     | go_big_quiet_skip
     | (go_big_quiet_want
        first
         | (apply quiet_val
            focus (
             intro WC hWC
             obtain ⟨hcc0, hff0⟩ := bcell hWC
             go_simp
             all_goals rfl
             done)
            go_simp
            go_big_quiet_on)
         | (apply quiet_call
            focus (
             intro WC hWC
             go_simp
             all_goals (first | rfl | exact ⟨rfl, rfl⟩)
             done)
            focus (
             intro WC hWC
             exact (IH.out WC (by have := hWC.size; omega) ((hWC.cell (p := ⟨b, 0, none⟩) hbl).trans hc)).mono fun e w' h => ⟨h.1, hWC.trans (h.2.mono hWC.size)⟩
             done)
            go_simp
            go_big_quiet_on)))
    refine wpQuiet_nil ?_
    intro w5 hw5
    go_wp2_with fail
    go_ret
    exact ⟨rfl, hw5⟩
theorem abs_wp {P : Program} {Q : Exit → Act → World → Prop} {c : Code} {a : Act} {w : World} (h : ∀ W, W = w → c.wp P Q a W) : c.wp P Q a w := h w rfl
set_option maxHeartbeats 1000000 in
theorem common_any (x y : Int) (hx : I64 x) (hy : I64 y) (w : World) :
 Calls Tryz.prog 71 #[.int .i64 x, .int .i64 y] w fun e w' => e = .returned (.int .u64 (Nat.gcd x.natAbs y.natAbs : Nat)) ∧ Below w.heap.size w w' := by
 have ax := abs_le hx
 have ay := abs_le hy
 have HX := Lib.hid hx
 have HY := Lib.hid hy
 clear hx hy
 go_enter Tryz.func71, Tryz.ntmps71
 go_wp2_with fail
 refine abs_wp ?_
 intro W hW
 have z0 : w.heap.size < W.heap.size := by rw [hW]; simp
 have c0 : W.cell? ⟨w.heap.size, 0, none⟩ = some (.func (.func 118) #[] #[.pointer (some ⟨w.heap.size, 0, none⟩)]) := by rw [hW]; simp [go_sem]
 have B0 : Below w.heap.size w W := by rw [hW]; go_grown
 clear hW
 refine wp_region_below (by kernel_rfl) (by kernel_rfl) ?_
 repeat (first
  | go_big_quiet_skip
  | (go_big_quiet_want
     first
      | (apply quiet_val
         focus (
          intro WC hWC
          obtain ⟨hcc0, hff0⟩ := bcell hWC
          go_simp
          all_goals rfl
          done)
         go_simp
         go_big_quiet_on)
      | (apply quiet_call
         focus (
          intro WC hWC
          go_simp
          all_goals (first | rfl | exact ⟨rfl, rfl⟩)
          done)
         focus (
          intro WC hWC
          (refine (size_any _ ?_ WC).mono fun e w' h => ⟨h.1, h.2 ▸ hWC⟩; first | exact HX.out | exact HY.out)
          done)
         go_simp
         go_big_quiet_on)
      | (apply quiet_call
         focus (
          intro WC hWC
          go_simp
          all_goals (first | rfl | exact ⟨rfl, rfl⟩)
          done)
         focus (
          intro WC hWC
          exact (step_any (y.natAbs + 1) x.natAbs y.natAbs (by omega) ax ay w.heap.size WC (by have := hWC.size; omega) ((hWC.cell (p := ⟨w.heap.size, 0, none⟩) z0).trans c0)).mono fun e w' h => ⟨h.1, hWC.trans (h.2.mono hWC.size)⟩
          done)
         go_simp
         go_big_quiet_on)))
 refine wpQuiet_nil ?_
 intro w5 hw5
 go_wp2_with fail
 go_ret
 exact ⟨rfl, B0.trans (hw5.mono (by omega))⟩
theorem parts (num den : Int) (h1 : I64 num) (h2 : I64 den) (hd : den ≠ 0) :
 ∃ G N D : Nat, G = Nat.gcd num.natAbs den.natAbs ∧ 0 < G ∧ N = num.natAbs / G ∧ D = den.natAbs / G ∧ (num.natAbs : Int) / (G : Int) = N ∧ (den.natAbs : Int) / (G : Int) = D ∧ N ≤ 9223372036854775808 ∧ D ≤ 9223372036854775808 := by
 refine ⟨_, _, _, rfl, Nat.gcd_pos_of_pos_right _ (by omega), rfl, rfl, by simp, by simp, ?_, ?_⟩
 ·exact Nat.le_trans (Nat.div_le_self _ _) (abs_le h1)
 ·exact Nat.le_trans (Nat.div_le_self _ _) (abs_le h2)
theorem cell_set_if (w : World) (a b : Addr) (v : Value) (h : (w.cell? a).isSome = true) : (w.setCell a v).cell? b = if b = a then some v else w.cell? b := by
 by_cases e : b = a
 ·subst e; rw [if_pos rfl]; exact World.cell?_setCell_same' _ _ _ h
 ·rw [if_neg e]; first | exact World.cell?_setCell_other _ _ _ _ e | exact World.cell?_setCell_other _ _ _ _ (Ne.symm e)
theorem setA {W : World} {b : Nat} {x0 x1 : Value} (h : W.cell? ⟨b, 0, none⟩ = some x0 ∧ W.cell? ⟨b, 1, none⟩ = some x1) (v : Value) : (W.setCell ⟨b, 0, none⟩ v).cell? ⟨b, 0, none⟩ = some v ∧ (W.setCell ⟨b, 0, none⟩ v).cell? ⟨b, 1, none⟩ = some x1 := by
 have e : (W.cell? ⟨b, 0, none⟩).isSome = true := by rw [h.1]; rfl
 refine ⟨by rw [cell_set_if _ _ _ _ e, if_pos rfl], ?_⟩
 rw [cell_set_if _ _ _ _ e, if_neg (by simp)]
 exact h.2
theorem setB {W : World} {b : Nat} {x0 x1 : Value} (h : W.cell? ⟨b, 0, none⟩ = some x0 ∧ W.cell? ⟨b, 1, none⟩ = some x1) (v : Value) : (W.setCell ⟨b, 1, none⟩ v).cell? ⟨b, 0, none⟩ = some x0 ∧ (W.setCell ⟨b, 1, none⟩ v).cell? ⟨b, 1, none⟩ = some v := by
 have e : (W.cell? ⟨b, 1, none⟩).isSome = true := by rw [h.2]; rfl
 refine ⟨?_, by rw [cell_set_if _ _ _ _ e, if_pos rfl]⟩
 rw [cell_set_if _ _ _ _ e, if_neg (by simp)]
 exact h.1
theorem wrap_u64 {n : Nat} (h : n ≤ 9223372036854775808) : IntKind.u64.wrap (n : Int) = n := by
 simp only [IntKind.wrap, IntKind.bits, IntKind.signed, Bool.false_eq_true, Bool.false_and, if_false, Int.reducePow]
 omega
theorem newP_zero (num : Int) : newP num 0 = (⟨0, 0⟩, 1) := by simp [newP]
theorem newP_parts {num den : Int} {G N D : Nat} (hd : den ≠ 0) (hG : G = Nat.gcd num.natAbs den.natAbs) (hN : N = num.natAbs / G) (hD : D = den.natAbs / G) :
 newP num den = if 1073741824 < N ∨ 1073741824 < D then (⟨0, 0⟩, 2) else (⟨if decide (num < 0) = decide (den < 0) then (N : Int) else -(N : Int), (D : Int)⟩, 0) := by
 subst hG hN hD
 simp only [newP, hd, if_false]
set_option maxHeartbeats 1000000 in
theorem New_any (num den : Int) (h1 : I64 num) (h2 : I64 den) (w : World) :
 Calls Tryz.prog 38 #[.int .i64 num, .int .i64 den] w fun e w' => e = .returned (.tuple #[(newP num den).1.v, .int .i64 (newP num den).2]) ∧ Below w.heap.size w w' := by
 have H1 := Lib.hid h1
 have H2 := Lib.hid h2
 clear h1 h2
 by_cases hd : den = 0
 ·subst hd
  rw [newP_zero]
  clear H1 H2
  go_enter Tryz.func38, Tryz.ntmps38
  go_wp2_with fail
  exact bodyPost_ret (v := .tuple #[(⟨0, 0⟩ : Ra).v, .int .i64 1]) (by simp [results, Tryz.results38, go_sem, Ra.v]) rfl ⟨rfl, by go_grown⟩
 ·obtain ⟨G, N, D, hG, hG0, hN, hD, qN, qD, bN, bD⟩ := parts num den H1.out H2.out hd
  rw [newP_parts hd hG hN hD]
  have HG := Lib.hid hG
  have hd0 : (den == 0) = false := by simpa using hd
  have hG1 : ¬ G = 0 := by omega
  have wN : IntKind.u64.wrap (N : Int) = N := wrap_u64 bN
  have wD : IntKind.u64.wrap (D : Int) = D := wrap_u64 bD
  clear hG hN hD hd
  by_cases hl : 1073741824 < N ∨ 1073741824 < D
  ·rw [if_pos hl]
   have hs4 : (¬ (1073741824 : Int) < (N : Int) ∧ (1073741824 : Int) < (D : Int)) ∨ (1073741824 : Int) < (N : Int) := by omega
   rcases hs4 with ⟨s1, s2⟩ | s1
   ·have d1 : decide ((1073741824 : Int) < (N : Int)) = false := by simp; omega
    have d2 : decide ((1073741824 : Int) < (D : Int)) = true := by simp; omega
    clear s1 s2 hl
    go_enter Tryz.func38, Tryz.ntmps38
    go_wp2_with fail
    refine (common_any num den H1.out H2.out _).mono ?_
    rw [← HG.out]
    rintro e w1 ⟨rfl, hb1⟩
    obtain ⟨lc, lf, hlt1⟩ := below_at w.heap.size rfl hb1 (by simp)
    have l0 := lc 0
    have l1 := lc 1
    have lf0 := lf 0
    have lf1 := lf 1
    simp at l0 l1
    have B1 : Below w.heap.size w w1 := ((Below.refl _ _).alloc (Nat.le_refl _) _).trans (hb1.mono (by simp))
    clear hb1 lc lf
    go_wp2_with fail
    refine wp_region_below (by kernel_rfl) (by kernel_rfl) ?_
    repeat (first
     | go_big_quiet_skip
     | (go_big_quiet_want
        first
         | (apply quiet_val
            focus (
             intro WC hWC
             obtain ⟨hcc0, hff0⟩ := bcell hWC
             go_simp
             all_goals rfl
             done)
            go_simp
            go_big_quiet_on)
         | (apply quiet_call
            focus (
             intro WC hWC
             go_simp
             all_goals (first | rfl | exact ⟨rfl, rfl⟩)
             done)
            focus (
             intro WC hWC
             (refine (size_any _ ?_ WC).mono fun e w' h => ⟨h.1, h.2 ▸ hWC⟩; first | exact H1.out | exact H2.out)
             done)
            go_simp
            go_big_quiet_on)))
    refine wpQuiet_nil ?_
    intro w5 hw5
    have k0 := (hw5.cell (p := ⟨w.heap.size, 0, none⟩) hlt1).trans l0
    have k1 := (hw5.cell (p := ⟨w.heap.size, 1, none⟩) hlt1).trans l1
    have kf0 := (hw5.frozen (p := ⟨w.heap.size, 0, none⟩) hlt1).trans lf0
    have kf1 := (hw5.frozen (p := ⟨w.heap.size, 1, none⟩) hlt1).trans lf1
    have z5 := hw5.size
    have hlt5 : w.heap.size < w5.heap.size := by omega
    have B5 := B1.trans (hw5.mono B1.size)
    clear hw5 B1 l0 l1 lf0 lf1
    go_wp2_with fail
    exact bodyPost_ret (v := .tuple #[.agg #[.int .i64 0, .int .i64 0], .int .i64 2]) (by simp [results, Tryz.results38, go_sem, k0, k1, hlt5]) rfl ⟨rfl, by go_grown⟩
   ·have d1 : decide ((1073741824 : Int) < (N : Int)) = true := by simp; omega
    clear s1 hl
    go_enter Tryz.func38, Tryz.ntmps38
    go_wp2_with fail
    refine (common_any num den H1.out H2.out _).mono ?_
    rw [← HG.out]
    rintro e w1 ⟨rfl, hb1⟩
    obtain ⟨lc, lf, hlt1⟩ := below_at w.heap.size rfl hb1 (by simp)
    have l0 := lc 0
    have l1 := lc 1
    have lf0 := lf 0
    have lf1 := lf 1
    simp at l0 l1
    have B1 : Below w.heap.size w w1 := ((Below.refl _ _).alloc (Nat.le_refl _) _).trans (hb1.mono (by simp))
    clear hb1 lc lf
    go_wp2_with fail
    refine wp_region_below (by kernel_rfl) (by kernel_rfl) ?_
    repeat (first
     | go_big_quiet_skip
     | (go_big_quiet_want
        first
         | (apply quiet_val
            focus (
             intro WC hWC
             obtain ⟨hcc0, hff0⟩ := bcell hWC
             go_simp
             all_goals rfl
             done)
            go_simp
            go_big_quiet_on)
         | (apply quiet_call
            focus (
             intro WC hWC
             go_simp
             all_goals (first | rfl | exact ⟨rfl, rfl⟩)
             done)
            focus (
             intro WC hWC
             (refine (size_any _ ?_ WC).mono fun e w' h => ⟨h.1, h.2 ▸ hWC⟩; first | exact H1.out | exact H2.out)
             done)
            go_simp
            go_big_quiet_on)))
    refine wpQuiet_nil ?_
    intro w5 hw5
    have k0 := (hw5.cell (p := ⟨w.heap.size, 0, none⟩) hlt1).trans l0
    have k1 := (hw5.cell (p := ⟨w.heap.size, 1, none⟩) hlt1).trans l1
    have kf0 := (hw5.frozen (p := ⟨w.heap.size, 0, none⟩) hlt1).trans lf0
    have kf1 := (hw5.frozen (p := ⟨w.heap.size, 1, none⟩) hlt1).trans lf1
    have z5 := hw5.size
    have hlt5 : w.heap.size < w5.heap.size := by omega
    have B5 := B1.trans (hw5.mono B1.size)
    clear hw5 B1 l0 l1 lf0 lf1
    go_wp2_with fail
    exact bodyPost_ret (v := .tuple #[.agg #[.int .i64 0, .int .i64 0], .int .i64 2]) (by simp [results, Tryz.results38, go_sem, k0, k1, hlt5]) rfl ⟨rfl, by go_grown⟩
  ·rw [if_neg hl]
   have hl1 : ¬ (1073741824 : Int) < (N : Int) := fun h => hl (.inl (by omega))
   have hl2 : ¬ (1073741824 : Int) < (D : Int) := fun h => hl (.inr (by omega))
   clear hl
   have hs4 : (num < 0 ∧ den < 0) ∨ (¬ num < 0 ∧ ¬ den < 0) ∨ (num < 0 ∧ ¬ den < 0) ∨ (¬ num < 0 ∧ den < 0) := by omega
   rcases hs4 with ⟨s1, s2⟩ | ⟨s1, s2⟩ | ⟨s1, s2⟩ | ⟨s1, s2⟩
   ·simp only [s1, s2, decide_true, decide_false, if_true, if_false, reduceCtorEq]
    have d1 : decide ((1073741824 : Int) < (N : Int)) = false := by simp; omega
    have d2 : decide ((1073741824 : Int) < (D : Int)) = false := by simp; omega
    have d3 : decide (num < 0) = true := by simp [s1]
    have d4 : decide (den < 0) = true := by simp [s2]
    have bN2 : N ≤ 1073741824 := by omega
    have bD2 : D ≤ 1073741824 := by omega
    clear s1 s2 hl1 hl2
    go_enter Tryz.func38, Tryz.ntmps38
    go_wp2_with fail
    refine (common_any num den H1.out H2.out _).mono ?_
    rw [← HG.out]
    rintro e w1 ⟨rfl, hb1⟩
    obtain ⟨lc, lf, hlt1⟩ := below_at w.heap.size rfl hb1 (by simp)
    have l0 := lc 0
    have l1 := lc 1
    have lf0 := lf 0
    have lf1 := lf 1
    simp at l0 l1
    have B1 : Below w.heap.size w w1 := ((Below.refl _ _).alloc (Nat.le_refl _) _).trans (hb1.mono (by simp))
    clear hb1 lc lf
    go_wp2_with fail
    refine wp_region_below (by kernel_rfl) (by kernel_rfl) ?_
    repeat (first
     | go_big_quiet_skip
     | (go_big_quiet_want
        first
         | (apply quiet_val
            focus (
             intro WC hWC
             obtain ⟨hcc0, hff0⟩ := bcell hWC
             go_simp
             all_goals rfl
             done)
            go_simp
            go_big_quiet_on)
         | (apply quiet_call
            focus (
             intro WC hWC
             go_simp
             all_goals (first | rfl | exact ⟨rfl, rfl⟩)
             done)
            focus (
             intro WC hWC
             (refine (size_any _ ?_ WC).mono fun e w' h => ⟨h.1, h.2 ▸ hWC⟩; first | exact H1.out | exact H2.out)
             done)
            go_simp
            go_big_quiet_on)))
    refine wpQuiet_nil ?_
    intro w5 hw5
    have k0 := (hw5.cell (p := ⟨w.heap.size, 0, none⟩) hlt1).trans l0
    have k1 := (hw5.cell (p := ⟨w.heap.size, 1, none⟩) hlt1).trans l1
    have kf0 := (hw5.frozen (p := ⟨w.heap.size, 0, none⟩) hlt1).trans lf0
    have kf1 := (hw5.frozen (p := ⟨w.heap.size, 1, none⟩) hlt1).trans lf1
    have z5 := hw5.size
    have hlt5 : w.heap.size < w5.heap.size := by omega
    have B5 := B1.trans (hw5.mono B1.size)
    clear hw5 B1 l0 l1 lf0 lf1
    go_wp2_with fail
    have hc := setB (setA (setB (setA ⟨k0, k1⟩ (.int .i64 (N : Int))) (.int .i64 (D : Int))) (.int .i64 (N : Int))) (.int .i64 (D : Int))
    exact bodyPost_ret (v := .tuple #[.agg #[.int .i64 (N : Int), .int .i64 (D : Int)], .int .i64 0]) (by simp [results, Tryz.results38, go_sem, hc.1, hc.2, hlt5]) rfl ⟨rfl, by go_grown⟩
   ·simp only [s1, s2, decide_true, decide_false, if_true, if_false, reduceCtorEq]
    have d1 : decide ((1073741824 : Int) < (N : Int)) = false := by simp; omega
    have d2 : decide ((1073741824 : Int) < (D : Int)) = false := by simp; omega
    have d3 : decide (num < 0) = false := by simp [s1]
    have d4 : decide (den < 0) = false := by simp [s2]
    have bN2 : N ≤ 1073741824 := by omega
    have bD2 : D ≤ 1073741824 := by omega
    clear s1 s2 hl1 hl2
    go_enter Tryz.func38, Tryz.ntmps38
    go_wp2_with fail
    refine (common_any num den H1.out H2.out _).mono ?_
    rw [← HG.out]
    rintro e w1 ⟨rfl, hb1⟩
    obtain ⟨lc, lf, hlt1⟩ := below_at w.heap.size rfl hb1 (by simp)
    have l0 := lc 0
    have l1 := lc 1
    have lf0 := lf 0
    have lf1 := lf 1
    simp at l0 l1
    have B1 : Below w.heap.size w w1 := ((Below.refl _ _).alloc (Nat.le_refl _) _).trans (hb1.mono (by simp))
    clear hb1 lc lf
    go_wp2_with fail
    refine wp_region_below (by kernel_rfl) (by kernel_rfl) ?_
    repeat (first
     | go_big_quiet_skip
     | (go_big_quiet_want
        first
         | (apply quiet_val
            focus (
             intro WC hWC
             obtain ⟨hcc0, hff0⟩ := bcell hWC
             go_simp
             all_goals rfl
             done)
            go_simp
            go_big_quiet_on)
         | (apply quiet_call
            focus (
             intro WC hWC
             go_simp
             all_goals (first | rfl | exact ⟨rfl, rfl⟩)
             done)
            focus (
             intro WC hWC
             (refine (size_any _ ?_ WC).mono fun e w' h => ⟨h.1, h.2 ▸ hWC⟩; first | exact H1.out | exact H2.out)
             done)
            go_simp
            go_big_quiet_on)))
    refine wpQuiet_nil ?_
    intro w5 hw5
    have k0 := (hw5.cell (p := ⟨w.heap.size, 0, none⟩) hlt1).trans l0
    have k1 := (hw5.cell (p := ⟨w.heap.size, 1, none⟩) hlt1).trans l1
    have kf0 := (hw5.frozen (p := ⟨w.heap.size, 0, none⟩) hlt1).trans lf0
    have kf1 := (hw5.frozen (p := ⟨w.heap.size, 1, none⟩) hlt1).trans lf1
    have z5 := hw5.size
    have hlt5 : w.heap.size < w5.heap.size := by omega
    have B5 := B1.trans (hw5.mono B1.size)
    clear hw5 B1 l0 l1 lf0 lf1
    go_wp2_with fail
    have hc := setB (setA (setB (setA ⟨k0, k1⟩ (.int .i64 (N : Int))) (.int .i64 (D : Int))) (.int .i64 (N : Int))) (.int .i64 (D : Int))
    exact bodyPost_ret (v := .tuple #[.agg #[.int .i64 (N : Int), .int .i64 (D : Int)], .int .i64 0]) (by simp [results, Tryz.results38, go_sem, hc.1, hc.2, hlt5]) rfl ⟨rfl, by go_grown⟩
   ·simp only [s1, s2, decide_true, decide_false, if_true, if_false, reduceCtorEq]
    have d1 : decide ((1073741824 : Int) < (N : Int)) = false := by simp; omega
    have d2 : decide ((1073741824 : Int) < (D : Int)) = false := by simp; omega
    have d3 : decide (num < 0) = true := by simp [s1]
    have d4 : decide (den < 0) = false := by simp [s2]
    have bN2 : N ≤ 1073741824 := by omega
    have bD2 : D ≤ 1073741824 := by omega
    clear s1 s2 hl1 hl2
    go_enter Tryz.func38, Tryz.ntmps38
    go_wp2_with fail
    refine (common_any num den H1.out H2.out _).mono ?_
    rw [← HG.out]
    rintro e w1 ⟨rfl, hb1⟩
    obtain ⟨lc, lf, hlt1⟩ := below_at w.heap.size rfl hb1 (by simp)
    have l0 := lc 0
    have l1 := lc 1
    have lf0 := lf 0
    have lf1 := lf 1
    simp at l0 l1
    have B1 : Below w.heap.size w w1 := ((Below.refl _ _).alloc (Nat.le_refl _) _).trans (hb1.mono (by simp))
    clear hb1 lc lf
    go_wp2_with fail
    refine wp_region_below (by kernel_rfl) (by kernel_rfl) ?_
    repeat (first
     | go_big_quiet_skip
     | (go_big_quiet_want
        first
         | (apply quiet_val
            focus (
             intro WC hWC
             obtain ⟨hcc0, hff0⟩ := bcell hWC
             go_simp
             all_goals rfl
             done)
            go_simp
            go_big_quiet_on)
         | (apply quiet_call
            focus (
             intro WC hWC
             go_simp
             all_goals (first | rfl | exact ⟨rfl, rfl⟩)
             done)
            focus (
             intro WC hWC
             (refine (size_any _ ?_ WC).mono fun e w' h => ⟨h.1, h.2 ▸ hWC⟩; first | exact H1.out | exact H2.out)
             done)
            go_simp
            go_big_quiet_on)))
    refine wpQuiet_nil ?_
    intro w5 hw5
    have k0 := (hw5.cell (p := ⟨w.heap.size, 0, none⟩) hlt1).trans l0
    have k1 := (hw5.cell (p := ⟨w.heap.size, 1, none⟩) hlt1).trans l1
    have kf0 := (hw5.frozen (p := ⟨w.heap.size, 0, none⟩) hlt1).trans lf0
    have kf1 := (hw5.frozen (p := ⟨w.heap.size, 1, none⟩) hlt1).trans lf1
    have z5 := hw5.size
    have hlt5 : w.heap.size < w5.heap.size := by omega
    have B5 := B1.trans (hw5.mono B1.size)
    clear hw5 B1 l0 l1 lf0 lf1
    go_wp2_with fail
    have hc8 := setA (setA (setB (setA ⟨k0, k1⟩ (.int .i64 (N : Int))) (.int .i64 (D : Int))) (.int .i64 (-(N : Int)))) (.int .i64 (-(N : Int)))
    have hc := setB hc8 (.int .i64 (D : Int))
    exact bodyPost_ret (v := .tuple #[.agg #[.int .i64 (-(N : Int)), .int .i64 (D : Int)], .int .i64 0]) (by simp [results, Tryz.results38, go_sem, hc8.1, hc8.2, hc.1, hc.2, hlt5]) rfl ⟨rfl, by go_grown⟩
   ·simp only [s1, s2, decide_true, decide_false, if_true, if_false, reduceCtorEq]
    have d1 : decide ((1073741824 : Int) < (N : Int)) = false := by simp; omega
    have d2 : decide ((1073741824 : Int) < (D : Int)) = false := by simp; omega
    have d3 : decide (num < 0) = false := by simp [s1]
    have d4 : decide (den < 0) = true := by simp [s2]
    have bN2 : N ≤ 1073741824 := by omega
    have bD2 : D ≤ 1073741824 := by omega
    clear s1 s2 hl1 hl2
    go_enter Tryz.func38, Tryz.ntmps38
    go_wp2_with fail
    refine (common_any num den H1.out H2.out _).mono ?_
    rw [← HG.out]
    rintro e w1 ⟨rfl, hb1⟩
    obtain ⟨lc, lf, hlt1⟩ := below_at w.heap.size rfl hb1 (by simp)
    have l0 := lc 0
    have l1 := lc 1
    have lf0 := lf 0
    have lf1 := lf 1
    simp at l0 l1
    have B1 : Below w.heap.size w w1 := ((Below.refl _ _).alloc (Nat.le_refl _) _).trans (hb1.mono (by simp))
    clear hb1 lc lf
    go_wp2_with fail
    refine wp_region_below (by kernel_rfl) (by kernel_rfl) ?_
    repeat (first
     | go_big_quiet_skip
     | (go_big_quiet_want
        first
         | (apply quiet_val
            focus (
             intro WC hWC
             obtain ⟨hcc0, hff0⟩ := bcell hWC
             go_simp
             all_goals rfl
             done)
            go_simp
            go_big_quiet_on)
         | (apply quiet_call
            focus (
             intro WC hWC
             go_simp
             all_goals (first | rfl | exact ⟨rfl, rfl⟩)
             done)
            focus (
             intro WC hWC
             (refine (size_any _ ?_ WC).mono fun e w' h => ⟨h.1, h.2 ▸ hWC⟩; first | exact H1.out | exact H2.out)
             done)
            go_simp
            go_big_quiet_on)))
    refine wpQuiet_nil ?_
    intro w5 hw5
    have k0 := (hw5.cell (p := ⟨w.heap.size, 0, none⟩) hlt1).trans l0
    have k1 := (hw5.cell (p := ⟨w.heap.size, 1, none⟩) hlt1).trans l1
    have kf0 := (hw5.frozen (p := ⟨w.heap.size, 0, none⟩) hlt1).trans lf0
    have kf1 := (hw5.frozen (p := ⟨w.heap.size, 1, none⟩) hlt1).trans lf1
    have z5 := hw5.size
    have hlt5 : w.heap.size < w5.heap.size := by omega
    have B5 := B1.trans (hw5.mono B1.size)
    clear hw5 B1 l0 l1 lf0 lf1
    go_wp2_with fail
    have hc8 := setA (setA (setB (setA ⟨k0, k1⟩ (.int .i64 (N : Int))) (.int .i64 (D : Int))) (.int .i64 (-(N : Int)))) (.int .i64 (-(N : Int)))
    have hc := setB hc8 (.int .i64 (D : Int))
    exact bodyPost_ret (v := .tuple #[.agg #[.int .i64 (-(N : Int)), .int .i64 (D : Int)], .int .i64 0]) (by simp [results, Tryz.results38, go_sem, hc8.1, hc8.2, hc.1, hc.2, hlt5]) rfl ⟨rfl, by go_grown⟩
end Go.Proofs.YtalmbigebjbaoaaGreatDoor
