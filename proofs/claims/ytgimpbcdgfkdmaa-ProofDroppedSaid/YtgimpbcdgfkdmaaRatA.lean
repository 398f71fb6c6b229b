/- Small functions of ratio and of its reference: size, the greatest common divisor, New, Check. -/
import Derived.Test.YtgimpbcdgfkdmaaCmp
import Derived.BigQuiet
import Derived.BigRegion
import Derived.Deep.QuietTactic
import Derived.StillTailTactics
import Derived.Laws.EntriesVeiled
import Derived.WalkArith
import Derived.Test.YtgimpbcdgfkdmaaQuiet
namespace Go.Proofs.Ytgimpbcdgfkdmaa
open Go.RowKit
set_option linter.unusedSimpArgs false
set_option linter.unusedVariables false

structure Ra where
  num : Int
  den : Int
  deriving DecidableEq
instance : Inhabited Ra := ⟨⟨0, 0⟩⟩
def Ra.v (s : Ra) : Value := .agg #[.int .i64 s.num, .int .i64 s.den]
def Ra.enc (s : Ra) : List Value := [.int .i64 s.num, .int .i64 s.den]

def I64 (n : Int) : Prop := -9223372036854775808 ≤ n ∧ n ≤ 9223372036854775807
/-- New -/
def newP (num den : Int) : Ra × Int :=
  if den = 0 then (⟨0, 0⟩, 1)
  else if 1073741824 < num.natAbs / Nat.gcd num.natAbs den.natAbs ∨ 1073741824 < den.natAbs / Nat.gcd num.natAbs den.natAbs then (⟨0, 0⟩, 2)
  else (⟨if decide (num < 0) = decide (den < 0) then ((num.natAbs / Nat.gcd num.natAbs den.natAbs : Nat) : Int) else -((num.natAbs / Nat.gcd num.natAbs den.natAbs : Nat) : Int), ((den.natAbs / Nat.gcd num.natAbs den.natAbs : Nat) : Int)⟩, 0)
def okR (r : Ra) : Prop := 1 ≤ r.den ∧ r.den ≤ 1073741824 ∧ -1073741824 ≤ r.num ∧ r.num ≤ 1073741824 ∧ Nat.gcd r.num.natAbs r.den.natAbs = 1
instance (r : Ra) : Decidable (okR r) := by unfold okR; infer_instance
def checkR (r : Ra) : Int := if okR r then 0 else 50

theorem abs_le {n : Int} (h : I64 n) : n.natAbs ≤ 9223372036854775808 := by unfold I64 at h; omega

theorem size_any (n : Int) (h : I64 n) (w : World) :
    Calls Try.prog 73 #[.int .i64 n] w fun e w' => e = .returned (.int .u64 (n.natAbs : Nat)) ∧ w = w' := by
  unfold I64 at h
  go_enter Try.func73, Try.ntmps73
  go_wp2
  all_goals go_ret
  all_goals refine ⟨ret_int ?_, rfl⟩
  all_goals (try simp only [IntKind.wrap, IntKind.bits, IntKind.signed, Bool.false_eq_true, Bool.false_and, if_false, Int.reducePow]); omega

theorem RSize_any (n : Int) (h : I64 n) (w : World) :
    Calls Try.prog 63 #[.int .i64 n] w fun e w' => e = .returned (.int .u64 (n.natAbs : Nat)) ∧ w = w' := by
  unfold I64 at h
  go_enter Try.func63, Try.ntmps63
  go_wp2
  all_goals go_ret
  all_goals refine ⟨ret_int ?_, rfl⟩
  all_goals (try simp only [IntKind.wrap, IntKind.bits, IntKind.signed, Bool.false_eq_true, Bool.false_and, if_false, Int.reducePow]); omega

theorem gcd_step (a b : Nat) : Nat.gcd b (a % b) = Nat.gcd a b := by rw [Nat.gcd_comm b (a % b), ← Nat.gcd_rec, Nat.gcd_comm]

theorem RCommon_any (x y : Nat) (hx : x ≤ 9223372036854775808) (hy : y ≤ 9223372036854775808) (w : World) :
    Calls Try.prog 62 #[.int .u64 x, .int .u64 y] w fun e w' => e = .returned (.int .u64 (Nat.gcd x y : Nat)) ∧ Below w.heap.size w w' := by
  go_enter Try.func62, Try.ntmps62
  go_wp2_with fail
  go_loopw [0, 1] (fun i j wr => ∃ a b : Nat, a ≤ 9223372036854775808 ∧ b ≤ 9223372036854775808 ∧ i = .int .u64 a ∧ j = .int .u64 b ∧ Nat.gcd a b = Nat.gcd x y ∧ Below w.heap.size w wr) (fun _ j _ => (intOf j).toNat)
  case atStart => exact ⟨x, y, hx, hy, rfl, rfl, rfl, Below.refl _ _⟩
  case round =>
    obtain ⟨a, b, ha, hb, rfl, rfl, hg, hB⟩ := hrel
    have HG := Lib.hid hg
    clear hg
    by_cases h0 : b = 0
    · subst h0
      go_wp2_with fail
      go_ret
      exact ⟨ret_int (by rw [← HG.out]; simp), hB⟩
    · have h1 : 0 < b := by omega
      have h2 : a % b < b := Nat.mod_lt _ h1
      go_wp2_with fail
      go_region
      go_wp2_with fail
      go_roundw
      case rel => exact ⟨b, a % b, hb, by omega, rfl, by simp, by rw [← HG.out, gcd_step], hB.drew⟩
      case measure => simp only [intOf]; omega

theorem step_any : ∀ (k x y : Nat), y < k → x ≤ 9223372036854775808 → y ≤ 9223372036854775808 → ∀ (b : Nat) (w : World), b < w.heap.size → w.cell? ⟨b, 0, none⟩ = some (.func (.func 72) #[] #[.pointer (some ⟨b, 0, none⟩)]) →
    Calls Try.prog 72 #[.int .u64 x, .int .u64 y, .pointer (some ⟨b, 0, none⟩)] w fun e w' => e = .returned (.int .u64 (Nat.gcd x y : Nat)) ∧ Below w.heap.size w w'
  | 0, _, _, h, _, _ => absurd h (by omega)
  | k + 1, x, y, h, hx, hy => fun b w hbl hc => by
    by_cases h0 : y = 0
    · subst h0
      go_enter Try.func72, Try.ntmps72
      go_wp2_with fail
      go_ret
      exact ⟨ret_int (by simp), Below.refl _ _⟩
    · have h1 : 0 < y := by omega
      have hr : x % y < y := Nat.mod_lt _ h1
      have hgc : Nat.gcd y (x % y) = Nat.gcd x y := gcd_step x y
      have ih := step_any k y (x % y) (by omega) hy (by omega) b
      rw [hgc] at ih
      rw [show ((x % y : Nat) : Int) = (x : Int) % (y : Int) from by simp] at ih
      have IH := Lib.hid ih
      clear ih hgc
      go_enter Try.func72, Try.ntmps72
      go_wp2_with fail
      refine wp_region_below (by kernel_rfl) (by kernel_rfl) ?_
      repeat (first
        | go_big_quiet_skip
        | (go_big_quiet_want
           first
             | (apply quiet_val
                focus (
                  intro WC hWC
                  obtain ⟨hcc0, hff0⟩ := bcell hWC
                  go_simp
                  all_goals rfl
                  done)
                go_simp
                go_big_quiet_on)
             | (apply quiet_call
                focus (
                  intro WC hWC
                  go_simp
                  all_goals (first | rfl | exact ⟨rfl, rfl⟩)
                  done)
                focus (
                  intro WC hWC
                  exact (IH.out WC (by have := hWC.size; omega) ((hWC.cell (p := ⟨b, 0, none⟩) hbl).trans hc)).mono fun e w' h => ⟨h.1, hWC.trans (h.2.mono hWC.size)⟩
                  done)
                go_simp
                go_big_quiet_on)))
      refine wpQuiet_nil ?_
      intro w5 hw5
      go_wp2_with fail
      go_ret
      exact ⟨rfl, hw5⟩

theorem abs_wp {P : Program} {Q : Exit → Act → World → Prop} {c : Code} {a : Act} {w : World} (h : ∀ W, W = w → c.wp P Q a W) : c.wp P Q a w := h w rfl

set_option maxHeartbeats 1000000 in
theorem common_any (x y : Int) (hx : I64 x) (hy : I64 y) (w : World) :
    Calls Try.prog 61 #[.int .i64 x, .int .i64 y] w fun e w' => e = .returned (.int .u64 (Nat.gcd x.natAbs y.natAbs : Nat)) ∧ Below w.heap.size w w' := by
  have ax := abs_le hx
  have ay := abs_le hy
  have HX := Lib.hid hx
  have HY := Lib.hid hy
  clear hx hy
  go_enter Try.func61, Try.ntmps61
  go_wp2_with fail
  refine abs_wp ?_
  intro W hW
  have z0 : w.heap.size < W.heap.size := by rw [hW]; simp
  have c0 : W.cell? ⟨w.heap.size, 0, none⟩ = some (.func (.func 72) #[] #[.pointer (some ⟨w.heap.size, 0, none⟩)]) := by rw [hW]; simp [go_sem]
  have B0 : Below w.heap.size w W := by rw [hW]; go_grown
  clear hW
  refine wp_region_below (by kernel_rfl) (by kernel_rfl) ?_
  repeat (first
    | go_big_quiet_skip
    | (go_big_quiet_want
       first
         | (apply quiet_val
            focus (
              intro WC hWC
              obtain ⟨hcc0, hff0⟩ := bcell hWC
              go_simp
              all_goals rfl
              done)
            go_simp
            go_big_quiet_on)
         | (apply quiet_call
            focus (
              intro WC hWC
              go_simp
              all_goals (first | rfl | exact ⟨rfl, rfl⟩)
              done)
            focus (
              intro WC hWC
              (refine (size_any _ ?_ WC).mono fun e w' h => ⟨h.1, h.2 ▸ hWC⟩; first | exact HX.out | exact HY.out)
              done)
            go_simp
            go_big_quiet_on)
         | (apply quiet_call
            focus (
              intro WC hWC
              go_simp
              all_goals (first | rfl | exact ⟨rfl, rfl⟩)
              done)
            focus (
              intro WC hWC
              exact (step_any (y.natAbs + 1) x.natAbs y.natAbs (by omega) ax ay w.heap.size WC (by have := hWC.size; omega) ((hWC.cell (p := ⟨w.heap.size, 0, none⟩) z0).trans c0)).mono fun e w' h => ⟨h.1, hWC.trans (h.2.mono hWC.size)⟩
              done)
            go_simp
            go_big_quiet_on)))
  refine wpQuiet_nil ?_
  intro w5 hw5
  go_wp2_with fail
  go_ret
  exact ⟨rfl, B0.trans (hw5.mono (by omega))⟩
end Go.Proofs.Ytgimpbcdgfkdmaa
