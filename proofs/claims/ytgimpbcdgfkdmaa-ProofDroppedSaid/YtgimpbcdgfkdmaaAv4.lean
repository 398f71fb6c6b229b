/- average.check, the iterator of weights, the reference of check. -/
import Derived.Test.YtgimpbcdgfkdmaaLib
import Derived.Test.YtgimpbcdgfkdmaaRows
import Derived.Test.YtgimpbcdgfkdmaaQuiet
import Derived.Test.YtgimpbcdgfkdmaaSeq
import Derived.BigQuiet
import Derived.BigRegion
import Derived.Deep.QuietTactic
import Derived.StillTailTactics
import Derived.Laws.EntriesVeiled
import Derived.Handy
import Derived.RegionTactic
/- The walks of average's small functions and of their references: within, fits, check; Valid, check. -/
namespace Go.Proofs.Ytgimpbcdgfkdmaa
open Go.RowKit Go.Shelf
set_option linter.unusedSimpArgs false
set_option linter.unusedVariables false

structure At where
  course : Int
  term : Int
  grade : Int
  campus : Int
  credits : Int
  deriving DecidableEq
instance : Inhabited At := ⟨⟨0, 0, 0, 0, 0⟩⟩
def At.v (s : At) : Value := .agg #[.int .i64 s.course, .int .i64 s.term, .int .i64 s.grade, .int .i64 s.campus, .int .i64 s.credits]
def At.enc (s : At) : List Value := [.int .i64 s.course, .int .i64 s.term, .int .i64 s.grade, .int .i64 s.campus, .int .i64 s.credits]
def inB (n lo hi : Int) : Bool := decide (lo ≤ n) && decide (n ≤ hi)
def At.good (a : At) : Bool := inB a.course 0 4095 && (inB a.term 0 1023 && (inB a.grade 0 12 && (inB a.campus 0 6 && inB a.credits 0 60)))
def checkA (xs : List At) : Int := if xs.any (fun a => !a.good) then 150 else 0

theorem within_any (n lo hi : Int) (w : World) :
    Calls Try.prog 85 #[.int .i64 n, .int .i64 lo, .int .i64 hi] w fun e w' => e = .returned (.bool (inB n lo hi)) ∧ w = w' := by
  go_enter Try.func85, Try.ntmps85
  go_wp2
  all_goals go_ret
  all_goals refine ⟨ret_bool ?_, rfl⟩
  all_goals (unfold inB; simp_all <;> omega)

set_option maxHeartbeats 2000000 in
theorem fits_any (a : At) (w : World) :
    Calls Try.prog 76 #[a.v] w fun e w' => e = .returned (.bool a.good) ∧ Below w.heap.size w w' := by
  obtain ⟨c, t, g, p, k⟩ := a
  unfold At.v
  go_enter Try.func76, Try.ntmps76
  go_wp2_with (go_at_call 85; refine (within_any _ _ _ _).mono ?_; rintro e w' ⟨rfl, rfl⟩)
  all_goals go_ret
  all_goals refine ⟨ret_bool ?_, by go_grown⟩
  all_goals (simp [At.good, *])

theorem not_fits_any (a : At) (w : World) :
    Calls Try.prog 75 #[a.v] w fun e w' => e = .returned (.bool (!a.good)) ∧ Below w.heap.size w w' := by
  unfold At.v
  go_enter Try.func75, Try.ntmps75
  go_wp2_with fail
  refine (fits_any a _).mono ?_
  rintro e w1 ⟨rfl, hb1⟩
  go_wp2_with fail
  go_ret
  exact ⟨rfl, ((Below.refl _ _).alloc (Nat.le_refl _) _).trans (hb1.mono (by simp))⟩

set_option maxHeartbeats 2000000 in
theorem index_any (p : At → Bool) (g : Nat) (fr : Array Value) (xs : List At) (A : Option Addr) (c : Nat) (w : World)
    (hf : ∀ (x : At) (W : World), Below w.heap.size w W → Calls Try.prog g (#[.agg #[.int .i64 x.course, .int .i64 x.term, .int .i64 x.grade, .int .i64 x.campus, .int .i64 x.credits]] ++ fr) W fun e W' => e = .returned (.bool (p x)) ∧ Below W.heap.size W W')
    (hg : ∀ (args : Array Value) (W : World), Sem.run Try.prog (callFunc g args) W = .ok (.enter g args) W)
    (hx : Reads w w.heap.size A 5 At.enc xs) (hl : xs.length ≤ 9223372036854775807) :
    Calls Try.prog 84 #[.slice A xs.length c, .func (.func g) #[] fr] w fun e w' => (∃ m : Int, e = .returned (.int .i64 m) ∧ decide (0 ≤ m) = xs.any p) ∧ Below w.heap.size w w' := by
  have HF := Lib.hid hf
  have HX := Lib.hid hx
  clear hf hx
  go_enter Try.func84, Try.ntmps84
  go_wp2_with fail
  go_loopw [8] (fun i wr => ∃ k : Nat, k ≤ xs.length ∧ i = .int .i64 k ∧ (∀ j (h : j < xs.length), j < k → p xs[j] = false) ∧ Below w.heap.size w wr) (fun i _ => xs.length - (intOf i).toNat)
  case atStart => exact ⟨0, Nat.zero_le _, rfl, fun _ _ h => absurd h (by omega), Below.refl _ _⟩
  case round =>
    obtain ⟨k, hk, rfl, hno, hB⟩ := hrel
    have HNO := Lib.hid hno
    clear hno
    by_cases hlt : k < xs.length
    · obtain ⟨bb, off, x, rfl, hbl, hxk, hc⟩ := (HX.out.below hB).at_ hlt
      have c0 := hc 0 _ rfl
      have c1 := hc 1 _ rfl
      have c2 := hc 2 _ rfl
      have c3 := hc 3 _ rfl
      have c4 := hc 4 _ rfl
      simp only [Nat.add_zero] at c0
      have HXK := Lib.hid hxk
      have hb2 : bb < wr.heap.size := by have := hB.size; omega
      have HB := Lib.hid hB
      clear hc hxk hB
      cases hp : p x
      · have HP := Lib.hid hp
        clear hp
        go_wp2_with fail
        refine (HF.out x _ HB.out).mono ?_
        rw [HP.out]
        rintro e w1 ⟨rfl, hb1⟩
        go_wp2_with fail
        go_roundw
        case rel => exact ⟨k + 1, by omega, by go_num, step_no HNO.out HXK.out HP.out, HB.out.trans (hb1.mono HB.out.size)⟩
        case measure => simp [intOf]; omega
      · have HP := Lib.hid hp
        clear hp
        go_wp2_with fail
        refine (HF.out x _ HB.out).mono ?_
        rw [HP.out]
        rintro e w1 ⟨rfl, hb1⟩
        go_wp2_with fail
        go_ret
        exact ⟨⟨_, rfl, by rw [any_true HXK.out HP.out]; simp⟩, HB.out.trans (hb1.mono HB.out.size)⟩
    · obtain rfl : k = xs.length := by omega
      have HA : Hid (xs.any p = false) := Lib.hid (any_false (fun j hj => HNO.out j hj hj))
      go_wp2_with fail
      go_ret
      exact ⟨⟨_, rfl, by rw [HA.out]; decide⟩, hB⟩

theorem contains_any (p : At → Bool) (g : Nat) (fr : Array Value) (xs : List At) (A : Option Addr) (c : Nat) (w : World)
    (hf : ∀ (x : At) (W : World), Below w.heap.size w W → Calls Try.prog g (#[.agg #[.int .i64 x.course, .int .i64 x.term, .int .i64 x.grade, .int .i64 x.campus, .int .i64 x.credits]] ++ fr) W fun e W' => e = .returned (.bool (p x)) ∧ Below W.heap.size W W')
    (hg : ∀ (args : Array Value) (W : World), Sem.run Try.prog (callFunc g args) W = .ok (.enter g args) W)
    (hx : Reads w w.heap.size A 5 At.enc xs) (hl : xs.length ≤ 9223372036854775807) :
    Calls Try.prog 74 #[.slice A xs.length c, .func (.func g) #[] fr] w fun e w' => e = .returned (.bool (xs.any p)) ∧ Below w.heap.size w w' := by
  go_enter Try.func74, Try.ntmps74
  go_wp2_with fail
  refine (index_any p g fr xs A c _ hf hg hx hl).mono ?_
  rintro e w1 ⟨⟨m, rfl, hm⟩, hb1⟩
  have HM := Lib.hid hm
  clear hm
  go_wp2_with fail
  go_ret
  exact ⟨ret_bool HM.out, hb1⟩

theorem check_any (xs : List At) (A : Option Addr) (c : Nat) (w : World) (hx : Reads w w.heap.size A 5 At.enc xs) (hl : xs.length ≤ 9223372036854775807) :
    Calls Try.prog 64 #[.slice A xs.length c] w fun e w' => e = .returned (.int .i64 (checkA xs)) ∧ Below w.heap.size w w' := by
  have HX := Lib.hid hx
  clear hx
  cases hb : xs.any (fun a => !a.good)
  all_goals
    unfold checkA
    rw [hb]
    simp only [if_true, if_false, Bool.false_eq_true]
    have HB := Lib.hid hb
    clear hb
    go_enter Try.func64, Try.ntmps64
    go_wp2_with fail
    refine (contains_any (fun a => !a.good) 75 #[] xs A c _ (fun x W _ => not_fits_any x W) (enters_of Try.func75 (by kernel_rfl) rfl) HX.out hl).mono ?_
    rw [HB.out]
    rintro e w1 ⟨rfl, hb1⟩
    go_wp2_with fail
    go_ret
    exact ⟨rfl, hb1⟩

set_option maxHeartbeats 2000000 in
theorem Valid_any (a : At) (w : World) :
    Calls Try.prog 78 #[a.v] w fun e w' => e = .returned (.bool a.good) ∧ Below w.heap.size w w' := by
  obtain ⟨c, t, g, p, k⟩ := a
  unfold At.v
  go_enter Try.func78, Try.ntmps78
  go_wp2_with fail
  all_goals go_ret
  all_goals refine ⟨ret_bool ?_, by go_grown⟩
  all_goals simp only [At.good, inB]
  all_goals first
    | (simp_all; done)
    | (simp_all <;> omega)
    | (have e1 : c ≤ 4095 := (by omega); have e2 : t ≤ 1023 := (by omega); have e3 : p ≤ 6 := (by omega); simp [*]; done)
end Go.Proofs.Ytgimpbcdgfkdmaa
/- weights: an iterator over attempts. -/
namespace Go.Proofs.Ytgimpbcdgfkdmaa
open Go.RowKit Go.Shelf
set_option linter.unusedSimpArgs false
set_option linter.unusedVariables false
attribute [local go_sem] Oper.semAt_some

theorem reads_same {α : Type} {w w' : World} {B sz : Nat} {A : Option Addr} {enc : α → List Value} {xs : List α} (h : Reads w B A sz enc xs) (hk : ∀ b, b < B → w'.heap[b]? = w.heap[b]?) : Reads w' B A sz enc xs := fun hn => by
  obtain ⟨b, off, e, hlt, hc⟩ := h hn
  exact ⟨b, off, e, hlt, fun i x j v hi hj => (World.cell?_of_block (a := ⟨b, _, none⟩) (hk b hlt)).trans (hc i x j v hi hj)⟩
theorem abs_world {F : Fence} {n : Nat} {P : Program} {Q : Exit → Act → World → Prop} {c : Code} {a : Act} {w : World} (h : ∀ W, W = w → c.wpIn F n P Q a W) : c.wpIn F n P Q a w := h w rfl

theorem weights_any (A : Option Addr) (n c : Nat) (w : World) :
    Calls Try.prog 65 #[.slice A n c] w fun e w' =>
      e = .returned (.func (.func 77) #[] #[.pointer (some ⟨w.heap.size, 0, none⟩)]) ∧ w' = w.alloc (.cells #[.slice A n c] 27) := by
  go_enter Try.func65, Try.ntmps65
  go_wp2_with fail
  go_ret
  exact ⟨rfl, rfl⟩

theorem take_at {α : Type} {l : List α} {k : Nat} {x : α} (h : l[k]? = some x) : l.take (k + 1) = l.take k ++ [x] := by
  have hl := (List.getElem?_eq_some_iff.1 h).1
  rw [List.take_succ_eq_append_getElem hl, (List.getElem?_eq_some_iff.1 h).2]

set_option maxRecDepth 100000 in
set_option maxHeartbeats 4000000 in
theorem weights_iter (w : World) (n : Nat) (n₀ Ba : Nat) (hBa : n₀ ≤ Ba) (xs : List At) (hl : xs.length ≤ 9223372036854775807) (free : Nat → Prop) (hfree : ∀ b, free b → n₀ ≤ b ∧ b ≠ Ba) (hn : n₀ ≤ w.heap.size)
    (A : Option Addr) (c : Nat) (h1 : w.cell? ⟨Ba, 0, none⟩ = some (.slice A xs.length c)) (h9 : Reads w n₀ A 5 At.enc xs) (h11 : Ba < w.heap.size) :
    Iter Fence.wide n Try.prog 77 #[.pointer (some ⟨Ba, 0, none⟩)] (fun x : At => #[.int .i64 x.grade, .int .i64 x.credits]) (fun _ => False) (Keep w.heap.size free)
      (fun ys => ys = xs) (fun _ => True) (fun ys => ∃ t, ys ++ t = xs) w := by
  intro l J Jx W hW hJ hJx hY h0
  refine callsIn_wide.2 ?_
  simp only [List.append_toArray, List.cons_append, List.nil_append]
  have fa : ¬ free Ba := fun h => (hfree _ h).2 rfl
  have hK0 : (∀ b, b < n₀ → W.heap[b]? = w.heap[b]?) ∧ W.cell? ⟨Ba, 0, none⟩ = some (.slice A xs.length c) ∧ w.heap.size ≤ W.heap.size :=
    ⟨fun b hb => hW.block b (by omega), (hW.cell (p := ⟨Ba, 0, none⟩) h11).trans h1, hW.size⟩
  have HX := Lib.hid h9
  have HF := Lib.hid fa
  have HFR := Lib.hid hfree
  have HJ := Lib.hid hJ
  have HY := Lib.hid hY
  have H0 := Lib.hid h0
  have HK := Lib.hid hK0
  obtain ⟨_, hc1, hzw⟩ := hK0
  have hBa2 : Ba < W.heap.size := by omega
  clear h1 h9 h0 hJ hY hfree fa hJx hW
  go_enter Try.func77, Try.ntmps77
  go_wp2_with fail
  go_loopw [7] (fun i wr => ∃ k : Nat, k ≤ xs.length ∧ i = .int .i64 k ∧ J (xs.take k) wr ∧ (∀ b, b < n₀ → wr.heap[b]? = w.heap[b]?) ∧ wr.cell? ⟨Ba, 0, none⟩ = some (.slice A xs.length c) ∧ w.heap.size ≤ wr.heap.size)
    (fun i _ => xs.length - (intOf i).toNat)
  case atStart => exact ⟨0, Nat.zero_le _, rfl, by simpa using H0.out, HK.out⟩
  case round =>
    obtain ⟨k, hk, rfl, hj, hs, hc1, hzr⟩ := hrel
    have HJ1 := Lib.hid hj
    have HS := Lib.hid hs
    have HXr := Lib.hid (reads_same HX.out hs)
    clear hj hs
    by_cases hlt : k < xs.length
    · obtain ⟨ba, oa, x, rfl, hba, hxk, hca⟩ := HXr.out.at_ hlt
      have a0 := hca 0 _ rfl
      have a1 := hca 1 _ rfl
      have a2 := hca 2 _ rfl
      have a3 := hca 3 _ rfl
      have a4 := hca 4 _ rfl
      simp only [Nat.add_zero] at a0
      have hba2 : ba < wr.heap.size := by omega
      have htk := take_at hxk
      have HT := Lib.hid htk
      have hjn : J (xs.take k) (wr.alloc (.cells #[.int .i64 x.course, .int .i64 x.term, .int .i64 x.grade, .int .i64 x.campus, .int .i64 x.credits] 47)) := HJ.out.1 _ _ _ HJ1.out ((Below.refl _ _).alloc (Nat.le_refl _) _)
      obtain ⟨fn, tmps, assign, body, hy, hR⟩ := HY.out _ x _ hjn ⟨xs.drop (k + 1), by rw [← htk, List.take_append_drop]⟩
      try simp only at hy
      clear hca hxk htk hjn
      refine (wpIn_wide (n := n)).1 ?_
      gi_wp2
      refine ⟨fun h => (by cases h), hR.mono ?_⟩
      rintro e W3 (⟨rfl, hJ3, hk3⟩ | ⟨rfl, hJx3⟩)
      · have hk31 := hk3.1
        simp only [World.size_alloc] at hk31
        have e1 := (hk3.cell (a := ⟨Ba, 0, none⟩) h11 HF.out).trans (((Below.refl wr.heap.size wr).alloc (Nat.le_refl _) (.cells #[.int .i64 x.course, .int .i64 x.term, .int .i64 x.grade, .int .i64 x.campus, .int .i64 x.credits] 47)).cell (p := ⟨Ba, 0, none⟩) (by show Ba < wr.heap.size; omega) |>.trans hc1)
        have HK3 := Lib.hid hk3
        have HJ3 := Lib.hid hJ3
        clear hk3 hJ3
        gi_wp2
        go_roundw
        case rel => exact ⟨k + 1, by omega, by go_num, by rw [HT.out]; exact HJ3.out, fun b hb => ((HK3.out.2 b (by omega) (fun h => by have := (HFR.out _ h).1; omega)).trans (Below.heap_alloc _ _ _ (by omega))).trans (HS.out b hb), e1, by omega⟩
        case measure => simp [intOf]; omega
      · gi_wp2
        refine bodyPost_ret (results_none rfl _ _ _) rfl ?_
        exact ⟨⟨_, rfl⟩, .inr ⟨_, trivial, hJx3⟩⟩
    · obtain rfl : k = xs.length := by omega
      go_wp2_with fail
      go_end0
      have hj := HJ1.out
      rw [List.take_length] at hj
      exact ⟨⟨_, rfl⟩, .inl ⟨_, rfl, hj⟩⟩
end Go.Proofs.Ytgimpbcdgfkdmaa
/- The reference's check; Few. -/
namespace Go.Proofs.Ytgimpbcdgfkdmaa
open Go.RowKit Go.Shelf
set_option linter.unusedSimpArgs false
set_option linter.unusedVariables false

set_option maxHeartbeats 2000000 in
theorem RAvCheck_any (xs : List At) (A : Option Addr) (c : Nat) (w : World) (hx : Reads w w.heap.size A 5 At.enc xs) (hl : xs.length ≤ 9223372036854775807) :
    Calls Try.prog 66 #[.slice A xs.length c] w fun e w' => e = .returned (.int .i64 (checkA xs)) ∧ Below w.heap.size w w' := by
  have HX := Lib.hid hx
  clear hx
  go_enter Try.func66, Try.ntmps66
  go_wp2_with fail
  go_loopw [3] (fun i wr => ∃ k : Nat, k ≤ xs.length ∧ i = .int .i64 k ∧ (∀ j (h : j < xs.length), j < k → (!xs[j].good) = false) ∧ Below w.heap.size w wr) (fun i _ => xs.length - (intOf i).toNat)
  case atStart => exact ⟨0, Nat.zero_le _, rfl, fun _ _ h => absurd h (by omega), Below.refl _ _⟩
  case round =>
    obtain ⟨k, hk, rfl, hno, hB⟩ := hrel
    have HNO := Lib.hid hno
    clear hno
    by_cases hlt : k < xs.length
    · obtain ⟨bb, off, x, rfl, hbl, hxk, hc⟩ := (HX.out.below hB).at_ hlt
      have c0 := hc 0 _ rfl
      have c1 := hc 1 _ rfl
      have c2 := hc 2 _ rfl
      have c3 := hc 3 _ rfl
      have c4 := hc 4 _ rfl
      simp only [Nat.add_zero] at c0
      have HXK := Lib.hid hxk
      have hb2 : bb < wr.heap.size := by have := hB.size; omega
      have HB := Lib.hid hB
      clear hc hxk hB
      cases hp : x.good
      · have HP := Lib.hid hp
        have HA : Hid (checkA xs = 150) := Lib.hid (by unfold checkA; rw [any_true HXK.out (by simp [hp])]; rfl)
        clear hp
        go_wp2_with fail
        refine (Valid_any x _).mono ?_
        rw [HP.out]
        rintro e w1 ⟨rfl, hb1⟩
        go_wp2_with fail
        go_ret
        exact ⟨ret_int HA.out.symm, HB.out.trans (hb1.mono HB.out.size)⟩
      · have HP := Lib.hid hp
        clear hp
        go_wp2_with fail
        refine (Valid_any x _).mono ?_
        rw [HP.out]
        rintro e w1 ⟨rfl, hb1⟩
        go_wp2_with fail
        go_roundw
        case rel => exact ⟨k + 1, by omega, by go_num, step_no (p := fun a => !a.good) HNO.out HXK.out (by simp [HP.out]), HB.out.trans (hb1.mono HB.out.size)⟩
        case measure => simp [intOf]; omega
    · obtain rfl : k = xs.length := by omega
      have HA : Hid (checkA xs = 0) := Lib.hid (by unfold checkA; rw [any_false (fun j hj => HNO.out j hj hj)]; rfl)
      go_wp2_with fail
      go_ret
      exact ⟨ret_int HA.out.symm, hB⟩
end Go.Proofs.Ytgimpbcdgfkdmaa
/- The reference's Sums. -/
namespace Go.Proofs.Ytgimpbcdgfkdmaa
open Go.RowKit Go.Shelf
set_option linter.unusedSimpArgs false
set_option linter.unusedVariables false

def sC : List At → Int
  | [] => 0
  | x :: l => x.credits + sC l
def sP : List At → Int
  | [] => 0
  | x :: l => x.grade * x.credits + sP l
theorem sC_snoc (x : At) : ∀ l, sC (l ++ [x]) = sC l + x.credits
  | [] => by simp [sC]
  | y :: l => by simp only [List.cons_append, sC, sC_snoc x l]; omega
theorem sP_snoc (x : At) : ∀ l, sP (l ++ [x]) = sP l + x.grade * x.credits
  | [] => by simp [sP]
  | y :: l => by simp only [List.cons_append, sP, sP_snoc x l]; omega
theorem good_at {x : At} (h : x.good = true) : 0 ≤ x.grade ∧ x.grade ≤ 12 ∧ 0 ≤ x.credits ∧ x.credits ≤ 60 ∧ 0 ≤ x.grade * x.credits ∧ x.grade * x.credits ≤ 720 := by
  simp [At.good, inB] at h
  obtain ⟨_, _, ⟨g0, g1⟩, _, c0, c1⟩ := h
  have h1 : x.grade.natAbs ≤ 12 := by omega
  have h2 : x.credits.natAbs ≤ 60 := by omega
  have h3 : (x.grade * x.credits).natAbs ≤ 12 * 60 := by rw [Int.natAbs_mul]; exact Nat.mul_le_mul h1 h2
  have h4 : 0 ≤ x.grade * x.credits := Int.mul_nonneg g0 c0
  omega
theorem sums_at : ∀ l : List At, (∀ x ∈ l, x.good = true) → 0 ≤ sC l ∧ sC l ≤ 60 * (l.length : Int) ∧ 0 ≤ sP l ∧ sP l ≤ 720 * (l.length : Int)
  | [], _ => by simp [sC, sP]
  | x :: l, h => by
    obtain ⟨h1, h2, h3, h4⟩ := sums_at l (fun y hy => h y (List.mem_cons_of_mem _ hy))
    obtain ⟨g1, g2, g3, g4, g5, g6⟩ := good_at (h x (List.mem_cons_self ..))
    simp only [sC, sP, List.length_cons]
    omega
/-- Sums -/
def sumsA (xs : List At) : Int × Int × Int := if xs.any (fun a => !a.good) then (0, 0, 150) else (sC xs, sP xs, 0)

set_option maxHeartbeats 2000000 in
theorem RSums_any (xs : List At) (A : Option Addr) (c : Nat) (w : World) (hx : Reads w w.heap.size A 5 At.enc xs) (hl : xs.length ≤ 100000) :
    Calls Try.prog 46 #[.slice A xs.length c] w fun e w' => e = .returned (.tuple #[.int .i64 (sumsA xs).1, .int .i64 (sumsA xs).2.1, .int .i64 (sumsA xs).2.2]) ∧ Below w.heap.size w w' := by
  have HX := Lib.hid hx
  clear hx
  cases hb : xs.any (fun a => !a.good)
  · have hg : ∀ x ∈ xs, x.good = true := fun x h => by have := List.any_eq_false.1 hb x h; simpa using this
    have HG := Lib.hid hg
    have HC : Hid (checkA xs = 0) := Lib.hid (by unfold checkA; rw [hb]; rfl)
    have hv : sumsA xs = (sC xs, sP xs, 0) := by unfold sumsA; rw [hb]; rfl
    rw [hv]
    clear hb hg hv
    go_enter Try.func46, Try.ntmps46
    go_wp2_with fail
    refine (RAvCheck_any xs A c _ HX.out (by omega)).mono ?_
    rw [HC.out]
    rintro e w1 ⟨rfl, hb1⟩
    go_wp2_with fail
    go_loopw [6, 7, 8] (fun s t i wr => ∃ k : Nat, k ≤ xs.length ∧ i = .int .i64 k ∧ s = .int .i64 (sC (xs.take k)) ∧ t = .int .i64 (sP (xs.take k)) ∧ Below w.heap.size w wr) (fun _ _ i _ => xs.length - (intOf i).toNat)
    case atStart => exact ⟨0, Nat.zero_le _, rfl, rfl, rfl, hb1⟩
    case round =>
      clear hb1
      obtain ⟨k, hk, rfl, rfl, rfl, hB⟩ := hrel
      obtain ⟨b1, b2, b3, b4⟩ := sums_at (xs.take k) (fun x h => HG.out x (List.mem_of_mem_take h))
      have htl : (xs.take k).length ≤ 100000 := by simp; omega
      obtain ⟨s, hs⟩ : ∃ s, s = sC (xs.take k) := ⟨_, rfl⟩
      obtain ⟨t, ht⟩ : ∃ t, t = sP (xs.take k) := ⟨_, rfl⟩
      rw [← hs] at b1 b2
      rw [← ht] at b3 b4
      rw [← hs, ← ht]
      have HS := Lib.hid hs
      have HT := Lib.hid ht
      have c1 : s ≤ 6000000 := by omega
      have c2 : t ≤ 72000000 := by omega
      clear hs ht b2 b4 htl
      by_cases hlt : k < xs.length
      · obtain ⟨bb, off, x, rfl, hbl, hxk, hc⟩ := (HX.out.below hB).at_ hlt
        have a2 := hc 2 _ rfl
        have a4 := hc 4 _ rfl
        obtain ⟨g1, g2, g3, g4, g5, g6⟩ := good_at (HG.out x (List.mem_of_getElem? hxk))
        obtain ⟨P, hP⟩ : ∃ P, x.grade * x.credits = P := ⟨_, rfl⟩
        rw [hP] at g5 g6
        have e1 : sC (xs.take (k + 1)) = s + x.credits := by rw [take_at hxk, sC_snoc, ← HS.out]
        have e2 : sP (xs.take (k + 1)) = t + P := by rw [take_at hxk, sP_snoc, ← HT.out, hP]
        have E1 := Lib.hid e1
        have E2 := Lib.hid e2
        have hb2 : bb < wr.heap.size := by have := hB.size; omega
        have HB := Lib.hid hB
        clear hc hxk hB e1 e2
        go_wp2_with fail
        go_region
        go_wp2_with fail
        go_roundw
        case rel => exact ⟨k + 1, by omega, by go_num, by rw [E1.out], by rw [E2.out], by first | exact HB.out | exact HB.out.drew | exact HB.out.drew.drew⟩
        case measure => simp [intOf]; omega
      · obtain rfl : k = xs.length := by omega
        have hs := HS.out
        have ht := HT.out
        rw [List.take_length] at hs ht
        have HS2 := Lib.hid hs
        have HT2 := Lib.hid ht
        clear hs ht
        go_wp2_with fail
        go_ret3
        refine ⟨?_, hB⟩
        simp only
        rw [← HS2.out, ← HT2.out]
        rfl
  · have HC : Hid (checkA xs = 150) := Lib.hid (by unfold checkA; rw [hb]; rfl)
    have hv : sumsA xs = (0, 0, 150) := by unfold sumsA; rw [hb]; rfl
    rw [hv]
    clear hb hv
    go_enter Try.func46, Try.ntmps46
    go_wp2_with fail
    refine (RAvCheck_any xs A c _ HX.out (by omega)).mono ?_
    rw [HC.out]
    rintro e w1 ⟨rfl, hb1⟩
    go_wp2_with fail
    go_ret3
    exact ⟨rfl, hb1⟩
end Go.Proofs.Ytgimpbcdgfkdmaa
