/- Edges in memory; Check and check, and the reference's Check. -/
import Derived.Test.YtjpnbpfbdkbknaaLib
import Derived.Test.YtjpnbpfbdkbknaaRows
import Derived.Test.YtjpnbpfbdkbknaaQuiet
import Derived.Test.YtjpnbpfbdkbknaaSeq
import Derived.Test.YtjpnbpfbdkbknaaFlowQ
import Derived.BigQuiet
import Derived.BigRegion
import Derived.Deep.QuietTactic
import Derived.StillTailTactics
import Derived.Laws.EntriesVeiled
import Derived.Handy
namespace Go.Proofs.Ytjpnbpfbdkbknaa
open Go.RowKit Go.Shelf
set_option linter.unusedSimpArgs false
set_option linter.unusedVariables false

def Ed.v (s : Ed) : Value := .agg #[.int .i64 s.f, .int .i64 s.t, .int .i64 s.m]
def Ed.enc (s : Ed) : List Value := [.int .i64 s.f, .int .i64 s.t, .int .i64 s.m]
def inV (n v : Int) : Bool := decide (0 ≤ v) && decide (v < n)

theorem node_any (n v : Int) (b : Nat) (w : World) (hb : w.cell? ⟨b, 0, none⟩ = some (.int .i64 n)) :
    Calls Try.prog 26 #[.int .i64 v, .pointer (some ⟨b, 0, none⟩)] w fun e w' => e = .returned (.bool (inV n v)) ∧ w = w' := by
  go_enter Try.func26, Try.ntmps26
  go_wp2
  all_goals go_ret
  all_goals refine ⟨ret_bool ?_, rfl⟩
  all_goals (unfold inV; simp_all <;> omega)

theorem bad_any (n : Int) (x : Ed) (b c : Nat) (w : World) (hb : w.cell? ⟨b, 0, none⟩ = some (.int .i64 n)) (hc : w.cell? ⟨c, 0, none⟩ = some (.func (.func 26) #[] #[.pointer (some ⟨b, 0, none⟩)])) (hbl : b < w.heap.size) (hcl : c < w.heap.size) :
    Calls Try.prog 28 #[.agg #[.int .i64 x.f, .int .i64 x.t, .int .i64 x.m], .pointer (some ⟨c, 0, none⟩)] w fun e w' => e = .returned (.bool (!okE n x)) ∧ Below w.heap.size w w' := by
  have he := enters_of Try.func26 (by kernel_rfl) rfl
  obtain ⟨f, t, m⟩ := x
  go_enter Try.func28, Try.ntmps28
  go_wp2_with (go_at_call 26; refine (node_any n _ b _ (by go_simp)).mono ?_; rintro e w' ⟨rfl, rfl⟩)
  all_goals go_ret
  all_goals refine ⟨ret_bool ?_, by go_grown⟩
  all_goals (unfold okE inV at *; by_cases q1 : f = t <;> by_cases q2 : m < 0 <;> by_cases q3 : 1073741824 < m <;> simp_all <;> omega)

set_option maxHeartbeats 2000000 in
theorem index_any (p : Ed → Bool) (g : Nat) (fr : Array Value) (xs : List Ed) (A : Option Addr) (c : Nat) (w : World)
    (hf : ∀ (x : Ed) (W : World), Below w.heap.size w W → Calls Try.prog g (#[.agg #[.int .i64 x.f, .int .i64 x.t, .int .i64 x.m]] ++ fr) W fun e W' => e = .returned (.bool (p x)) ∧ Below W.heap.size W W')
    (hg : ∀ (args : Array Value) (W : World), Sem.run Try.prog (callFunc g args) W = .ok (.enter g args) W)
    (hx : Reads w w.heap.size A 3 Ed.enc xs) (hl : xs.length ≤ 9223372036854775807) :
    Calls Try.prog 39 #[.slice A xs.length c, .func (.func g) #[] fr] w fun e w' => (∃ m : Int, e = .returned (.int .i64 m) ∧ decide (0 ≤ m) = xs.any p) ∧ Below w.heap.size w w' := by
  have HF := Lib.hid hf
  have HX := Lib.hid hx
  clear hf hx
  go_enter Try.func39, Try.ntmps39
  go_wp2_with fail
  go_loopw [8] (fun i wr => ∃ k : Nat, k ≤ xs.length ∧ i = .int .i64 k ∧ (∀ j (h : j < xs.length), j < k → p xs[j] = false) ∧ Below w.heap.size w wr) (fun i _ => xs.length - (intOf i).toNat)
  case atStart => exact ⟨0, Nat.zero_le _, rfl, fun _ _ h => absurd h (by omega), Below.refl _ _⟩
  case round =>
    obtain ⟨k, hk, rfl, hno, hB⟩ := hrel
    have HNO := Lib.hid hno
    clear hno
    by_cases hlt : k < xs.length
    · obtain ⟨bb, off, x, rfl, hbl, hxk, hc⟩ := (HX.out.below hB).at_ hlt
      have c0 := hc 0 _ rfl
      have c1 := hc 1 _ rfl
      have c2 := hc 2 _ rfl
      simp only [Nat.add_zero] at c0
      have HXK := Lib.hid hxk
      have hb2 : bb < wr.heap.size := by have := hB.size; omega
      have HB := Lib.hid hB
      clear hc hxk hB
      cases hp : p x
      · have HP := Lib.hid hp
        clear hp
        go_wp2_with fail
        refine (HF.out x _ HB.out).mono ?_
        rw [HP.out]
        rintro e w1 ⟨rfl, hb1⟩
        go_wp2_with fail
        go_roundw
        case rel => exact ⟨k + 1, by omega, by go_num, step_no HNO.out HXK.out HP.out, HB.out.trans (hb1.mono HB.out.size)⟩
        case measure => simp [intOf]; omega
      · have HP := Lib.hid hp
        clear hp
        go_wp2_with fail
        refine (HF.out x _ HB.out).mono ?_
        rw [HP.out]
        rintro e w1 ⟨rfl, hb1⟩
        go_wp2_with fail
        go_ret
        exact ⟨⟨_, rfl, by rw [any_true HXK.out HP.out]; simp⟩, HB.out.trans (hb1.mono HB.out.size)⟩
    · obtain rfl : k = xs.length := by omega
      have HA : Hid (xs.any p = false) := Lib.hid (any_false (fun j hj => HNO.out j hj hj))
      go_wp2_with fail
      go_ret
      exact ⟨⟨_, rfl, by rw [HA.out]; decide⟩, hB⟩

theorem contains_any (p : Ed → Bool) (g : Nat) (fr : Array Value) (xs : List Ed) (A : Option Addr) (c : Nat) (w : World)
    (hf : ∀ (x : Ed) (W : World), Below w.heap.size w W → Calls Try.prog g (#[.agg #[.int .i64 x.f, .int .i64 x.t, .int .i64 x.m]] ++ fr) W fun e W' => e = .returned (.bool (p x)) ∧ Below W.heap.size W W')
    (hg : ∀ (args : Array Value) (W : World), Sem.run Try.prog (callFunc g args) W = .ok (.enter g args) W)
    (hx : Reads w w.heap.size A 3 Ed.enc xs) (hl : xs.length ≤ 9223372036854775807) :
    Calls Try.prog 27 #[.slice A xs.length c, .func (.func g) #[] fr] w fun e w' => e = .returned (.bool (xs.any p)) ∧ Below w.heap.size w w' := by
  go_enter Try.func27, Try.ntmps27
  go_wp2_with fail
  refine (index_any p g fr xs A c _ hf hg hx hl).mono ?_
  rintro e w1 ⟨⟨m, rfl, hm⟩, hb1⟩
  have HM := Lib.hid hm
  clear hm
  go_wp2_with fail
  go_ret
  exact ⟨ret_bool HM.out, hb1⟩


theorem any_ok (n : Int) (xs : List Ed) : xs.any (fun x => !okE n x) = !xs.all (okE n) := by
  induction xs with
  | nil => rfl
  | cons x xs ih => simp only [List.any_cons, List.all_cons, ih, Bool.not_and]

set_option maxHeartbeats 2000000 in
theorem Check_any (n : Int) (xs : List Ed) (A : Option Addr) (c : Nat) (w : World) (hx : Reads w w.heap.size A 3 Ed.enc xs) (hl : xs.length ≤ 9223372036854775807) :
    Calls Try.prog 17 #[.int .i64 n, .slice A xs.length c] w fun e w' => e = .returned (.int .i64 (chkN n xs)) ∧ Below w.heap.size w w' := by
  have HX := Lib.hid hx
  clear hx
  by_cases h1 : 2 ≤ n ∧ n ≤ 4096 ∧ xs.length ≤ 65536
  · obtain ⟨h1, h2, h3⟩ := h1
    have e1 : decide (n < 2) = false := by simp; omega
    have e2 : decide (4096 < n) = false := by simp; omega
    have e3 : decide ((65536 : Int) < (xs.length : Int)) = false := by simp; omega
    have ec : chkN n xs = if xs.any (fun x => !okE n x) then 180 else 0 := by
      rw [any_ok]
      unfold chkN okN
      simp only [decide_eq_true h1, decide_eq_true h2, decide_eq_true h3, Bool.true_and]
      cases xs.all (okE n) <;> rfl
    rw [ec]
    clear ec h1 h2 h3
    cases hb : xs.any (fun x => !okE n x)
    all_goals
      simp only [if_true, if_false, Bool.false_eq_true]
      have HB := Lib.hid hb
      clear hb
      go_enter Try.func17, Try.ntmps17
      go_wp2_with fail
      obtain ⟨W, hW⟩ : ∃ W, W = (w.alloc (.cells #[.int .i64 n] 3)).alloc (.cells #[.func (.func 26) #[] #[.pointer (some ⟨w.heap.size, 0, none⟩)]] 46) := ⟨_, rfl⟩
      have hb0 : Below w.heap.size w W := by rw [hW]; exact ((Below.refl _ _).alloc (Nat.le_refl _) _).alloc (by simp) _
      have k1 : W.cell? ⟨w.heap.size, 0, none⟩ = some (.int .i64 n) := by rw [hW]; simp [go_sem]
      have k2 : W.cell? ⟨w.heap.size + 1, 0, none⟩ = some (.func (.func 26) #[] #[.pointer (some ⟨w.heap.size, 0, none⟩)]) := by rw [hW]; simp [go_sem]
      have kz : W.heap.size = w.heap.size + 2 := by rw [hW]; simp
      rw [← hW]
      clear hW
      refine (contains_any (fun x => !okE n x) 28 #[.pointer (some ⟨w.heap.size + 1, 0, none⟩)] xs A c _ (fun x W' hB => bad_any n x w.heap.size (w.heap.size + 1) W' ((hB.cell (p := ⟨_, 0, none⟩) (by show w.heap.size < _; omega)).trans k1) ((hB.cell (p := ⟨_, 0, none⟩) (by show w.heap.size + 1 < _; omega)).trans k2) (by have := hB.size; omega) (by have := hB.size; omega)) (enters_of Try.func28 (by kernel_rfl) rfl) ((HX.out.below hb0).more (by omega)) hl).mono ?_
      rw [HB.out]
      rintro e w1 ⟨rfl, hb1⟩
      go_wp2_with fail
      go_ret
      exact ⟨rfl, hb0.trans (hb1.mono (by omega))⟩
  · have ec : chkN n xs = 180 := by
      unfold chkN
      rw [if_neg]
      intro h
      obtain ⟨h2, h3, h4, _⟩ := okN_out h
      exact h1 ⟨h2, h3, h4⟩
    rw [ec]
    have ways : decide (n < 2) = true ∨ (decide (n < 2) = false ∧ decide (4096 < n) = true) ∨ (decide (n < 2) = false ∧ decide (4096 < n) = false ∧ decide ((65536 : Int) < (xs.length : Int)) = true) := by simp; omega
    clear h1 ec
    rcases ways with e1 | ⟨e1, e2⟩ | ⟨e1, e2, e3⟩
    all_goals
      go_enter Try.func17, Try.ntmps17
      go_wp2_with fail
      go_ret
      exact ⟨rfl, by go_grown⟩

theorem check_any (n a b : Int) (xs : List Ed) (A : Option Addr) (c : Nat) (w : World) (hx : Reads w w.heap.size A 3 Ed.enc xs) (hl : xs.length ≤ 9223372036854775807) :
    Calls Try.prog 23 #[.int .i64 n, .slice A xs.length c, .int .i64 a, .int .i64 b] w fun e w' => e = .returned (.int .i64 (if okX n xs a b then 0 else 180)) ∧ Below w.heap.size w w' := by
  have HC := Lib.hid (Check_any n xs A c w hx hl)
  unfold okX
  unfold chkN at HC
  cases h0 : okN n xs
  · simp only [h0, Bool.false_and, if_false, Bool.false_eq_true] at HC ⊢
    clear h0
    go_enter Try.func23, Try.ntmps23
    go_wp2_with fail
    refine (HC.out).mono ?_
    rintro e w1 ⟨rfl, hb1⟩
    go_wp2_with fail
    go_ret
    exact ⟨rfl, hb1⟩
  · simp only [h0, Bool.true_and, if_true] at HC ⊢
    clear h0
    have ways : okV n a b = true ∧ decide (a < 0) = false ∧ decide (n ≤ a) = false ∧ decide (b < 0) = false ∧ decide (n ≤ b) = false ∧ (a == b) = false ∨
      okV n a b = false ∧ (decide (a < 0) = true ∨ decide (a < 0) = false ∧ (decide (n ≤ a) = true ∨ decide (n ≤ a) = false ∧ (decide (b < 0) = true ∨ decide (b < 0) = false ∧ (decide (n ≤ b) = true ∨ decide (n ≤ b) = false ∧ (a == b) = true)))) := by
      simp [okV]; omega
    rcases ways with ⟨h, e1, e2, e3, e4, e5⟩ | ⟨h, ways⟩
    · simp only [h, if_true]
      clear h
      go_enter Try.func23, Try.ntmps23
      go_wp2_with fail
      refine (HC.out).mono ?_
      rintro e w1 ⟨rfl, hb1⟩
      go_wp2_with fail
      go_ret
      exact ⟨rfl, hb1⟩
    · simp only [h, if_false, Bool.false_eq_true]
      clear h
      rcases ways with e1 | ⟨e1, e2 | ⟨e2, e3 | ⟨e3, e4 | ⟨e4, e5⟩⟩⟩⟩
      all_goals
        go_enter Try.func23, Try.ntmps23
        go_wp2_with fail
        refine (HC.out).mono ?_
        rintro e w1 ⟨rfl, hb1⟩
        go_wp2_with fail
        go_ret
        exact ⟨rfl, hb1⟩
end Go.Proofs.Ytjpnbpfbdkbknaa
