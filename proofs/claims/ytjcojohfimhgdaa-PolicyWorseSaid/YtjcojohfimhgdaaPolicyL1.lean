/- PolicySpec and PolicyUntilSpec, walked: program and reference compute one and the same. -/
import Derived.Test.YtjcojohfimhgdaaPolicyT
namespace Go.Proofs.Ytjcojohfimhgdaa
open Go.RowKit

set_option maxHeartbeats 1000000 in
theorem PolicySpec_any {w : World} (xs : List Cl) (A : Option Addr) (c : Nat) (hx0 : Reads w w.heap.size A 4 Cl.enc xs) (hq : ∀ y ∈ xs, y.ok) (hm : xs.length ≤ maxLen)
    (kind : Int) (wk : (Lit.int .i64 kind).wf = true) (b : Int) (wb : (Lit.int .i64 b).wf = true) (a : Int) (wa : (Lit.int .i64 a).wf = true) (term : Int) (wt : (Lit.int .i64 term).wf = true) (now : Int) (wn : (Lit.int .i64 now).wf = true) :
    Calls Try.prog 3 #[.slice A xs.length c, .int .i64 kind, .int .i64 b, .int .i64 a, .int .i64 term, .int .i64 now] w fun e w' => e = .returned (.bool true) ∧ Below w.heap.size w w' := by
  unfold maxLen at hm
  clear hq wk wb wa wt wn
  have HX := Lib.hid hx0
  clear hx0
  go_enter Try.func3, Try.ntmps3
  go_wp2_with fail
  refine (sane_any _).mono ?_
  rintro e w1 ⟨rfl, hb1⟩
  go_wp2_with fail
  refine (few_any xs A c _).mono ?_
  rintro e w1' ⟨rfl, rfl⟩
  by_cases h30 : xs.length ≤ 30
  · have hd : decide (xs.length ≤ 30) = true := by simpa using h30
    rw [hd]
    clear hd
    go_wp2_with fail
    refine (Action_any xs A c kind b a term now _ ((HX.out.below hb1).more hb1.size) hm).mono ?_
    rintro e w2 ⟨rfl, hb2⟩
    have G2 := hb1.trans (hb2.mono hb1.size)
    go_wp2_with fail
    refine (RAction_any xs A c kind b a term now _ ((HX.out.below G2).more G2.size) hm).mono ?_
    rintro e w3 ⟨rfl, hb3⟩
    have G3 := G2.trans (hb3.mono G2.size)
    go_wp2_with fail
    refine (Check_any xs A c _ ((HX.out.below G3).more G3.size) hm).mono ?_
    rintro e w4 ⟨rfl, hb4⟩
    have G4 := G3.trans (hb4.mono G3.size)
    go_wp2_with fail
    refine (RCheck_any xs A c _ ((HX.out.below G4).more G4.size) hm).mono ?_
    rintro e w5 ⟨rfl, hb5⟩
    have G5 := G4.trans (hb5.mono G4.size)
    go_wp2_with fail
    go_ret
    exact ⟨ret_bool (by simp), G5⟩
  · have hd : decide (xs.length ≤ 30) = false := by simpa using h30
    rw [hd]
    clear hd
    go_wp2_with fail
    go_ret
    exact ⟨rfl, hb1⟩

set_option maxHeartbeats 1000000 in
theorem PolicyUntilSpec_any {w : World} (xs : List Cl) (A : Option Addr) (c : Nat) (hx0 : Reads w w.heap.size A 4 Cl.enc xs) (hq : ∀ y ∈ xs, y.ok) (hm : xs.length ≤ maxLen)
    (kind : Int) (wk : (Lit.int .i64 kind).wf = true) (b : Int) (wb : (Lit.int .i64 b).wf = true) (a : Int) (wa : (Lit.int .i64 a).wf = true) (term : Int) (wt : (Lit.int .i64 term).wf = true) :
    Calls Try.prog 4 #[.slice A xs.length c, .int .i64 kind, .int .i64 b, .int .i64 a, .int .i64 term] w fun e w' => e = .returned (.bool true) ∧ Below w.heap.size w w' := by
  unfold maxLen at hm
  clear hq wk wb wa wt
  have HX := Lib.hid hx0
  clear hx0
  go_enter Try.func4, Try.ntmps4
  go_wp2_with fail
  refine (sane_any _).mono ?_
  rintro e w1 ⟨rfl, hb1⟩
  go_wp2_with fail
  refine (few_any xs A c _).mono ?_
  rintro e w1' ⟨rfl, rfl⟩
  by_cases h30 : xs.length ≤ 30
  · have hd : decide (xs.length ≤ 30) = true := by simpa using h30
    rw [hd]
    clear hd
    go_wp2_with fail
    refine (Until_any xs A c kind b a term _ ((HX.out.below hb1).more hb1.size) hm).mono ?_
    rintro e w2 ⟨rfl, hb2⟩
    have G2 := hb1.trans (hb2.mono hb1.size)
    go_wp2_with fail
    refine (RUntil_any xs A c kind b a term _ ((HX.out.below G2).more G2.size) hm).mono ?_
    rintro e w3 ⟨rfl, hb3⟩
    have G3 := G2.trans (hb3.mono G2.size)
    go_wp2_with fail
    refine (Worse_any kind b a _).mono ?_
    rintro e w4 ⟨rfl, hb4⟩
    have G4 := G3.trans (hb4.mono G3.size)
    go_wp2_with fail
    refine (RWorse_any kind b a _).mono ?_
    rintro e w5 ⟨rfl, rfl⟩
    go_wp2_with fail
    go_ret
    exact ⟨ret_bool (by simp), G4⟩
  · have hd : decide (xs.length ≤ 30) = false := by simpa using h30
    rw [hd]
    clear hd
    go_wp2_with fail
    go_ret
    exact ⟨rfl, hb1⟩

set_option maxHeartbeats 1000000 in
theorem PolicyWorse_any {w : World} (kind : Int) (wk : (Lit.int .i64 kind).wf = true) (a : Int) (wa : (Lit.int .i64 a).wf = true) (b : Int) (wb : (Lit.int .i64 b).wf = true) (c : Int) (wc : (Lit.int .i64 c).wf = true) :
    Calls Try.prog 8 #[.int .i64 kind, .int .i64 a, .int .i64 b, .int .i64 c] w fun e w' => e = .returned (.bool true) ∧ Below w.heap.size w w' := by
  clear wk wb wa wc
  go_enter Try.func8, Try.ntmps8
  go_wp2_with fail
  refine (sane_any _).mono ?_
  rintro e w1 ⟨rfl, hb1⟩
  cases hk : kindB kind
  · have hw : ∀ x y, worseP kind x y = (0, 1) := fun x y => by simp [worseP, hk]
    have hkk : kind < 1 ∨ 5 < kind := by simp [kindB] at hk; omega
    have HW := Lib.hid hw
    clear hw hk
    go_wp2_with fail
    refine (Worse_any kind a b _).mono ?_
    rw [HW.out]
    rintro e w2 ⟨rfl, hb2⟩
    have G2 := hb1.trans (hb2.mono hb1.size)
    go_wp2_with fail
    refine (Worse_any kind b a _).mono ?_
    rw [HW.out]
    rintro e w3 ⟨rfl, hb3⟩
    have G3 := G2.trans (hb3.mono G2.size)
    go_wp2_with fail
    refine (Worse_any kind b c _).mono ?_
    rw [HW.out]
    rintro e w4 ⟨rfl, hb4⟩
    have G4 := G3.trans (hb4.mono G3.size)
    go_wp2_with fail
    refine (Worse_any kind a c _).mono ?_
    rw [HW.out]
    rintro e w5 ⟨rfl, hb5⟩
    have G5 := G4.trans (hb5.mono G4.size)
    go_wp2_with fail
    all_goals go_ret
    all_goals exact ⟨rfl, G5⟩
  · have hkk : 1 ≤ kind ∧ kind ≤ 5 := by simpa [kindB] using hk
    obtain ⟨k1, k5⟩ := hkk
    obtain ⟨f, hf⟩ : ∃ f : Int → Int → Int, f = fun x y => (worseP kind x y).1 := ⟨_, rfl⟩
    have hw : ∀ x y, worseP kind x y = (f x y, 0) := fun x y => by rw [hf]; simp [worseP, hk]
    have hf3 : (kind = 3 ∧ ∀ x y, f x y = cmpI x y) ∨ (kind ≠ 3 ∧ ∀ x y, f x y = cmpI y x) := by
      by_cases h3 : kind = 3
      · subst h3; exact .inl ⟨rfl, fun x y => by rw [hf]; simp [worseP, hk]⟩
      · exact .inr ⟨h3, fun x y => by rw [hf]; simp [worseP, hk, h3]⟩
    have hcm : ∀ x y : Int, -1 ≤ cmpI x y ∧ cmpI x y ≤ 1 ∧ cmpI x y = -cmpI y x ∧ (cmpI x y = 0 ↔ x = y) ∧ (cmpI x y < 0 ↔ x < y) := fun x y => by
      unfold cmpI; (repeat' split) <;> omega
    obtain ⟨n, hn⟩ : ∃ n, n = f a b := ⟨_, rfl⟩
    obtain ⟨m, hm⟩ : ∃ n, n = f b a := ⟨_, rfl⟩
    obtain ⟨k, hk'⟩ : ∃ n, n = f b c := ⟨_, rfl⟩
    obtain ⟨l, hl⟩ : ∃ n, n = f a c := ⟨_, rfl⟩
    obtain ⟨o, ho⟩ : ∃ n, n = cmpI a b := ⟨_, rfl⟩
    have facts : -1 ≤ n ∧ n ≤ 1 ∧ n = -m ∧ (n = 0 ↔ a = b) ∧ (n < 0 → k < 0 → l < 0) ∧ (kind ≠ 3 → o = -n) ∧ -1 ≤ k ∧ k ≤ 1 ∧ -1 ≤ l ∧ l ≤ 1 ∧ -1 ≤ o ∧ o ≤ 1 := by
      have c1 := hcm a b
      have c2 := hcm b a
      have c3 := hcm b c
      have c4 := hcm c b
      have c5 := hcm a c
      have c6 := hcm c a
      rcases hf3 with ⟨h3, h⟩ | ⟨h3, h⟩
      · rw [h] at hn hm hk' hl
        refine ⟨by omega, by omega, by omega, by omega, by omega, fun hne => absurd h3 hne, by omega, by omega, by omega, by omega, by omega, by omega⟩
      · rw [h] at hn hm hk' hl
        refine ⟨by omega, by omega, by omega, by omega, by omega, fun _ => by omega, by omega, by omega, by omega, by omega, by omega, by omega⟩
    have wab : worseP kind a b = (n, 0) := by rw [hw, hn]
    have wba : worseP kind b a = (m, 0) := by rw [hw, hm]
    have wbc : worseP kind b c = (k, 0) := by rw [hw, hk']
    have wac : worseP kind a c = (l, 0) := by rw [hw, hl]
    have w3 : worseP 3 a b = (o, 0) := by rw [ho]; simp [worseP, kindB]
    obtain ⟨n0, n1, hnm, hab, htr, hoth, k0, k5', l0, l1, o0, o1⟩ := facts
    have WAB := Lib.hid wab
    have WBA := Lib.hid wba
    have WBC := Lib.hid wbc
    have WAC := Lib.hid wac
    have W3 := Lib.hid w3
    have m0 : -1 ≤ m := by omega
    have m1 : m ≤ 1 := by omega
    have q1 : (n != -m) = false := by simp; omega
    have q2 : (n == 0) = (a == b) := by
      by_cases h : n = 0
      · rw [hab.1 h, h]; simp
      · have h2 : ¬ a = b := fun e => h (hab.2 e)
        rw [beq_false_of_ne h, beq_false_of_ne h2]
    have Q2 := Lib.hid q2
    clear q2
    have OT := Lib.hid hoth
    have TR := Lib.hid htr
    clear wab wba wbc wac w3 hab htr hoth hcm hw hf3 hf hn hm hk' hl ho hnm hk
    go_wp2_with fail
    refine (Worse_any kind a b _).mono ?_
    rw [WAB.out]
    rintro e w2 ⟨rfl, hb2⟩
    have G2 := hb1.trans (hb2.mono hb1.size)
    go_wp2_with fail
    refine (Worse_any kind b a _).mono ?_
    rw [WBA.out]
    rintro e w3 ⟨rfl, hb3⟩
    have G3 := G2.trans (hb3.mono G2.size)
    go_wp2_with fail
    refine (Worse_any kind b c _).mono ?_
    rw [WBC.out]
    rintro e w4 ⟨rfl, hb4⟩
    have G4 := G3.trans (hb4.mono G3.size)
    go_wp2_with fail
    refine (Worse_any kind a c _).mono ?_
    rw [WAC.out]
    rintro e w5 ⟨rfl, hb5⟩
    have G5 := G4.trans (hb5.mono G4.size)
    go_wp2_with fail
    refine (Worse_any 3 a b _).mono ?_
    rw [W3.out]
    rintro e w6 ⟨rfl, hb6⟩
    have G6 := G5.trans (hb6.mono G5.size)
    go_wp2_with fail
    all_goals first
      | (exfalso; have hc := TR.out (by assumption) (by assumption); omega)
      | (exfalso; have hc : ¬ (n == 0) = (a == b) := by assumption
         exact hc Q2.out)
      | (go_ret; exact ⟨rfl, G6⟩)
      | (go_ret; have h3 : ¬ kind = 3 := by assumption
         exact ⟨ret_bool (by rw [OT.out h3]; simp), G6⟩)
end Go.Proofs.Ytjcojohfimhgdaa
