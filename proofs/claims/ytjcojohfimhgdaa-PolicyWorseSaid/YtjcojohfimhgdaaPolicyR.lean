/- The walks of the reference of policy: it computes what the program computes. -/
import Derived.Test.YtjcojohfimhgdaaPolicyC
namespace Go.Proofs.Ytjcojohfimhgdaa
open Go.RowKit

theorem few_any {α : Type} (xs : List α) (A : Option Addr) (c : Nat) (w : World) :
    Calls Try.prog 11 #[.slice A xs.length c] w fun e w' => e = .returned (.bool (decide (xs.length ≤ 30))) ∧ w = w' := by
  go_enter Try.func11, Try.ntmps11
  go_wp2
  go_ret
  exact ⟨ret_bool (by simp; omega), rfl⟩

set_option maxHeartbeats 1000000 in
theorem RCheck_any (xs : List Cl) (A : Option Addr) (c : Nat) (w : World) (hx : Reads w w.heap.size A 4 Cl.enc xs) (hl : xs.length ≤ 9223372036854775807) :
    Calls Try.prog 15 #[.slice A xs.length c] w fun e w' => e = .returned (.int .i64 (checkP xs)) ∧ Below w.heap.size w w' := by
  go_enter Try.func15, Try.ntmps15
  go_wp2_with fail
  go_loopw [3] (fun i wr => ∃ k : Nat, k ≤ xs.length ∧ i = .int .i64 k ∧ (∀ j (h : j < xs.length), j < k → xs[j].bad = false) ∧ Below w.heap.size w wr)
    (fun i _ => xs.length - (intOf i).toNat)
  case atStart => exact ⟨0, Nat.zero_le _, rfl, fun _ _ h => absurd h (by omega), Below.refl _ _⟩
  case round =>
    obtain ⟨k, hk, rfl, hno, hb⟩ := hrel
    by_cases hlt : k < xs.length
    · obtain ⟨b, off, x, rfl, hbl, hxk, hc⟩ := (hx.below hb).at_ hlt
      have c0 := hc 0 _ rfl
      have c1 := hc 1 _ rfl
      have c2 := hc 2 _ rfl
      have c3 := hc 3 _ rfl
      simp only [Nat.add_zero] at c0
      clear hc
      have hx' := Lib.hid hx
      clear hx
      have hxk' := Lib.hid hxk
      clear hxk
      have hno' := Lib.hid hno
      clear hno
      go_wp2_with fail
      all_goals first
        | (go_ret
           have hbad : x.bad = true := by simp [Cl.bad, kindB]; omega
           exact ⟨by unfold checkP; rw [any_true hxk'.out hbad]; rfl, hb.alloc hb.size _⟩)
        | (go_roundw
           case rel =>
             have hbad : x.bad = false := by simp [Cl.bad, kindB]; omega
             exact ⟨k + 1, by omega, by go_num, step_no hno'.out hxk'.out hbad, hb.alloc hb.size _⟩
           case measure => simp [intOf]; omega)
    · obtain rfl : k = xs.length := by omega
      have e2 := any_false (fun j hj => hno j hj hj)
      have E := Lib.hid e2
      clear hx hno e2
      go_wp2
      go_ret
      exact ⟨by unfold checkP; rw [E.out]; rfl, hb⟩

set_option maxHeartbeats 1000000 in
theorem Rcheck_any (xs : List Cl) (A : Option Addr) (c : Nat) (kind term : Int) (w : World) (hx : Reads w w.heap.size A 4 Cl.enc xs) (hl : xs.length ≤ 9223372036854775807) :
    Calls Try.prog 23 #[.slice A xs.length c, .int .i64 kind, .int .i64 term] w fun e w' => e = .returned (.int .i64 (argsP xs kind term)) ∧ Below w.heap.size w w' := by
  have hx' := Lib.hid hx
  clear hx
  cases hb : xs.any Cl.bad
  · have hc : checkP xs = 0 := by simp [checkP, hb]
    have ha : argsP xs kind term = if kindB kind && decide (0 ≤ term) && decide (term < 1024) then 0 else 1 := by simp [argsP, hb]
    have C := Lib.hid hc
    have HA := Lib.hid ha
    clear hb hc ha
    go_enter Try.func23, Try.ntmps23
    go_wp2_with fail
    refine (RCheck_any xs A c w hx'.out hl).mono ?_
    rintro e w1 ⟨rfl, hb1⟩
    rw [C.out]
    go_wp2_with fail
    all_goals go_ret
    all_goals refine ⟨?_, hb1⟩
    all_goals (rw [HA.out]; refine ret_int ?_; unfold kindB; simp_all <;> omega)
  · have hc : checkP xs = 330 := by simp [checkP, hb]
    have ha : argsP xs kind term = 330 := by simp [argsP, hb]
    have C := Lib.hid hc
    rw [ha]
    clear hb hc ha
    go_enter Try.func23, Try.ntmps23
    go_wp2_with fail
    refine (RCheck_any xs A c w hx'.out hl).mono ?_
    rintro e w1 ⟨rfl, hb1⟩
    rw [C.out]
    go_wp2
    go_ret
    exact ⟨rfl, hb1⟩

set_option maxHeartbeats 1000000 in
theorem Applies_any (x : Cl) (kind b a term now : Int) (w : World) (hx : x.bad = false) (t0 : 0 ≤ term) (t1 : term < 1024) :
    Calls Try.prog 24 #[x.v, .int .i64 kind, .int .i64 b, .int .i64 a, .int .i64 term, .int .i64 now] w fun e w' => e = .returned (.bool (applB kind b a term now x)) ∧ Below w.heap.size w w' := by
  obtain ⟨xk, xw, xa, xu⟩ := x
  simp [Cl.bad] at hx
  obtain ⟨⟨⟨⟨⟨⟨q1, q2⟩, q3⟩, q4⟩, q5⟩, q6⟩, q7⟩ := hx
  clear q1 q4 q5
  unfold Cl.v
  go_enter Try.func24, Try.ntmps24
  go_wp2_with fail
  all_goals go_ret
  all_goals refine ⟨ret_bool ?_, by go_grown⟩
  all_goals (simp only [applB, holdsB]; simp_all <;> omega)

set_option maxHeartbeats 1000000 in
theorem RAction_any (xs : List Cl) (A : Option Addr) (c : Nat) (kind b a term now : Int) (w : World) (hx : Reads w w.heap.size A 4 Cl.enc xs) (hl : xs.length ≤ 9223372036854775807) :
    Calls Try.prog 13 #[.slice A xs.length c, .int .i64 kind, .int .i64 b, .int .i64 a, .int .i64 term, .int .i64 now] w
      fun e w' => e = .returned (.tuple #[.int .i64 (ActionP xs kind b a term now).1, .int .i64 (ActionP xs kind b a term now).2]) ∧ Below w.heap.size w w' := by
  have hx' := Lib.hid hx
  clear hx
  by_cases h : argsP xs kind term = 0
  · obtain ⟨hv, _, t0, t1⟩ := args_ok h
    by_cases hn : now < 0 ∨ 1024 ≤ now
    · have hp : ActionP xs kind b a term now = (0, 1) := by simp [ActionP, h, hn]
      rw [hp]
      have H := Lib.hid h
      clear h hp hv
      go_enter Try.func13, Try.ntmps13
      go_wp2_with fail
      refine (Rcheck_any xs A c kind term _ hx'.out hl).mono ?_
      rintro e w1 ⟨rfl, hb1⟩
      rw [H.out]
      go_wp2_with fail
      all_goals go_ret2
      all_goals exact ⟨rfl, hb1⟩
    · have hp : ActionP xs kind b a term now = (actionP xs kind b a term now, 0) := by simp only [ActionP, h, hn, if_true, if_false]
      rw [hp]
      have H := Lib.hid h
      have V := Lib.hid hv
      clear h hp hv
      have n0 : 0 ≤ now := by omega
      have n1 : now < 1024 := by omega
      clear hn
      go_enter Try.func13, Try.ntmps13
      go_wp2_with fail
      refine (Rcheck_any xs A c kind term _ hx'.out hl).mono ?_
      rintro e w1 ⟨rfl, hb1⟩
      rw [H.out]
      go_wp2_with fail
      go_loopw [15] (fun i wr => ∃ k : Nat, k ≤ xs.length ∧ i = .int .i64 k ∧ (∀ j (h : j < xs.length), j < k → applB kind b a term now xs[j] = false) ∧ Below w.heap.size w wr)
        (fun i _ => xs.length - (intOf i).toNat)
      case atStart => exact ⟨0, Nat.zero_le _, rfl, fun _ _ h => absurd h (by omega), hb1⟩
      case round =>
        obtain ⟨k, hk, rfl, hno, hb⟩ := hrel
        by_cases hlt : k < xs.length
        · obtain ⟨bb, off, x, rfl, hbl, hxk, hc⟩ := (hx'.out.below hb).at_ hlt
          have hxv : x.bad = false := by have := List.any_eq_false.1 V.out x (List.mem_of_getElem? hxk); simpa using this
          have XV := Lib.hid hxv
          have c0 := hc 0 _ rfl
          have c1 := hc 1 _ rfl
          have c2 := hc 2 _ rfl
          have c3 := hc 3 _ rfl
          simp only [Nat.add_zero] at c0
          clear hc hxv
          have hxk' := Lib.hid hxk
          clear hxk
          have hno' := Lib.hid hno
          clear hno
          go_wp2_with fail
          refine (Applies_any x kind b a term now _ XV.out t0 t1).mono ?_
          rintro e w2 ⟨rfl, hb2⟩
          obtain ⟨hcc, hff⟩ := bcell hb2
          have hbl2 : bb < wr.heap.size := Nat.lt_of_lt_of_le hbl hb.size
          have hbz : Below w.heap.size w w2 := hb.trans (hb2.mono hb.size)
          cases ha : applB kind b a term now x
          · have AP := Lib.hid ha
            clear hcc hff
            go_wp2_with fail
            go_roundw
            case rel => exact ⟨k + 1, by omega, by go_num, step_no hno'.out hxk'.out AP.out, hbz⟩
            case measure => simp [intOf]; omega
          · have AP := Lib.hid ha
            go_wp2_with fail
            go_ret2
            exact ⟨by unfold actionP; rw [find_some hno'.out hxk'.out AP.out]; rfl, hbz⟩
        · obtain rfl : k = xs.length := by omega
          have e1 := find_none (fun j hj => hno j hj hj)
          have E := Lib.hid e1
          clear hno e1
          go_wp2_with fail
          go_ret2
          exact ⟨by unfold actionP; rw [E.out]; rfl, hb⟩
  · have hp : ActionP xs kind b a term now = (0, argsP xs kind term) := by simp [ActionP, h]
    have hq := args_01 xs kind term
    rw [hp]
    have C := Rcheck_any xs A c kind term w hx'.out hl
    generalize argsP xs kind term = q at h hq C
    have hq' : q = 1 ∨ q = 330 := by omega
    have C' := Lib.hid C
    clear C h hp hq
    rcases hq' with rfl | rfl
    all_goals
      go_enter Try.func13, Try.ntmps13
      go_wp2_with fail
      refine C'.out.mono ?_
      rintro e w1 ⟨rfl, hb1⟩
      go_wp2_with fail
      go_ret2
      exact ⟨rfl, hb1⟩

/-- the last number below m with a property, found from below -/
def upTo (p : Int → Bool) : Nat → Int
  | 0 => -1
  | n + 1 => if p n then n else upTo p n
theorem upTo_down (p : Int → Bool) : ∀ n, upTo p n = downTo p n
  | 0 => rfl
  | n + 1 => by simp [upTo, downTo, upTo_down p n]

/-- no clause applies later than 12 terms behind the decision's -/
theorem action_late (xs : List Cl) (kind b a term now : Int) (hv : xs.any Cl.bad = false) (h : term + 12 < now) : actionP xs kind b a term now = 1 := by
  unfold actionP
  rw [find_none]
  intro j hj
  have hx : xs[j].bad = false := by have := List.any_eq_false.1 hv xs[j] (List.getElem_mem hj); simpa using this
  simp [Cl.bad] at hx
  simp [applB]
  intros
  omega
theorem down_skip (p : Int → Bool) (m : Nat) : ∀ d, (∀ z : Nat, m ≤ z → p z = false) → downTo p (m + d) = downTo p m
  | 0, _ => rfl
  | d + 1, h => by
    show downTo p (m + d + 1) = _
    rw [downTo, h (m + d) (by omega), down_skip p m d h]; simp

theorem until_all (xs : List Cl) (kind b a term : Int) (hv : xs.any Cl.bad = false) (t0 : 0 ≤ term) : untilP xs kind b a term = downTo (fun n => actionP xs kind b a term n == 3) 1024 := by
  unfold untilP
  obtain ⟨m, hm⟩ : ∃ m : Nat, m = (min (term + 12) 1023 + 1).toNat := ⟨_, rfl⟩
  rw [← hm]
  by_cases h : term + 12 < 1023
  · have e : 1024 = m + (1024 - m) := by omega
    rw [e, down_skip]
    intro z hz
    simp only [beq_eq_false_iff_ne, ne_eq]
    rw [action_late xs kind b a term z hv (by omega)]
    omega
  · have e : m = 1024 := by omega
    rw [e]

set_option maxRecDepth 100000 in
set_option maxHeartbeats 1000000 in
theorem RUntil_any (xs : List Cl) (A : Option Addr) (c : Nat) (kind b a term : Int) (w : World) (hx : Reads w w.heap.size A 4 Cl.enc xs) (hl : xs.length ≤ 9223372036854775807) :
    Calls Try.prog 17 #[.slice A xs.length c, .int .i64 kind, .int .i64 b, .int .i64 a, .int .i64 term] w
      fun e w' => e = .returned (.tuple #[.int .i64 (UntilP xs kind b a term).1, .int .i64 (UntilP xs kind b a term).2]) ∧ Below w.heap.size w w' := by
  have hx' := Lib.hid hx
  clear hx
  by_cases h : argsP xs kind term = 0
  · obtain ⟨hv, _, t0, t1⟩ := args_ok h
    have hp : UntilP xs kind b a term = (untilP xs kind b a term, 0) := by simp [UntilP, h]
    rw [hp]
    have H := Lib.hid h
    have V := Lib.hid hv
    clear h hp hv
    obtain ⟨p, hp⟩ : ∃ p : Int → Bool, p = fun n => actionP xs kind b a term n == 3 := ⟨_, rfl⟩
    have hu : untilP xs kind b a term = upTo p 1024 := by rw [until_all _ _ _ _ _ V.out t0, hp, upTo_down]
    have hpe : ∀ n, p n = (actionP xs kind b a term n == 3) := fun n => by rw [hp]
    have U := Lib.hid hu
    have PE := Lib.hid hpe
    clear hp hu hpe
    go_enter Try.func17, Try.ntmps17
    go_wp2_with fail
    refine (Rcheck_any xs A c kind term _ hx'.out hl).mono ?_
    rintro e w1 ⟨rfl, hb1⟩
    rw [H.out]
    go_wp2_with fail
    go_loopw [13, 14] (fun l i wr => ∃ k : Nat, k ≤ 1024 ∧ i = .int .i64 k ∧ l = .int .i64 (upTo p k) ∧ Below w.heap.size w wr) (fun _ i _ => 1024 - (intOf i).toNat)
    case atStart => exact ⟨0, by omega, rfl, rfl, hb1⟩
    case round =>
      obtain ⟨k, hk, rfl, rfl, hb⟩ := hrel
      by_cases hlt : k < 1024
      · have hact : ActionP xs kind b a term k = (actionP xs kind b a term k, 0) := by
          unfold ActionP; rw [if_pos H.out, if_neg (by omega)]
        have hdown : upTo p (k + 1) = if actionP xs kind b a term k == 3 then (k : Int) else upTo p k := by rw [upTo, PE.out]
        have AC := Lib.hid hact
        have DD := Lib.hid hdown
        clear hact hdown
        go_wp2_with fail
        refine (RAction_any xs A c kind b a term k _ ((hx'.out.below hb).more hb.size) hl).mono ?_
        rw [AC.out]
        rintro e w2 ⟨rfl, hb2⟩
        have hbz : Below w.heap.size w w2 := hb.trans (hb2.mono hb.size)
        cases h3 : actionP xs kind b a term k == 3
        · have DE := Lib.hid h3
          go_wp2_with fail
          go_roundw
          case rel => exact ⟨k + 1, by omega, by go_num, by rw [DD.out, DE.out]; rfl, hbz⟩
          case measure => simp [intOf]; omega
        · have DE := Lib.hid h3
          go_wp2_with fail
          go_roundw
          case rel => exact ⟨k + 1, by omega, by go_num, by rw [DD.out, DE.out]; rfl, hbz⟩
          case measure => simp [intOf]; omega
      · have hk2 : k = 1024 := by omega
        have K2 := Lib.hid hk2
        clear hk2
        go_wp2_with fail
        go_ret2
        exact ⟨by rw [U.out, ← K2.out]; rfl, hb⟩
  · have hp : UntilP xs kind b a term = (0, argsP xs kind term) := by simp [UntilP, h]
    have hq := args_01 xs kind term
    rw [hp]
    have C := Rcheck_any xs A c kind term w hx'.out hl
    generalize argsP xs kind term = q at h hq C
    have hq' : q = 1 ∨ q = 330 := by omega
    have C' := Lib.hid C
    clear C h hp hq
    rcases hq' with rfl | rfl
    all_goals
      go_enter Try.func17, Try.ntmps17
      go_wp2_with fail
      refine C'.out.mono ?_
      rintro e w1 ⟨rfl, hb1⟩
      go_wp2_with fail
      go_ret2
      exact ⟨rfl, hb1⟩

set_option maxHeartbeats 1000000 in
theorem RWorse_any (kind b a : Int) (w : World) :
    Calls Try.prog 19 #[.int .i64 kind, .int .i64 b, .int .i64 a] w
      fun e w' => e = .returned (.tuple #[.int .i64 (worseP kind b a).1, .int .i64 (worseP kind b a).2]) ∧ w = w' := by
  go_enter Try.func19, Try.ntmps19
  go_wp2_with fail
  all_goals go_ret2
  all_goals refine ⟨?_, rfl⟩
  all_goals (unfold worseP kindB cmpI; simp_all)
  all_goals ((repeat' split) <;> simp_all <;> omega)
