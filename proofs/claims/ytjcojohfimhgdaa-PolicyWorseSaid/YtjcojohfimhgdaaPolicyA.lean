/- The walks of the functions of policy that look for a clause: what each computes. -/
import Derived.Test.YtjcojohfimhgdaaLib
import Derived.Test.YtjcojohfimhgdaaRows
import Derived.BigQuiet
import Derived.Deep.QuietTactic
import Derived.Handy
namespace Go.Proofs.Ytjcojohfimhgdaa
open Go.RowKit

def kindB (k : Int) : Bool := decide (1 ≤ k) && decide (k ≤ 5)

theorem kindOK_any (k : Int) (w : World) :
    Calls Try.prog 27 #[.int .i64 k] w fun e w' => e = .returned (.bool (kindB k)) ∧ w = w' := by
  go_enter Try.func27, Try.ntmps27
  go_wp2
  all_goals go_ret
  all_goals refine ⟨?_, rfl⟩
  all_goals simp [kindB, *]
  all_goals omega

/-- one clause -/
structure Cl where
  kind : Int
  when_ : Int
  act : Int
  untl : Int

def Cl.v (c : Cl) : Value := .agg #[.int .i64 c.kind, .int .i64 c.when_, .int .i64 c.act, .int .i64 c.untl]
def Cl.enc (c : Cl) : List Value := [.int .i64 c.kind, .int .i64 c.when_, .int .i64 c.act, .int .i64 c.untl]
def Cl.bad (c : Cl) : Bool := !kindB c.kind || decide (c.when_ < 0) || decide (2 < c.when_) || decide (c.act < 1) || decide (3 < c.act) || decide (c.untl < 0) || decide (12 < c.untl)

set_option maxHeartbeats 400000 in
theorem Check1_any (c : Cl) (w : World) :
    Calls Try.prog 26 #[c.v] w fun e w' => e = .returned (.bool c.bad) ∧ Below w.heap.size w w' := by
  obtain ⟨k, t, a, u⟩ := c
  unfold Cl.v
  go_enter Try.func26, Try.ntmps26
  go_wp2_with (go_at_call 27; refine (kindOK_any _ _).mono ?_; rintro e w' ⟨rfl, rfl⟩)
  all_goals go_ret
  all_goals refine ⟨?_, (Below.refl _ _).alloc (Nat.le_refl _) _⟩
  all_goals simp [Cl.bad, *]

set_option maxHeartbeats 1000000 in
theorem first_any (p : Cl → Bool) (g : Nat) (fr : Array Value) (ar : Cl → Array Value) (har : ∀ x : Cl, #[x.v] ++ fr = ar x) (xs : List Cl) (A : Option Addr) (c : Nat) (w : World)
    (hf : ∀ (x : Cl) (W : World), x ∈ xs → Below w.heap.size w W → Calls Try.prog g (ar x) W fun e W' => e = .returned (.bool (p x)) ∧ Below W.heap.size W W')
    (hg : ∀ (args : Array Value) (W : World), Sem.run Try.prog (callFunc g args) W = .ok (.enter g args) W)
    (hx : Reads w w.heap.size A 4 Cl.enc xs) (hl : xs.length ≤ 9223372036854775807) :
    Calls Try.prog 25 #[.slice A xs.length c, .func (.func g) #[] fr] w fun e w' =>
      e = .returned (.tuple #[((xs.find? p).getD ⟨0, 0, 0, 0⟩).v, .bool (xs.any p)]) ∧ Below w.heap.size w w' := by
  go_enter Try.func25, Try.ntmps25
  go_wp2_with fail
  go_loopw [10] (fun i wr => ∃ k : Nat, k ≤ xs.length ∧ i = .int .i64 k ∧ (∀ j (h : j < xs.length), j < k → p xs[j] = false) ∧ Below (w.heap.size + 1) (w.alloc (.cells #[.int .i64 0, .int .i64 0, .int .i64 0, .int .i64 0] 35)) wr)
    (fun i _ => xs.length - (intOf i).toNat)
  case atStart => exact ⟨0, Nat.zero_le _, rfl, fun _ _ h => absurd h (by omega), Below.refl _ _⟩
  case round =>
    obtain ⟨k, hk, rfl, hno, hb⟩ := hrel
    obtain ⟨hb0, hc0, hf0, hz0, hz1⟩ := below_new hb
    by_cases hlt : k < xs.length
    · obtain ⟨b, off, x, rfl, hbl, hxk, hc⟩ := (hx.below hb0).at_ hlt
      have c0 := hc 0 _ rfl
      have c1 := hc 1 _ rfl
      have c2 := hc 2 _ rfl
      have c3 := hc 3 _ rfl
      simp only [Nat.add_zero] at c0
      clear hc
      have hf1 : ∀ (x : Cl) (W : World), x ∈ xs → Below w.heap.size w W → Calls Try.prog g (#[x.v] ++ fr) W fun e W' => e = .returned (.bool (p x)) ∧ Below W.heap.size W W' := fun x W hm hW => by rw [har]; exact hf x W hm hW
      have hf' := Lib.hid hf1
      clear hf hf1
      have hx' := Lib.hid hx
      clear hx
      have hxk' := Lib.hid hxk
      clear hxk
      have hno' := Lib.hid hno
      clear hno
      go_wp2_with fail
      refine (hf'.out x _ (List.mem_of_getElem? hxk'.out) (hb0.alloc hb0.size _)).mono ?_
      rintro e w1 ⟨rfl, hb1⟩
      obtain ⟨hcc, hff⟩ := bcell hb1
      have hb2 := (hb.alloc (by omega) _).trans (hb1.mono (B' := w.heap.size + 1) (by simp; omega))
      obtain ⟨hb3, hc3, hf3, hz3, _⟩ := below_new hb2
      go_wp2_with fail
      · refine bodyPost_ret (v := .tuple #[x.v, .bool true]) (by simp [results, Try.results25, go_sem, Cl.v, hc3]) rfl ⟨?_, ?_⟩
        · have hpx : p x = true := by assumption
          rw [find_some hno'.out hxk'.out hpx, any_true hxk'.out hpx]; rfl
        · go_grown
      · go_roundw
        case rel =>
          have hpx : p x = false := by assumption
          exact ⟨k + 1, by omega, by go_num, step_no hno'.out hxk'.out hpx, hb2⟩
        case measure => simp [intOf]; omega
    · obtain rfl : k = xs.length := by omega
      have e1 := find_none (fun j hj => hno j hj hj)
      have e2 := any_false (fun j hj => hno j hj hj)
      have E := Lib.hid (And.intro e1 e2)
      clear hf hx hno e1 e2
      go_wp2
      refine bodyPost_ret (v := .tuple #[Cl.v ⟨0, 0, 0, 0⟩, .bool false]) (by simp [results, Try.results25, go_sem, Cl.v, hc0]) rfl ⟨?_, ?_⟩
      · rw [E.out.1, E.out.2]; rfl
      · go_grown

def checkP (xs : List Cl) : Int := if xs.any Cl.bad then 330 else 0

set_option maxHeartbeats 400000 in
theorem Check_any (xs : List Cl) (A : Option Addr) (c : Nat) (w : World) (hx : Reads w w.heap.size A 4 Cl.enc xs) (hl : xs.length ≤ 9223372036854775807) :
    Calls Try.prog 14 #[.slice A xs.length c] w fun e w' => e = .returned (.int .i64 (checkP xs)) ∧ Below w.heap.size w w' := by
  go_enter Try.func14, Try.ntmps14
  have hx' := Lib.hid hx
  clear hx
  go_wp2_with fail
  refine (first_any Cl.bad _ #[] (fun x => #[x.v]) (fun x => by simp) xs A c w (fun x W _ _ => Check1_any x W) Try.call26 hx'.out hl).mono ?_
  rintro e w1 ⟨rfl, hb1⟩
  unfold Cl.v
  go_wp2
  all_goals go_ret
  all_goals refine ⟨?_, by have := hb1.size; go_grown⟩
  all_goals simp_all [checkP]
end Go.Proofs.Ytjcojohfimhgdaa
