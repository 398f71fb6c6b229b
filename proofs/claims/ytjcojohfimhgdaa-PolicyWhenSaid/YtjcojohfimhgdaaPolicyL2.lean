/- PolicyFirst, walked: the first clause that fits and has not expired is the one that acts. -/
import Derived.Test.YtjcojohfimhgdaaPolicyL1
namespace Go.Proofs.Ytjcojohfimhgdaa
open Go.RowKit

def fitsB (kind b a : Int) (c : Cl) : Bool := decide (c.kind = kind) && (if c.when_ = 1 then decide (b < a) else if c.when_ = 2 then decide (a < b) else true)

set_option maxHeartbeats 1000000 in
theorem fits_any (x : Cl) (kind b a : Int) (w : World) :
    Calls Try.prog 20 #[x.v, .int .i64 kind, .int .i64 b, .int .i64 a] w fun e w' => e = .returned (.bool (fitsB kind b a x)) ∧ Below w.heap.size w w' := by
  obtain ⟨xk, xw, xa, xu⟩ := x
  unfold Cl.v
  go_enter Try.func20, Try.ntmps20
  go_wp2_with fail
  all_goals go_ret
  all_goals refine ⟨ret_bool ?_, by go_grown⟩
  all_goals (simp only [fitsB]; simp_all <;> omega)

theorem fits_appl {x : Cl} (hv : x.bad = false) (kind b a term now : Int) : applB kind b a term now x = (fitsB kind b a x && decide (now - term ≤ x.untl)) := by
  obtain ⟨xk, xw, xa, xu⟩ := x
  simp [Cl.bad] at hv
  obtain ⟨⟨⟨⟨⟨⟨q1, q2⟩, q3⟩, q4⟩, q5⟩, q6⟩, q7⟩ := hv
  have hd : decide (now ≤ term + xu) = decide (now - term ≤ xu) := by
    have : now ≤ term + xu ↔ now - term ≤ xu := by omega
    simp [this]
  have hw : xw = 0 ∨ xw = 1 ∨ xw = 2 := by omega
  unfold applB fitsB holdsB
  simp only [hd]
  rcases hw with rfl | rfl | rfl <;> simp <;> (cases decide (xk = kind) <;> cases decide (now - term ≤ xu) <;> simp)

set_option maxHeartbeats 1000000 in
theorem PolicyFirst_any {w : World} (xs : List Cl) (A : Option Addr) (c : Nat) (hx0 : Reads w w.heap.size A 4 Cl.enc xs) (hq : ∀ y ∈ xs, y.ok) (hm : xs.length ≤ maxLen)
    (kind : Int) (wk : (Lit.int .i64 kind).wf = true) (b : Int) (wb : (Lit.int .i64 b).wf = true) (a : Int) (wa : (Lit.int .i64 a).wf = true) (term : Int) (wt : (Lit.int .u16 term).wf = true) (now : Int) (wn : (Lit.int .u16 now).wf = true) :
    Calls Try.prog 5 #[.slice A xs.length c, .int .i64 kind, .int .i64 b, .int .i64 a, .int .u16 term, .int .u16 now] w fun e w' => e = .returned (.bool true) ∧ Below w.heap.size w w' := by
  unfold maxLen at hm
  have ht := bounds_u16 wt
  have hn := bounds_u16 wn
  obtain ⟨ht0, ht1⟩ := ht
  obtain ⟨hn0, hn1⟩ := hn
  clear hq wk wb wa wt wn
  have HX := Lib.hid hx0
  clear hx0
  go_enter Try.func5, Try.ntmps5
  go_wp2_with fail
  refine (sane_any _).mono ?_
  rintro e w1 ⟨rfl, hb1⟩
  go_wp2_with fail
  refine (few_any xs A c _).mono ?_
  rintro e w1' ⟨rfl, rfl⟩
  by_cases h30 : xs.length ≤ 30
  · have hd : decide (xs.length ≤ 30) = true := by simpa using h30
    rw [hd]
    clear hd
    go_wp2_with fail
    refine (Check_any xs A c _ ((HX.out.below hb1).more hb1.size) hm).mono ?_
    rintro e w2 ⟨rfl, hb2⟩
    have G2 := hb1.trans (hb2.mono hb1.size)
    cases hv : xs.any Cl.bad
    · have hc : checkP xs = 0 := by simp [checkP, hv]
      have V := Lib.hid hv
      rw [hc]
      clear hc hv
      go_wp2_with fail
      have t0 : 0 ≤ term % 1024 := by omega
      have t1 : term % 1024 < 1024 := by omega
      have n0 : 0 ≤ now % 1024 := by omega
      have n1 : now % 1024 < 1024 := by omega
      generalize term % 1024 = t at *
      generalize now % 1024 = n at *
      by_cases hk : 1 ≤ kind ∧ kind ≤ 5
      · obtain ⟨k1, k5⟩ := hk
        have ha : argsP xs kind t = 0 := by simp [argsP, V.out, kindB, k1, k5, t0, t1]
        have hp : ActionP xs kind b a t n = (actionP xs kind b a t n, 0) := by rw [ActionP, if_pos ha, if_neg (by omega)]
        have HP := Lib.hid hp
        clear ha hp
        refine (Action_any xs A c kind b a t n _ ((HX.out.below G2).more G2.size) hm).mono ?_
        rw [HP.out]
        rintro e w3 ⟨rfl, hb3⟩
        have G3 := G2.trans (hb3.mono G2.size)
        obtain ⟨r, hr⟩ : ∃ r, r = actionP xs kind b a t n := ⟨_, rfl⟩
        rw [← hr]
        have HR := Lib.hid hr
        clear hr
        go_wp2_with fail
        go_loopw [59] (fun i wr => ∃ k : Nat, k ≤ xs.length ∧ i = .int .i64 k ∧ (∀ j (h : j < xs.length), j < k → applB kind b a t n xs[j] = false) ∧ Below w.heap.size w wr)
          (fun i _ => xs.length - (intOf i).toNat)
        case atStart => exact ⟨0, Nat.zero_le _, rfl, fun _ _ h => absurd h (by omega), G3⟩
        case round =>
          obtain ⟨k, hk, rfl, hno, hb⟩ := hrel
          by_cases hlt : k < xs.length
          · obtain ⟨bb, off, x, rfl, hbl, hxk, hc⟩ := (HX.out.below hb).at_ hlt
            have hxv : x.bad = false := by have := List.any_eq_false.1 V.out x (List.mem_of_getElem? hxk); simpa using this
            have hfa := fits_appl hxv kind b a t n
            have c0 := hc 0 _ rfl
            have c1 := hc 1 _ rfl
            have c2 := hc 2 _ rfl
            have c3 := hc 3 _ rfl
            simp only [Nat.add_zero] at c0
            have hu : 0 ≤ x.untl ∧ x.untl ≤ 12 := by simp [Cl.bad] at hxv; omega
            obtain ⟨u0, u1⟩ := hu
            have FA := Lib.hid hfa
            clear hc hxv hfa
            have hxk' := Lib.hid hxk
            clear hxk
            have hno' := Lib.hid hno
            clear hno
            go_wp2_with fail
            refine (fits_any x kind b a _).mono ?_
            rintro e w4 ⟨rfl, hb4⟩
            obtain ⟨hcc, hff⟩ := bcell hb4
            have hb5 : Below w.heap.size w w4 := (hb.alloc hb.size _).trans (hb4.mono (by have := hb.size; simp <;> omega))
            cases hfb : fitsB kind b a x
            · have FB := Lib.hid hfb
              go_wp2_with fail
              go_roundw
              case rel => exact ⟨k + 1, by omega, by go_num, step_no hno'.out hxk'.out (by rw [FA.out, FB.out]; rfl), hb5⟩
              case measure => simp [intOf]; omega
            · have FB := Lib.hid hfb
              by_cases hle : n - t ≤ x.untl
              · go_wp2_with fail
                go_ret
                have hap : applB kind b a t n x = true := by rw [FA.out, FB.out]; simpa using hle
                refine ⟨ret_bool ?_, hb5⟩
                rw [HR.out]; unfold actionP; rw [find_some hno'.out hxk'.out hap]; simp
              · go_wp2_with fail
                go_roundw
                case rel => exact ⟨k + 1, by omega, by go_num, step_no hno'.out hxk'.out (by rw [FA.out, FB.out]; simpa using hle), hb5⟩
                case measure => simp [intOf]; omega
          · obtain rfl : k = xs.length := by omega
            have e1 := find_none (fun j hj => hno j hj hj)
            have E := Lib.hid e1
            clear hno e1
            go_wp2_with fail
            go_ret
            exact ⟨ret_bool (by rw [HR.out]; unfold actionP; rw [E.out]; simp), hb⟩
      · have hk' : kind < 1 ∨ 5 < kind := by omega
        have ha : argsP xs kind t = 1 := by
          have : kindB kind = false := by simp [kindB]; omega
          simp [argsP, V.out, this]
        have hp : ActionP xs kind b a t n = (0, 1) := by rw [ActionP, if_neg (by rw [ha]; omega), ha]
        have HP := Lib.hid hp
        clear ha hp hk
        refine (Action_any xs A c kind b a t n _ ((HX.out.below G2).more G2.size) hm).mono ?_
        rw [HP.out]
        rintro e w3 ⟨rfl, hb3⟩
        have G3 := G2.trans (hb3.mono G2.size)
        go_wp2_with fail
        all_goals go_ret
        all_goals exact ⟨rfl, G3⟩
    · have hc : checkP xs = 330 := by simp [checkP, hv]
      rw [hc]
      clear hc hv
      go_wp2_with fail
      go_ret
      exact ⟨rfl, G2⟩
  · have hd : decide (xs.length ≤ 30) = false := by simpa using h30
    rw [hd]
    clear hd
    go_wp2_with fail
    go_ret
    exact ⟨rfl, hb1⟩
end Go.Proofs.Ytjcojohfimhgdaa
