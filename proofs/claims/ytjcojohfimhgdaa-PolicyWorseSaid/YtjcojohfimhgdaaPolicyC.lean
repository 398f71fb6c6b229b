/- The walks of policy's exported functions. -/
import Derived.Test.YtjcojohfimhgdaaPolicyB
import Derived.Test.YtjcojohfimhgdaaMapLib
namespace Go.Proofs.Ytjcojohfimhgdaa
open Go.RowKit

theorem args_ok {xs : List Cl} {kind term : Int} (h : argsP xs kind term = 0) : xs.any Cl.bad = false ∧ kindB kind = true ∧ 0 ≤ term ∧ term < 1024 := by
  unfold argsP at h
  cases hb : xs.any Cl.bad <;> simp [hb] at h
  exact ⟨rfl, h.1, h.2.1, h.2.2⟩
theorem args_01 (xs : List Cl) (kind term : Int) : argsP xs kind term = 0 ∨ argsP xs kind term = 1 ∨ argsP xs kind term = 330 := by
  unfold argsP
  split
  · simp
  · split <;> simp

def ActionP (xs : List Cl) (kind b a term now : Int) : Int × Int :=
  if argsP xs kind term = 0 then (if now < 0 ∨ 1024 ≤ now then (0, 1) else (actionP xs kind b a term now, 0)) else (0, argsP xs kind term)

set_option maxHeartbeats 1000000 in
theorem Action_any (xs : List Cl) (A : Option Addr) (c : Nat) (kind b a term now : Int) (w : World) (hx : Reads w w.heap.size A 4 Cl.enc xs) (hl : xs.length ≤ 9223372036854775807) :
    Calls Try.prog 12 #[.slice A xs.length c, .int .i64 kind, .int .i64 b, .int .i64 a, .int .i64 term, .int .i64 now] w
      fun e w' => e = .returned (.tuple #[.int .i64 (ActionP xs kind b a term now).1, .int .i64 (ActionP xs kind b a term now).2]) ∧ Below w.heap.size w w' := by
  have hx' := Lib.hid hx
  clear hx
  by_cases h : argsP xs kind term = 0
  · obtain ⟨hv, _, t0, t1⟩ := args_ok h
    by_cases hn : now < 0 ∨ 1024 ≤ now
    · have hp : ActionP xs kind b a term now = (0, 1) := by simp [ActionP, h, hn]
      rw [hp]
      have H := Lib.hid h
      clear h hp hv
      go_enter Try.func12, Try.ntmps12
      go_wp2_with fail
      refine (pcheck_any xs A c kind term _ hx'.out hl).mono ?_
      rintro e w1 ⟨rfl, hb1⟩
      rw [H.out]
      go_wp2_with fail
      all_goals go_ret2
      all_goals exact ⟨rfl, hb1⟩
    · have hp : ActionP xs kind b a term now = (actionP xs kind b a term now, 0) := by simp only [ActionP, h, hn, if_true, if_false]
      rw [hp]
      have H := Lib.hid h
      have V := Lib.hid hv
      clear h hp hv
      have n0 : 0 ≤ now := by omega
      have n1 : now < 1024 := by omega
      clear hn
      go_enter Try.func12, Try.ntmps12
      go_wp2_with fail
      refine (pcheck_any xs A c kind term _ hx'.out hl).mono ?_
      rintro e w1 ⟨rfl, hb1⟩
      rw [H.out]
      go_wp2_with fail
      refine (action_any xs A c kind b a term now _ ((hx'.out.below hb1).more hb1.size) hl V.out t0 t1).mono ?_
      rintro e w2 ⟨rfl, hb2⟩
      go_wp2_with fail
      go_ret2
      exact ⟨rfl, hb1.trans (hb2.mono hb1.size)⟩
  · have hp : ActionP xs kind b a term now = (0, argsP xs kind term) := by simp [ActionP, h]
    have hq := args_01 xs kind term
    rw [hp]
    have C := pcheck_any xs A c kind term w hx'.out hl
    generalize argsP xs kind term = q at h hq C
    have hq' : q = 1 ∨ q = 330 := by omega
    have C' := Lib.hid C
    clear C h hp hq
    rcases hq' with rfl | rfl
    all_goals
      go_enter Try.func12, Try.ntmps12
      go_wp2_with fail
      refine C'.out.mono ?_
      rintro e w1 ⟨rfl, hb1⟩
      go_wp2_with fail
      go_ret2
      exact ⟨rfl, hb1⟩

/-- the greatest number below m with a property; -1: there is none -/
def downTo (p : Int → Bool) : Nat → Int
  | 0 => -1
  | n + 1 => if p n then n else downTo p n

def untilP (xs : List Cl) (kind b a term : Int) : Int := downTo (fun n => actionP xs kind b a term n == 3) (min (term + 12) 1023 + 1).toNat
def UntilP (xs : List Cl) (kind b a term : Int) : Int × Int := if argsP xs kind term = 0 then (untilP xs kind b a term, 0) else (0, argsP xs kind term)

set_option maxHeartbeats 1000000 in
theorem Until_any (xs : List Cl) (A : Option Addr) (c : Nat) (kind b a term : Int) (w : World) (hx : Reads w w.heap.size A 4 Cl.enc xs) (hl : xs.length ≤ 9223372036854775807) :
    Calls Try.prog 16 #[.slice A xs.length c, .int .i64 kind, .int .i64 b, .int .i64 a, .int .i64 term] w
      fun e w' => e = .returned (.tuple #[.int .i64 (UntilP xs kind b a term).1, .int .i64 (UntilP xs kind b a term).2]) ∧ Below w.heap.size w w' := by
  have hx' := Lib.hid hx
  clear hx
  by_cases h : argsP xs kind term = 0
  · obtain ⟨hv, _, t0, t1⟩ := args_ok h
    have hp : UntilP xs kind b a term = (untilP xs kind b a term, 0) := by simp [UntilP, h]
    rw [hp]
    have H := Lib.hid h
    have V := Lib.hid hv
    clear h hp hv
    go_enter Try.func16, Try.ntmps16
    go_wp2_with fail
    refine (pcheck_any xs A c kind term _ hx'.out hl).mono ?_
    rintro e w1 ⟨rfl, hb1⟩
    rw [H.out]
    obtain ⟨p, hp⟩ : ∃ p : Int → Bool, p = fun n => actionP xs kind b a term n == 3 := ⟨_, rfl⟩
    obtain ⟨m, hm⟩ : ∃ m : Int, m = min (term + 12) 1023 := ⟨_, rfl⟩
    have hu : untilP xs kind b a term = downTo p (m + 1).toNat := by rw [untilP, hp, hm]
    have hpe : ∀ n, p n = (actionP xs kind b a term n == 3) := fun n => by rw [hp]
    have U := Lib.hid hu
    have PE := Lib.hid hpe
    have hm0 : 0 ≤ m := by omega
    have hm1 : m ≤ 1023 := by omega
    have M := Lib.hid hm
    clear hm hp hu hpe
    go_wp2_with fail
    all_goals
      go_loopw [10] (fun i wr => ∃ z : Int, -1 ≤ z ∧ z ≤ m ∧ i = .int .i64 z ∧ downTo p (m + 1).toNat = downTo p (z + 1).toNat ∧ Below w.heap.size w wr) (fun i _ => (intOf i + 1).toNat)
      case atStart => exact ⟨m, by omega, by omega, (by rw [M.out]; exact congrArg _ (by omega)), rfl, hb1⟩
      case round =>
        obtain ⟨z, hz0, hz1, rfl, hd, hb⟩ := hrel
        have D := Lib.hid hd
        clear hd
        by_cases hz : 0 ≤ z
        · have hdown : downTo p (z + 1).toNat = if actionP xs kind b a term z == 3 then z else downTo p z.toNat := by
            obtain ⟨n, rfl⟩ := Int.eq_ofNat_of_zero_le hz
            have e : ((n : Int) + 1).toNat = n + 1 := by omega
            rw [e, downTo, PE.out]; simp
          have DD := Lib.hid hdown
          clear hdown
          go_wp2_with fail
          refine (action_any xs A c kind b a term z _ ((hx'.out.below hb).more hb.size) hl V.out t0 t1).mono ?_
          rintro e w2 ⟨rfl, hb2⟩
          have hbz : Below w.heap.size w w2 := hb.trans (hb2.mono hb.size)
          cases h3 : actionP xs kind b a term z == 3
          · have DE := Lib.hid h3
            go_wp2_with fail
            go_roundw
            case rel => exact ⟨z - 1, by omega, by omega, by go_num, by rw [D.out, DD.out, DE.out]; simp, hbz⟩
            case measure => simp [intOf]; omega
          · have DE := Lib.hid h3
            go_wp2_with fail
            go_ret2
            exact ⟨by rw [U.out, D.out, DD.out, DE.out]; rfl, hbz⟩
        · obtain rfl : z = -1 := by omega
          go_wp2_with fail
          go_ret2
          exact ⟨by rw [U.out, D.out]; rfl, hb⟩
  · have hp : UntilP xs kind b a term = (0, argsP xs kind term) := by simp [UntilP, h]
    have hq := args_01 xs kind term
    rw [hp]
    have C := pcheck_any xs A c kind term w hx'.out hl
    generalize argsP xs kind term = q at h hq C
    have hq' : q = 1 ∨ q = 330 := by omega
    have C' := Lib.hid C
    clear C h hp hq
    rcases hq' with rfl | rfl
    all_goals
      go_enter Try.func16, Try.ntmps16
      go_wp2_with fail
      refine C'.out.mono ?_
      rintro e w1 ⟨rfl, hb1⟩
      go_wp2_with fail
      go_ret2
      exact ⟨rfl, hb1⟩

theorem isNaN_any (a : Int) (w : World) :
    Calls Try.prog 31 #[.int .i64 a] w fun e w' => e = .returned (.bool false) ∧ w = w' := by
  go_enter Try.func31, Try.ntmps31
  go_wp2
  go_ret
  exact ⟨ret_bool (by simp), rfl⟩

def cmpI (a b : Int) : Int := if a < b then -1 else if b < a then 1 else 0

theorem Compare_any (a b : Int) (w : World) :
    Calls Try.prog 28 #[.int .i64 a, .int .i64 b] w fun e w' => e = .returned (.int .i64 (cmpI a b)) ∧ w = w' := by
  go_enter Try.func28, Try.ntmps28
  go_wp2_with (go_at_call 31; refine (isNaN_any _ _).mono ?_; rintro e w' ⟨rfl, rfl⟩)
  all_goals go_ret
  all_goals refine ⟨ret_int ?_, rfl⟩
  all_goals (unfold cmpI; (repeat' split) <;> omega)

def worseP (kind b a : Int) : Int × Int := if kindB kind then (if kind = 3 then cmpI b a else cmpI a b, 0) else (0, 1)

set_option maxHeartbeats 1000000 in
theorem Worse_any (kind b a : Int) (w : World) :
    Calls Try.prog 18 #[.int .i64 kind, .int .i64 b, .int .i64 a] w
      fun e w' => e = .returned (.tuple #[.int .i64 (worseP kind b a).1, .int .i64 (worseP kind b a).2]) ∧ Below w.heap.size w w' := by
  have hmm := @run_makeMap Try.prog
  have hz4 : ∀ W : World, (zeroValue 4).run Try.prog W = .ok (.bool false) W := fun W => by kernel_rfl
  cases hk : kindB kind
  · have hp : worseP kind b a = (0, 1) := by simp [worseP, hk]
    have H := Lib.hid hk
    rw [hp]
    clear hp
    go_enter Try.func18, Try.ntmps18
    go_wp2_with (go_at_call 27; refine (kindOK_any _ _).mono ?_; rintro e w' ⟨rfl, rfl⟩)
    go_ret2
    exact ⟨rfl, Below.refl _ _⟩
  · have hci : -1 ≤ cmpI a b ∧ cmpI a b ≤ 1 := by unfold cmpI; (repeat' split) <;> omega
    obtain ⟨ci0, ci1⟩ := hci
    have hneg : -cmpI a b = cmpI b a := by unfold cmpI; (repeat' split) <;> omega
    have N := Lib.hid hneg
    clear hneg
    by_cases h3 : kind = 3
    · subst h3
      have hp : worseP 3 b a = (cmpI b a, 0) := by simp [worseP, hk]
      rw [hp]
      clear hp
      go_enter Try.func18, Try.ntmps18
      go_wp2_with (first | (go_at_call 27; refine (kindOK_any _ _).mono ?_; rintro e w' ⟨rfl, rfl⟩) | (go_at_call 28; refine (Compare_any _ _ _).mono ?_; rintro e w' ⟨rfl, rfl⟩))
      obtain ⟨w1, hrun, hmap, hg, hsz⟩ := run_mapUpdate_ints (P := Try.prog) (w := w.alloc (.map #[] 0)) (t := 49) (kt := 3) (et := 4) Try.underlying49 Try.underlying3 (MapIs.new w 0) 3 (.bool true)
      have hlk := (run_lookup_ints (P := Try.prog) (t := 49) (kt := 3) (et := 4) Try.underlying49 Try.underlying3 hmap (hz4 w1) 3).1
      have hw1 : Below w.heap.size w w1 := ((Below.refl _ _).alloc (Nat.le_refl _) _).grown hg (by simp) (fun k e => by cases e; exact Nat.le_refl _)
      rw [show (lookL 3 (updL 3 (.bool true) [])).getD (.bool false) = .bool true from rfl] at hlk
      clear hmap hg hsz
      rw [hrun]
      go_wp2_with fail
      go_ret2
      exact ⟨by rw [N.out]; rfl, hw1⟩
    · have hp : worseP kind b a = (cmpI a b, 0) := by simp [worseP, hk, h3]
      rw [hp]
      clear hp
      have hl0 : (lookL kind (updL 3 (.bool true) [])).getD (.bool false) = .bool false := by simp [updL, lookL, Ne.symm h3]
      have L0 := Lib.hid hl0
      clear hl0 h3
      go_enter Try.func18, Try.ntmps18
      go_wp2_with (first | (go_at_call 27; refine (kindOK_any _ _).mono ?_; rintro e w' ⟨rfl, rfl⟩) | (go_at_call 28; refine (Compare_any _ _ _).mono ?_; rintro e w' ⟨rfl, rfl⟩))
      obtain ⟨w1, hrun, hmap, hg, hsz⟩ := run_mapUpdate_ints (P := Try.prog) (w := w.alloc (.map #[] 0)) (t := 49) (kt := 3) (et := 4) Try.underlying49 Try.underlying3 (MapIs.new w 0) 3 (.bool true)
      have hlk := (run_lookup_ints (P := Try.prog) (t := 49) (kt := 3) (et := 4) Try.underlying49 Try.underlying3 hmap (hz4 w1) kind).1
      have hw1 : Below w.heap.size w w1 := ((Below.refl _ _).alloc (Nat.le_refl _) _).grown hg (by simp) (fun k e => by cases e; exact Nat.le_refl _)
      rw [L0.out] at hlk
      clear hmap hg hsz
      rw [hrun]
      go_wp2_with fail
      go_ret2
      exact ⟨rfl, hw1⟩
end Go.Proofs.Ytjcojohfimhgdaa
