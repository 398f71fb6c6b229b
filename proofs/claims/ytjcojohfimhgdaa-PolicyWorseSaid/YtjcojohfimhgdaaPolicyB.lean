/- The walks of what policy does with a clause: the table of changes, the action, the last term of a reversal, which answer is worse. -/
import Derived.Test.YtjcojohfimhgdaaPolicyA
import Derived.Laws.EntriesVeiled
namespace Go.Proofs.Ytjcojohfimhgdaa
open Go.RowKit

theorem table1_any (b a : Int) (w : World) :
    Calls Try.prog 32 #[.int .i64 b, .int .i64 a] w fun e w' => e = .returned (.bool true) ∧ w = w' := by
  go_enter Try.func32, Try.ntmps32
  go_wp2
  go_ret
  exact ⟨rfl, rfl⟩
theorem table2_any (b a : Int) (w : World) :
    Calls Try.prog 33 #[.int .i64 b, .int .i64 a] w fun e w' => e = .returned (.bool (decide (b < a))) ∧ w = w' := by
  go_enter Try.func33, Try.ntmps33
  go_wp2
  go_ret
  exact ⟨rfl, rfl⟩
theorem table3_any (b a : Int) (w : World) :
    Calls Try.prog 34 #[.int .i64 b, .int .i64 a] w fun e w' => e = .returned (.bool (decide (a < b))) ∧ w = w' := by
  go_enter Try.func34, Try.ntmps34
  go_wp2
  go_ret
  exact ⟨rfl, rfl⟩

def tabV : Value := .agg #[.func (.func 32) #[] #[], .func (.func 33) #[] #[], .func (.func 34) #[] #[]]

theorem table_any (w : World) :
    Calls Try.prog 29 #[] w fun e w' => e = .returned tabV ∧ Below w.heap.size w w' := by
  go_enter Try.func29, Try.ntmps29
  go_wp2
  refine bodyPost_ret (v := tabV) (by simp [results, Try.results29, go_sem, tabV]) rfl ⟨rfl, ?_⟩
  go_grown

def holdsB (t b a : Int) : Bool := if t = 0 then true else if t = 1 then decide (b < a) else decide (a < b)
def applB (kind b a term now : Int) (c : Cl) : Bool := decide (c.kind = kind) && decide (now ≤ term + c.untl) && holdsB c.when_ b a

set_option maxHeartbeats 1000000 in
theorem action1_any (kind b a term now : Int) (x : Cl) (w : World) (B T : Nat) (hB : B + 4 < w.heap.size) (hT : T < w.heap.size)
    (hk : w.cell? ⟨B, 0, none⟩ = some (.int .i64 kind)) (hb : w.cell? ⟨B + 1, 0, none⟩ = some (.int .i64 b)) (ha : w.cell? ⟨B + 2, 0, none⟩ = some (.int .i64 a))
    (ht : w.cell? ⟨B + 3, 0, none⟩ = some (.int .i64 term)) (hn : w.cell? ⟨B + 4, 0, none⟩ = some (.int .i64 now))
    (h0 : w.cell? ⟨T, 0, none⟩ = some (.func (.func 32) #[] #[]))
    (h1 : w.cell? ⟨T, 1, none⟩ = some (.func (.func 33) #[] #[]))
    (h2 : w.cell? ⟨T, 2, none⟩ = some (.func (.func 34) #[] #[]))
    (hx : x.bad = false) (t0 : 0 ≤ term) (t1 : term < 1024) :
    Calls Try.prog 30 #[x.v, .pointer (some ⟨B, 0, none⟩), .pointer (some ⟨B + 4, 0, none⟩), .pointer (some ⟨B + 3, 0, none⟩), .pointer (some ⟨T, 0, none⟩), .pointer (some ⟨B + 1, 0, none⟩), .pointer (some ⟨B + 2, 0, none⟩)] w
      fun e w' => e = .returned (.bool (applB kind b a term now x)) ∧ Below w.heap.size w w' := by
  obtain ⟨xk, xw, xa, xu⟩ := x
  simp [Cl.bad] at hx
  obtain ⟨⟨⟨⟨⟨⟨q1, q2⟩, q3⟩, q4⟩, q5⟩, q6⟩, q7⟩ := hx
  clear q1 q4 q5
  unfold Cl.v
  have b0 : B < w.heap.size := by omega
  have b1 : B + 1 < w.heap.size := by omega
  have b2 : B + 2 < w.heap.size := by omega
  have b3 : B + 3 < w.heap.size := by omega
  by_cases e1 : xk = kind
  · subst e1
    have he : ((xk : Int) == xk) = true := by simp
    by_cases e2 : now ≤ term + xu
    · have hd : decide (now ≤ term + xu) = true := by simpa using e2
      have hw : xw = 0 ∨ xw = 1 ∨ xw = 2 := by omega
      rcases hw with rfl | rfl | rfl
      · go_enter Try.func30, Try.ntmps30
        go_wp2_with fail
        go_quiet ((go_at_call 32; exact Calls.quiet_of_same ((table1_any _ _ _).mono fun _ _ h => ⟨h.1, h.2.symm⟩)))
        go_wp2
        go_ret
        refine ⟨?_, below_drewN (by go_grown) _⟩
        simp [applB, holdsB, hd]
      · go_enter Try.func30, Try.ntmps30
        go_wp2_with fail
        go_quiet ((go_at_call 33; exact Calls.quiet_of_same ((table2_any _ _ _).mono fun _ _ h => ⟨h.1, h.2.symm⟩)))
        go_wp2
        go_ret
        refine ⟨?_, below_drewN (by go_grown) _⟩
        simp [applB, holdsB, hd]
      · go_enter Try.func30, Try.ntmps30
        go_wp2_with fail
        go_quiet ((go_at_call 34; exact Calls.quiet_of_same ((table3_any _ _ _).mono fun _ _ h => ⟨h.1, h.2.symm⟩)))
        go_wp2
        go_ret
        refine ⟨?_, below_drewN (by go_grown) _⟩
        simp [applB, holdsB, hd]
    · have hd : decide (now ≤ term + xu) = false := by simpa using e2
      go_enter Try.func30, Try.ntmps30
      go_wp2_with fail
      go_quiet (fail)
      go_wp2
      go_ret
      refine ⟨?_, below_drewN (by go_grown) _⟩
      simp [applB, hd]
  · have he : ((xk : Int) == kind) = false := by simpa using e1
    go_enter Try.func30, Try.ntmps30
    go_wp2_with fail
    go_quiet (fail)
    go_wp2
    go_ret
    refine ⟨?_, below_drewN (by go_grown) _⟩
    simp [applB, e1]

def actionP (xs : List Cl) (kind b a term now : Int) : Int := match xs.find? (applB kind b a term now) with | some c => c.act | none => 1

theorem action_eq (xs : List Cl) (kind b a term now : Int) : actionP xs kind b a term now = if xs.any (applB kind b a term now) = true then ((xs.find? (applB kind b a term now)).getD ⟨0, 0, 0, 0⟩).act else 1 := by
  unfold actionP
  cases h : xs.find? (applB kind b a term now) with
  | none =>
    rw [if_neg]
    rw [List.find?_eq_none] at h
    simpa using h
  | some c =>
    rw [if_pos]
    · rfl
    · exact List.any_eq_true.2 ⟨c, List.mem_of_find?_eq_some h, List.find?_some h⟩

set_option maxHeartbeats 1000000 in
theorem action_any (xs : List Cl) (A : Option Addr) (c : Nat) (kind b a term now : Int) (w : World) (hx : Reads w w.heap.size A 4 Cl.enc xs) (hl : xs.length ≤ 9223372036854775807)
    (hv : xs.any Cl.bad = false) (t0 : 0 ≤ term) (t1 : term < 1024) :
    Calls Try.prog 22 #[.slice A xs.length c, .int .i64 kind, .int .i64 b, .int .i64 a, .int .i64 term, .int .i64 now] w
      fun e w' => e = .returned (.int .i64 (actionP xs kind b a term now)) ∧ Below w.heap.size w w' := by
  go_enter Try.func22, Try.ntmps22
  have hx' := Lib.hid hx
  have hv' := Lib.hid hv
  clear hx hv
  go_wp2_with fail
  refine (table_any _).mono ?_
  rintro e w1 ⟨rfl, hb1⟩
  obtain ⟨hcc, hff⟩ := bcell hb1
  have hz : w.heap.size + 5 ≤ w1.heap.size := by have := hb1.size; simp at this; omega
  unfold tabV
  go_wp2_with fail
  have hz1 : w.heap.size < w1.heap.size := by omega
  have q0 : w1.cell? ⟨w.heap.size, 0, none⟩ = some (.int .i64 kind) := by rw [hcc _ _ (by simp <;> omega)]; simp [go_sem]
  have q1 : w1.cell? ⟨w.heap.size + 1, 0, none⟩ = some (.int .i64 b) := by rw [hcc _ _ (by simp <;> omega)]; simp [go_sem]
  have q2 : w1.cell? ⟨w.heap.size + 2, 0, none⟩ = some (.int .i64 a) := by rw [hcc _ _ (by simp <;> omega)]; simp [go_sem]
  have q3 : w1.cell? ⟨w.heap.size + 3, 0, none⟩ = some (.int .i64 term) := by rw [hcc _ _ (by simp <;> omega)]; simp [go_sem]
  have q4 : w1.cell? ⟨w.heap.size + 4, 0, none⟩ = some (.int .i64 now) := by rw [hcc _ _ (by simp <;> omega)]; simp [go_sem]
  have hT := cell_alloc_new3 w1 (.func (.func 32) #[] #[]) (.func (.func 33) #[] #[]) (.func (.func 34) #[] #[]) 53
  have hW1 : Below w.heap.size w w1 := ((((((Below.refl _ w).alloc (Nat.le_refl _) _).alloc (by simp) _).alloc (by simp; omega) _).alloc (by simp; omega) _).alloc (by simp; omega) _).trans (hb1.mono (by simp <;> omega))
  have hx1 : Reads w1 w.heap.size A 4 Cl.enc xs := hx'.out.below hW1
  have key := fun (x : Cl) (W : World) (hxm : x ∈ xs) (hW : Below (w1.alloc (.cells #[.func (.func 32) #[] #[], .func (.func 33) #[] #[], .func (.func 34) #[] #[]] 53)).heap.size (w1.alloc (.cells #[.func (.func 32) #[] #[], .func (.func 33) #[] #[], .func (.func 34) #[] #[]] 53)) W) =>
    action1_any kind b a term now x W w.heap.size w1.heap.size (by have := hW.size; simp at this; omega) (by have := hW.size; simp at this; omega)
      ((hW.cell (p := ⟨_, 0, none⟩) (by simp <;> omega)).trans ((World.cell?_alloc_lt _ _ _ (by simp <;> omega)).trans q0))
      ((hW.cell (p := ⟨_, 0, none⟩) (by simp <;> omega)).trans ((World.cell?_alloc_lt _ _ _ (by simp <;> omega)).trans q1))
      ((hW.cell (p := ⟨_, 0, none⟩) (by simp <;> omega)).trans ((World.cell?_alloc_lt _ _ _ (by simp <;> omega)).trans q2))
      ((hW.cell (p := ⟨_, 0, none⟩) (by simp <;> omega)).trans ((World.cell?_alloc_lt _ _ _ (by simp <;> omega)).trans q3))
      ((hW.cell (p := ⟨_, 0, none⟩) (by simp <;> omega)).trans ((World.cell?_alloc_lt _ _ _ (by simp <;> omega)).trans q4))
      ((hW.cell (p := ⟨_, 0, none⟩) (by simp <;> omega)).trans hT.1)
      ((hW.cell (p := ⟨_, 1, none⟩) (by simp <;> omega)).trans hT.2.1)
      ((hW.cell (p := ⟨_, 2, none⟩) (by simp <;> omega)).trans hT.2.2)
      (by have := List.any_eq_false.1 hv'.out x hxm; simpa using this) t0 t1
  refine (first_any (applB kind b a term now) 30 #[.pointer (some ⟨w.heap.size, 0, none⟩), .pointer (some ⟨w.heap.size + 4, 0, none⟩), .pointer (some ⟨w.heap.size + 3, 0, none⟩), .pointer (some ⟨w1.heap.size, 0, none⟩), .pointer (some ⟨w.heap.size + 1, 0, none⟩), .pointer (some ⟨w.heap.size + 2, 0, none⟩)] _ (fun x => by simp) xs A c _ key Try.call30 (((hx1.more (B' := w1.heap.size) (by omega)).alloc (Nat.le_refl _) _).more (by simp)) hl).mono ?_
  clear key q0 q1 q2 q3 q4 hT hx1 hcc hff
  rintro e w2 ⟨rfl, hb2⟩
  have hW2 : Below w.heap.size w w2 := (hW1.alloc (by omega) _).trans (hb2.mono (by simp <;> omega))
  have hs2 := hW2.size
  clear hb1 hb2 hW1
  unfold Cl.v
  have HA := Lib.hid (action_eq xs kind b a term now)
  go_wp2
  all_goals go_ret
  all_goals refine ⟨?_, by go_grown⟩
  · have h : (!xs.any (applB kind b a term now)) = true := by assumption
    rw [HA.out, if_neg (by simpa using h)]; rfl
  · have h : (!xs.any (applB kind b a term now)) = false := by assumption
    rw [HA.out, if_pos (by simpa using h)]; rfl

def argsP (xs : List Cl) (kind term : Int) : Int := if xs.any Cl.bad then 330 else if kindB kind && decide (0 ≤ term) && decide (term < 1024) then 0 else 1

set_option maxHeartbeats 1000000 in
theorem pcheck_any (xs : List Cl) (A : Option Addr) (c : Nat) (kind term : Int) (w : World) (hx : Reads w w.heap.size A 4 Cl.enc xs) (hl : xs.length ≤ 9223372036854775807) :
    Calls Try.prog 21 #[.slice A xs.length c, .int .i64 kind, .int .i64 term] w fun e w' => e = .returned (.int .i64 (argsP xs kind term)) ∧ Below w.heap.size w w' := by
  have hx' := Lib.hid hx
  clear hx
  cases hb : xs.any Cl.bad
  · have hc : checkP xs = 0 := by simp [checkP, hb]
    have ha : argsP xs kind term = if kindB kind && decide (0 ≤ term) && decide (term < 1024) then 0 else 1 := by simp [argsP, hb]
    have H := Lib.hid hb
    have C := Lib.hid hc
    rw [ha]
    clear hb hc ha
    go_enter Try.func21, Try.ntmps21
    go_wp2_with fail
    refine (Check_any xs A c w hx'.out hl).mono ?_
    rintro e w1 ⟨rfl, hb1⟩
    rw [C.out]
    go_wp2_with (go_at_call 27; refine (kindOK_any _ _).mono ?_; rintro e w' ⟨rfl, rfl⟩)
    all_goals go_ret
    all_goals refine ⟨?_, hb1⟩
    all_goals (refine ret_int ?_; simp_all <;> omega)
  · have hc : checkP xs = 330 := by simp [checkP, hb]
    have ha : argsP xs kind term = 330 := by simp [argsP, hb]
    have C := Lib.hid hc
    rw [ha]
    clear hb hc ha
    go_enter Try.func21, Try.ntmps21
    go_wp2_with fail
    refine (Check_any xs A c w hx'.out hl).mono ?_
    rintro e w1 ⟨rfl, hb1⟩
    rw [C.out]
    go_wp2
    go_ret
    exact ⟨rfl, hb1⟩
end Go.Proofs.Ytjcojohfimhgdaa
