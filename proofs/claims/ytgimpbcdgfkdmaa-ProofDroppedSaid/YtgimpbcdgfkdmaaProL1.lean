/- The first four laws of chapter 20, walked. -/
import Derived.Test.YtgimpbcdgfkdmaaProT
import Derived.Test.YtgimpbcdgfkdmaaProW
import Derived.BigQuiet
import Derived.Deep.Cut
namespace Go.Proofs.Ytgimpbcdgfkdmaa
open Go.RowKit Go.Shelf
set_option linter.unusedSimpArgs false
set_option linter.unusedVariables false

theorem few_len {p : Pg} {l : List At} (h : fewP p l = true) : l.length ≤ 12 := by
  simp only [fewP, Bool.and_eq_true, decide_eq_true_eq] at h
  exact h.2.1

set_option maxRecDepth 100000 in
set_option maxHeartbeats 8000000 in
theorem ProofSpec_walk (p : Pg) (s : Sl) (l : List At) (B : Option Addr) (b : Nat) (us : List Us) (D : Option Addr) (d : Nat) (cs : List Bool) (C : Option Addr) (cc : Nat) (w : World) (hr : Rqs w everyT s p.reqs) (hi : p.mean.i64) (hl : SlR w everyT 5 At.enc ⟨B, l.length, b⟩ l) (hu : SlR w everyT 3 Us.enc ⟨D, us.length, d⟩ us) (hc : SlR w everyT 1 boolE ⟨C, cs.length, cc⟩ cs) :
    Calls Try.prog 3 #[pgV p s, .slice B l.length b, .slice D us.length d, .slice C cs.length cc] w fun e w' => e = .returned (.bool true) ∧ Below w.heap.size w w' := by
  have hF := Lib.hid (fun W (h : Below w.heap.size w W) => RProFew_any (P := everyT) p s l B b W (hr.step h))
  have hMi := Lib.hid (fun W (h : Below w.heap.size w W) (hlu : us.length ≤ 60) => Missing_any (P := everyT) p s us D d W (hr.step h) hi (hu.step h).reads (by omega))
  have hRMi := Lib.hid (fun W (h : Below w.heap.size w W) (hlu : us.length ≤ 60) => RMissing_any (P := everyT) p s us D d W (hr.step h) hi (hu.step h).reads (by omega))
  have hBo := Lib.hid (fun W (h : Below w.heap.size w W) (hll : l.length ≤ 12) => Bound_any (P := everyT) p s l B b cs C cc W (hr.step h) hi (hl.step h) (hc.step h) (by omega))
  have hRBo := Lib.hid (fun W (h : Below w.heap.size w W) (hll : l.length ≤ 12) => RBound_any (P := everyT) p s l B b cs C cc W (hr.step h) hi (hl.step h) (hc.step h) (by omega))
  have hAl := Lib.hid (fun W (h : Below w.heap.size w W) (hll : l.length ≤ 12) (hlu : us.length ≤ 60) => Allowed_any (P := everyT) p s l B b us D d W (hr.step h) hi (hl.step h).reads (hu.step h).reads (by omega) (by omega))
  have hRAl := Lib.hid (fun W (h : Below w.heap.size w W) (hll : l.length ≤ 12) (hlu : us.length ≤ 60) => RAllowed_any (P := everyT) p s l B b us D d W (hr.step h) hi (hl.step h).reads (hu.step h).reads (by omega) (by omega))
  have hn := hr.len
  obtain ⟨A, n, c⟩ := s
  simp only at hn
  subst hn
  clear hr hi hl hu hc
  unfold pgV at *
  simp only at hF hMi hRMi hBo hRBo hAl hRAl ⊢
  cases hf : fewP p l
  · have HFW := Lib.hid hf
    clear hf
    go_enter Try.func3, Try.ntmps3
    go_wp2_with fail
    obtain ⟨W0, hW0⟩ : ∃ W, W = (w.alloc (.cells #[.string p.nm, .int .i64 p.number, .int .i64 p.uses, .int .i64 p.earn, .int .i64 p.mean.num, .int .i64 p.mean.den, .slice A p.reqs.length c] 26)) := ⟨_, rfl⟩
    have hp0 : Bx W0 w.heap.size (pgC p ⟨A, p.reqs.length, c⟩) := by rw [hW0]; exact Bx.new w _ _
    have hb0 : Below w.heap.size w W0 := by rw [hW0]; exact (Below.refl _ _).alloc (Nat.le_refl _) _
    rw [← hW0]
    have HP := Lib.hid hp0
    have BA := Lib.hid hb0
    clear hW0 hp0 hb0
    refine (proSane_any _).mono ?_
    rintro e w1 ⟨rfl, hb1⟩
    have S_w1 : Below W0.heap.size W0 w1 := hb1
    have HP := Lib.hid (HP.out.step S_w1)
    have BA := Lib.hid (BA.out.trans (S_w1.mono BA.out.size))
    have z_w1 := S_w1.size
    have p0 := HP.out.1 0 _ rfl
    have p1 := HP.out.1 1 _ rfl
    have p2 := HP.out.1 2 _ rfl
    have p3 := HP.out.1 3 _ rfl
    have p4 := HP.out.1 4 _ rfl
    have p5 := HP.out.1 5 _ rfl
    have p6 := HP.out.1 6 _ rfl
    have pz := HP.out.2.2
    go_wp2_with fail
    clear p0 p1 p2 p3 p4 p5 p6 pz
    refine (hF.out _ BA.out).mono ?_
    rw [HFW.out]
    rintro e w2 ⟨rfl, hb2⟩
    have S_w2 : Below w1.heap.size w1 w2 := hb2
    have HP := Lib.hid (HP.out.step S_w2)
    have BA := Lib.hid (BA.out.trans (S_w2.mono BA.out.size))
    have z_w2 := S_w2.size
    have p0 := HP.out.1 0 _ rfl
    have p1 := HP.out.1 1 _ rfl
    have p2 := HP.out.1 2 _ rfl
    have p3 := HP.out.1 3 _ rfl
    have p4 := HP.out.1 4 _ rfl
    have p5 := HP.out.1 5 _ rfl
    have p6 := HP.out.1 6 _ rfl
    have pz := HP.out.2.2
    go_wp2_with fail
    go_ret
    exact ⟨rfl, BA.out⟩
  have HFW := Lib.hid hf
  have hll := few_len hf
  clear hf
  by_cases hu0 : us.length ≤ 60
  rotate_left
  · have e0 : decide ((60 : Int) < (us.length : Int)) = true := by simp; omega
    go_enter Try.func3, Try.ntmps3
    go_wp2_with fail
    obtain ⟨W0, hW0⟩ : ∃ W, W = (w.alloc (.cells #[.string p.nm, .int .i64 p.number, .int .i64 p.uses, .int .i64 p.earn, .int .i64 p.mean.num, .int .i64 p.mean.den, .slice A p.reqs.length c] 26)) := ⟨_, rfl⟩
    have hp0 : Bx W0 w.heap.size (pgC p ⟨A, p.reqs.length, c⟩) := by rw [hW0]; exact Bx.new w _ _
    have hb0 : Below w.heap.size w W0 := by rw [hW0]; exact (Below.refl _ _).alloc (Nat.le_refl _) _
    rw [← hW0]
    have HP := Lib.hid hp0
    have BA := Lib.hid hb0
    clear hW0 hp0 hb0
    refine (proSane_any _).mono ?_
    rintro e w1 ⟨rfl, hb1⟩
    have S_w1 : Below W0.heap.size W0 w1 := hb1
    have HP := Lib.hid (HP.out.step S_w1)
    have BA := Lib.hid (BA.out.trans (S_w1.mono BA.out.size))
    have z_w1 := S_w1.size
    have p0 := HP.out.1 0 _ rfl
    have p1 := HP.out.1 1 _ rfl
    have p2 := HP.out.1 2 _ rfl
    have p3 := HP.out.1 3 _ rfl
    have p4 := HP.out.1 4 _ rfl
    have p5 := HP.out.1 5 _ rfl
    have p6 := HP.out.1 6 _ rfl
    have pz := HP.out.2.2
    go_wp2_with fail
    clear p0 p1 p2 p3 p4 p5 p6 pz
    refine (hF.out _ BA.out).mono ?_
    rw [HFW.out]
    rintro e w2 ⟨rfl, hb2⟩
    have S_w2 : Below w1.heap.size w1 w2 := hb2
    have HP := Lib.hid (HP.out.step S_w2)
    have BA := Lib.hid (BA.out.trans (S_w2.mono BA.out.size))
    have z_w2 := S_w2.size
    have p0 := HP.out.1 0 _ rfl
    have p1 := HP.out.1 1 _ rfl
    have p2 := HP.out.1 2 _ rfl
    have p3 := HP.out.1 3 _ rfl
    have p4 := HP.out.1 4 _ rfl
    have p5 := HP.out.1 5 _ rfl
    have p6 := HP.out.1 6 _ rfl
    have pz := HP.out.2.2
    go_wp2_with fail
    go_ret
    exact ⟨rfl, BA.out⟩
  have e0 : decide ((60 : Int) < (us.length : Int)) = false := by simp; omega
  obtain ⟨m1, m2, hm⟩ : ∃ a b, missP p us = (a, b) := ⟨_, _, rfl⟩
  obtain ⟨n1, n2, hb⟩ : ∃ a b, boundP p l cs = (a, b) := ⟨_, _, rfl⟩
  obtain ⟨E, hE⟩ : ∃ a, allowP p l us = a := ⟨_, rfl⟩
  rw [hm] at hMi hRMi
  rw [hb] at hBo hRBo
  rw [hE] at hAl hRAl
  clear hm hb hE
  go_enter Try.func3, Try.ntmps3
  go_wp2_with fail
  obtain ⟨W0, hW0⟩ : ∃ W, W = (w.alloc (.cells #[.string p.nm, .int .i64 p.number, .int .i64 p.uses, .int .i64 p.earn, .int .i64 p.mean.num, .int .i64 p.mean.den, .slice A p.reqs.length c] 26)) := ⟨_, rfl⟩
  have hp0 : Bx W0 w.heap.size (pgC p ⟨A, p.reqs.length, c⟩) := by rw [hW0]; exact Bx.new w _ _
  have hb0 : Below w.heap.size w W0 := by rw [hW0]; exact (Below.refl _ _).alloc (Nat.le_refl _) _
  rw [← hW0]
  have HP := Lib.hid hp0
  have BA := Lib.hid hb0
  clear hW0 hp0 hb0
  refine (proSane_any _).mono ?_
  rintro e w1 ⟨rfl, hb1⟩
  have S_w1 : Below W0.heap.size W0 w1 := hb1
  have HP := Lib.hid (HP.out.step S_w1)
  have BA := Lib.hid (BA.out.trans (S_w1.mono BA.out.size))
  have z_w1 := S_w1.size
  have p0 := HP.out.1 0 _ rfl
  have p1 := HP.out.1 1 _ rfl
  have p2 := HP.out.1 2 _ rfl
  have p3 := HP.out.1 3 _ rfl
  have p4 := HP.out.1 4 _ rfl
  have p5 := HP.out.1 5 _ rfl
  have p6 := HP.out.1 6 _ rfl
  have pz := HP.out.2.2
  go_wp2_with fail
  clear p0 p1 p2 p3 p4 p5 p6 pz
  refine (hF.out _ BA.out).mono ?_
  rw [HFW.out]
  rintro e w2 ⟨rfl, hb2⟩
  have S_w2 : Below w1.heap.size w1 w2 := hb2
  have HP := Lib.hid (HP.out.step S_w2)
  have BA := Lib.hid (BA.out.trans (S_w2.mono BA.out.size))
  have z_w2 := S_w2.size
  have p0 := HP.out.1 0 _ rfl
  have p1 := HP.out.1 1 _ rfl
  have p2 := HP.out.1 2 _ rfl
  have p3 := HP.out.1 3 _ rfl
  have p4 := HP.out.1 4 _ rfl
  have p5 := HP.out.1 5 _ rfl
  have p6 := HP.out.1 6 _ rfl
  have pz := HP.out.2.2
  go_wp2_with fail
  clear p0 p1 p2 p3 p4 p5 p6 pz
  refine (hMi.out _ BA.out hu0).mono ?_
  rintro e w3 ⟨rfl, hbw3⟩
  have S_w3 : Below w2.heap.size w2 w3 := hbw3
  have HP := Lib.hid (HP.out.step S_w3)
  have BA := Lib.hid (BA.out.trans (S_w3.mono BA.out.size))
  have z_w3 := S_w3.size
  have p0 := HP.out.1 0 _ rfl
  have p1 := HP.out.1 1 _ rfl
  have p2 := HP.out.1 2 _ rfl
  have p3 := HP.out.1 3 _ rfl
  have p4 := HP.out.1 4 _ rfl
  have p5 := HP.out.1 5 _ rfl
  have p6 := HP.out.1 6 _ rfl
  have pz := HP.out.2.2
  go_wp2_with fail
  clear p0 p1 p2 p3 p4 p5 p6 pz
  refine (hRMi.out _ BA.out hu0).mono ?_
  rintro e w4 ⟨rfl, hbw4⟩
  have S_w4 : Below w3.heap.size w3 w4 := hbw4
  have HP := Lib.hid (HP.out.step S_w4)
  have BA := Lib.hid (BA.out.trans (S_w4.mono BA.out.size))
  have z_w4 := S_w4.size
  have p0 := HP.out.1 0 _ rfl
  have p1 := HP.out.1 1 _ rfl
  have p2 := HP.out.1 2 _ rfl
  have p3 := HP.out.1 3 _ rfl
  have p4 := HP.out.1 4 _ rfl
  have p5 := HP.out.1 5 _ rfl
  have p6 := HP.out.1 6 _ rfl
  have pz := HP.out.2.2
  go_wp2_with fail
  clear p0 p1 p2 p3 p4 p5 p6 pz
  refine (hBo.out _ BA.out hll).mono ?_
  rintro e w5 ⟨rfl, hbw5⟩
  have S_w5 : Below w4.heap.size w4 w5 := hbw5
  have HP := Lib.hid (HP.out.step S_w5)
  have BA := Lib.hid (BA.out.trans (S_w5.mono BA.out.size))
  have z_w5 := S_w5.size
  have p0 := HP.out.1 0 _ rfl
  have p1 := HP.out.1 1 _ rfl
  have p2 := HP.out.1 2 _ rfl
  have p3 := HP.out.1 3 _ rfl
  have p4 := HP.out.1 4 _ rfl
  have p5 := HP.out.1 5 _ rfl
  have p6 := HP.out.1 6 _ rfl
  have pz := HP.out.2.2
  go_wp2_with fail
  clear p0 p1 p2 p3 p4 p5 p6 pz
  refine (hRBo.out _ BA.out hll).mono ?_
  rintro e w6 ⟨rfl, hbw6⟩
  have S_w6 : Below w5.heap.size w5 w6 := hbw6
  have HP := Lib.hid (HP.out.step S_w6)
  have BA := Lib.hid (BA.out.trans (S_w6.mono BA.out.size))
  have z_w6 := S_w6.size
  have p0 := HP.out.1 0 _ rfl
  have p1 := HP.out.1 1 _ rfl
  have p2 := HP.out.1 2 _ rfl
  have p3 := HP.out.1 3 _ rfl
  have p4 := HP.out.1 4 _ rfl
  have p5 := HP.out.1 5 _ rfl
  have p6 := HP.out.1 6 _ rfl
  have pz := HP.out.2.2
  go_upto_region 9 with fail
  have S1 : Hid (∀ W, Below w6.heap.size w6 W → Calls Try.prog 17 #[.agg #[.string p.nm, .int .i64 p.number, .int .i64 p.uses, .int .i64 p.earn, .int .i64 p.mean.num, .int .i64 p.mean.den, .slice A p.reqs.length c], .slice B l.length b, .slice D us.length d] W fun e w' => e = .returned (.int .i64 E) ∧ Below w6.heap.size w6 w') := Lib.hid (fun W h => (hAl.out W (BA.out.trans (h.mono BA.out.size)) hll hu0).mono (fun e w' k => ⟨k.1, h.trans ((k.2.mono h.size))⟩))
  have S2 : Hid (∀ W, Below w6.heap.size w6 W → Calls Try.prog 18 #[.agg #[.string p.nm, .int .i64 p.number, .int .i64 p.uses, .int .i64 p.earn, .int .i64 p.mean.num, .int .i64 p.mean.den, .slice A p.reqs.length c], .slice B l.length b, .slice D us.length d] W fun e w' => e = .returned (.int .i64 E) ∧ Below w6.heap.size w6 w') := Lib.hid (fun W h => (hRAl.out W (BA.out.trans (h.mono BA.out.size)) hll hu0).mono (fun e w' k => ⟨k.1, h.trans ((k.2.mono h.size))⟩))
  refine wp_region_below (by kernel_rfl) (by kernel_rfl) ?_
  repeat (first
    | go_big_quiet_skip
    | (go_big_quiet_want
       first
         | (apply quiet_val
            focus (
              intro WC hWC
              obtain ⟨hcc0, hff0⟩ := bcell hWC
              go_simp
              all_goals rfl
              done)
            go_simp
            go_big_quiet_on)
         | (apply quiet_call
            focus (
              intro WC hWC
              go_simp
              all_goals (first | rfl | exact ⟨rfl, rfl⟩)
              done)
            focus (
              intro WC hWC
              with_reducible exact S1.out WC hWC
              done)
            go_simp
            go_big_quiet_on)
         | (apply quiet_call
            focus (
              intro WC hWC
              go_simp
              all_goals (first | rfl | exact ⟨rfl, rfl⟩)
              done)
            focus (
              intro WC hWC
              with_reducible exact S2.out WC hWC
              done)
            go_simp
            go_big_quiet_on)))
  refine wpQuiet_nil ?_
  intro W9 hW9
  go_wp2_with fail
  go_ret
  exact ⟨rfl, BA.out.trans (hW9.mono BA.out.size)⟩

set_option maxRecDepth 100000 in
set_option maxHeartbeats 8000000 in
theorem ProofCheckSpec_walk (p : Pg) (s : Sl) (l : List At) (B : Option Addr) (b : Nat) (us : List Us) (D : Option Addr) (d : Nat) (cs : List Bool) (C : Option Addr) (cc : Nat) (M : Int) (w : World) (hr : Rqs w everyT s p.reqs) (hi : p.mean.i64) (hl : SlR w everyT 5 At.enc ⟨B, l.length, b⟩ l) (hu : SlR w everyT 3 Us.enc ⟨D, us.length, d⟩ us) (hc : SlR w everyT 1 boolE ⟨C, cs.length, cc⟩ cs) :
    Calls Try.prog 4 #[pgV p s, .slice B l.length b, auV ⟨D, us.length, d⟩ M ⟨C, cs.length, cc⟩] w fun e w' => e = .returned (.bool true) ∧ Below w.heap.size w w' := by
  have hF := Lib.hid (fun W (h : Below w.heap.size w W) => RProFew_any (P := everyT) p s l B b W (hr.step h))
  have hCk := Lib.hid (fun W (h : Below w.heap.size w W) (hll : l.length ≤ 12) (hlu : us.length ≤ 60) => ProCheck_any (P := everyT) p s l B b us D d M cs C cc W (hr.step h) hi (hl.step h) (hu.step h).reads (hc.step h) (by omega) (by omega))
  have hRCk := Lib.hid (fun W (h : Below w.heap.size w W) (hll : l.length ≤ 12) (hlu : us.length ≤ 60) => RProCheck_any (P := everyT) p s l B b us D d M cs C cc W (hr.step h) hi (hl.step h) (hu.step h).reads (hc.step h) (by omega) (by omega))
  have hn := hr.len
  obtain ⟨A, n, c⟩ := s
  simp only at hn
  subst hn
  clear hr hi hl hu hc
  unfold pgV auV at *
  simp only at hF hCk hRCk ⊢
  cases hf : fewP p l
  · have HFW := Lib.hid hf
    clear hf
    go_enter Try.func4, Try.ntmps4
    go_wp2_with fail
    obtain ⟨W0, hW0⟩ : ∃ W, W = ((w.alloc (.cells #[.string p.nm, .int .i64 p.number, .int .i64 p.uses, .int .i64 p.earn, .int .i64 p.mean.num, .int .i64 p.mean.den, .slice A p.reqs.length c] 26)).alloc (.cells #[.slice D us.length d, .int .i64 M, .slice C cs.length cc] 39)) := ⟨_, rfl⟩
    have hp0 : Bx W0 w.heap.size (pgC p ⟨A, p.reqs.length, c⟩) := by rw [hW0]; exact (Bx.new w _ _).alloc _
    have ha0 : Bx W0 (w.heap.size + 1) (auC ⟨D, us.length, d⟩ M ⟨C, cs.length, cc⟩) := by rw [hW0]; exact Bx.at_ _ _ _ _ (by simp)
    have hb0 : Below w.heap.size w W0 := by rw [hW0]; exact ((Below.refl _ _).alloc (Nat.le_refl _) _).alloc (by simp) _
    rw [← hW0]
    have HP := Lib.hid hp0
    have BA := Lib.hid hb0
    have HA := Lib.hid ha0
    clear hW0 hp0 hb0 ha0
    refine (proSane_any _).mono ?_
    rintro e w1 ⟨rfl, hb1⟩
    have S_w1 : Below W0.heap.size W0 w1 := hb1
    have HP := Lib.hid (HP.out.step S_w1)
    have BA := Lib.hid (BA.out.trans (S_w1.mono BA.out.size))
    have HA := Lib.hid (HA.out.step S_w1)
    have z_w1 := S_w1.size
    have p0 := HP.out.1 0 _ rfl
    have p1 := HP.out.1 1 _ rfl
    have p2 := HP.out.1 2 _ rfl
    have p3 := HP.out.1 3 _ rfl
    have p4 := HP.out.1 4 _ rfl
    have p5 := HP.out.1 5 _ rfl
    have p6 := HP.out.1 6 _ rfl
    have pz := HP.out.2.2
    have x0 := HA.out.1 0 _ rfl
    have x1 := HA.out.1 1 _ rfl
    have x2 := HA.out.1 2 _ rfl
    have xz := HA.out.2.2
    go_wp2_with fail
    clear p0 p1 p2 p3 p4 p5 p6 pz
    clear x0 x1 x2 xz
    refine (hF.out _ BA.out).mono ?_
    rw [HFW.out]
    rintro e w2 ⟨rfl, hb2⟩
    have S_w2 : Below w1.heap.size w1 w2 := hb2
    have HP := Lib.hid (HP.out.step S_w2)
    have BA := Lib.hid (BA.out.trans (S_w2.mono BA.out.size))
    have HA := Lib.hid (HA.out.step S_w2)
    have z_w2 := S_w2.size
    have p0 := HP.out.1 0 _ rfl
    have p1 := HP.out.1 1 _ rfl
    have p2 := HP.out.1 2 _ rfl
    have p3 := HP.out.1 3 _ rfl
    have p4 := HP.out.1 4 _ rfl
    have p5 := HP.out.1 5 _ rfl
    have p6 := HP.out.1 6 _ rfl
    have pz := HP.out.2.2
    have x0 := HA.out.1 0 _ rfl
    have x1 := HA.out.1 1 _ rfl
    have x2 := HA.out.1 2 _ rfl
    have xz := HA.out.2.2
    go_wp2_with fail
    go_ret
    exact ⟨rfl, BA.out⟩
  have HFW := Lib.hid hf
  have hll := few_len hf
  clear hf
  by_cases hu0 : us.length ≤ 60
  rotate_left
  · have e0 : decide ((60 : Int) < (us.length : Int)) = true := by simp; omega
    go_enter Try.func4, Try.ntmps4
    go_wp2_with fail
    obtain ⟨W0, hW0⟩ : ∃ W, W = ((w.alloc (.cells #[.string p.nm, .int .i64 p.number, .int .i64 p.uses, .int .i64 p.earn, .int .i64 p.mean.num, .int .i64 p.mean.den, .slice A p.reqs.length c] 26)).alloc (.cells #[.slice D us.length d, .int .i64 M, .slice C cs.length cc] 39)) := ⟨_, rfl⟩
    have hp0 : Bx W0 w.heap.size (pgC p ⟨A, p.reqs.length, c⟩) := by rw [hW0]; exact (Bx.new w _ _).alloc _
    have ha0 : Bx W0 (w.heap.size + 1) (auC ⟨D, us.length, d⟩ M ⟨C, cs.length, cc⟩) := by rw [hW0]; exact Bx.at_ _ _ _ _ (by simp)
    have hb0 : Below w.heap.size w W0 := by rw [hW0]; exact ((Below.refl _ _).alloc (Nat.le_refl _) _).alloc (by simp) _
    rw [← hW0]
    have HP := Lib.hid hp0
    have BA := Lib.hid hb0
    have HA := Lib.hid ha0
    clear hW0 hp0 hb0 ha0
    refine (proSane_any _).mono ?_
    rintro e w1 ⟨rfl, hb1⟩
    have S_w1 : Below W0.heap.size W0 w1 := hb1
    have HP := Lib.hid (HP.out.step S_w1)
    have BA := Lib.hid (BA.out.trans (S_w1.mono BA.out.size))
    have HA := Lib.hid (HA.out.step S_w1)
    have z_w1 := S_w1.size
    have p0 := HP.out.1 0 _ rfl
    have p1 := HP.out.1 1 _ rfl
    have p2 := HP.out.1 2 _ rfl
    have p3 := HP.out.1 3 _ rfl
    have p4 := HP.out.1 4 _ rfl
    have p5 := HP.out.1 5 _ rfl
    have p6 := HP.out.1 6 _ rfl
    have pz := HP.out.2.2
    have x0 := HA.out.1 0 _ rfl
    have x1 := HA.out.1 1 _ rfl
    have x2 := HA.out.1 2 _ rfl
    have xz := HA.out.2.2
    go_wp2_with fail
    clear p0 p1 p2 p3 p4 p5 p6 pz
    clear x0 x1 x2 xz
    refine (hF.out _ BA.out).mono ?_
    rw [HFW.out]
    rintro e w2 ⟨rfl, hb2⟩
    have S_w2 : Below w1.heap.size w1 w2 := hb2
    have HP := Lib.hid (HP.out.step S_w2)
    have BA := Lib.hid (BA.out.trans (S_w2.mono BA.out.size))
    have HA := Lib.hid (HA.out.step S_w2)
    have z_w2 := S_w2.size
    have p0 := HP.out.1 0 _ rfl
    have p1 := HP.out.1 1 _ rfl
    have p2 := HP.out.1 2 _ rfl
    have p3 := HP.out.1 3 _ rfl
    have p4 := HP.out.1 4 _ rfl
    have p5 := HP.out.1 5 _ rfl
    have p6 := HP.out.1 6 _ rfl
    have pz := HP.out.2.2
    have x0 := HA.out.1 0 _ rfl
    have x1 := HA.out.1 1 _ rfl
    have x2 := HA.out.1 2 _ rfl
    have xz := HA.out.2.2
    go_wp2_with fail
    go_ret
    exact ⟨rfl, BA.out⟩
  have e0 : decide ((60 : Int) < (us.length : Int)) = false := by simp; omega
  obtain ⟨E, hE⟩ : ∃ a, auditE p l us M cs = a := ⟨_, rfl⟩
  rw [hE] at hCk hRCk
  clear hE
  go_enter Try.func4, Try.ntmps4
  go_wp2_with fail
  obtain ⟨W0, hW0⟩ : ∃ W, W = ((w.alloc (.cells #[.string p.nm, .int .i64 p.number, .int .i64 p.uses, .int .i64 p.earn, .int .i64 p.mean.num, .int .i64 p.mean.den, .slice A p.reqs.length c] 26)).alloc (.cells #[.slice D us.length d, .int .i64 M, .slice C cs.length cc] 39)) := ⟨_, rfl⟩
  have hp0 : Bx W0 w.heap.size (pgC p ⟨A, p.reqs.length, c⟩) := by rw [hW0]; exact (Bx.new w _ _).alloc _
  have ha0 : Bx W0 (w.heap.size + 1) (auC ⟨D, us.length, d⟩ M ⟨C, cs.length, cc⟩) := by rw [hW0]; exact Bx.at_ _ _ _ _ (by simp)
  have hb0 : Below w.heap.size w W0 := by rw [hW0]; exact ((Below.refl _ _).alloc (Nat.le_refl _) _).alloc (by simp) _
  rw [← hW0]
  have HP := Lib.hid hp0
  have BA := Lib.hid hb0
  have HA := Lib.hid ha0
  clear hW0 hp0 hb0 ha0
  refine (proSane_any _).mono ?_
  rintro e w1 ⟨rfl, hb1⟩
  have S_w1 : Below W0.heap.size W0 w1 := hb1
  have HP := Lib.hid (HP.out.step S_w1)
  have BA := Lib.hid (BA.out.trans (S_w1.mono BA.out.size))
  have HA := Lib.hid (HA.out.step S_w1)
  have z_w1 := S_w1.size
  have p0 := HP.out.1 0 _ rfl
  have p1 := HP.out.1 1 _ rfl
  have p2 := HP.out.1 2 _ rfl
  have p3 := HP.out.1 3 _ rfl
  have p4 := HP.out.1 4 _ rfl
  have p5 := HP.out.1 5 _ rfl
  have p6 := HP.out.1 6 _ rfl
  have pz := HP.out.2.2
  have x0 := HA.out.1 0 _ rfl
  have x1 := HA.out.1 1 _ rfl
  have x2 := HA.out.1 2 _ rfl
  have xz := HA.out.2.2
  go_wp2_with fail
  clear p0 p1 p2 p3 p4 p5 p6 pz
  clear x0 x1 x2 xz
  refine (hF.out _ BA.out).mono ?_
  rw [HFW.out]
  rintro e w2 ⟨rfl, hb2⟩
  have S_w2 : Below w1.heap.size w1 w2 := hb2
  have HP := Lib.hid (HP.out.step S_w2)
  have BA := Lib.hid (BA.out.trans (S_w2.mono BA.out.size))
  have HA := Lib.hid (HA.out.step S_w2)
  have z_w2 := S_w2.size
  have p0 := HP.out.1 0 _ rfl
  have p1 := HP.out.1 1 _ rfl
  have p2 := HP.out.1 2 _ rfl
  have p3 := HP.out.1 3 _ rfl
  have p4 := HP.out.1 4 _ rfl
  have p5 := HP.out.1 5 _ rfl
  have p6 := HP.out.1 6 _ rfl
  have pz := HP.out.2.2
  have x0 := HA.out.1 0 _ rfl
  have x1 := HA.out.1 1 _ rfl
  have x2 := HA.out.1 2 _ rfl
  have xz := HA.out.2.2
  go_upto_region 5 with fail
  have S1 : Hid (∀ W, Below w2.heap.size w2 W → Calls Try.prog 19 #[.agg #[.string p.nm, .int .i64 p.number, .int .i64 p.uses, .int .i64 p.earn, .int .i64 p.mean.num, .int .i64 p.mean.den, .slice A p.reqs.length c], .slice B l.length b, .agg #[.slice D us.length d, .int .i64 M, .slice C cs.length cc]] W fun e w' => e = .returned (.int .i64 E) ∧ Below w2.heap.size w2 w') := Lib.hid (fun W h => (hCk.out W (BA.out.trans (h.mono BA.out.size)) hll hu0).mono (fun e w' k => ⟨k.1, h.trans ((k.2.mono h.size))⟩))
  have S2 : Hid (∀ W, Below w2.heap.size w2 W → Calls Try.prog 20 #[.agg #[.string p.nm, .int .i64 p.number, .int .i64 p.uses, .int .i64 p.earn, .int .i64 p.mean.num, .int .i64 p.mean.den, .slice A p.reqs.length c], .slice B l.length b, .agg #[.slice D us.length d, .int .i64 M, .slice C cs.length cc]] W fun e w' => e = .returned (.int .i64 E) ∧ Below w2.heap.size w2 w') := Lib.hid (fun W h => (hRCk.out W (BA.out.trans (h.mono BA.out.size)) hll hu0).mono (fun e w' k => ⟨k.1, h.trans ((k.2.mono h.size))⟩))
  refine wp_region_below (by kernel_rfl) (by kernel_rfl) ?_
  repeat (first
    | go_big_quiet_skip
    | (go_big_quiet_want
       first
         | (apply quiet_val
            focus (
              intro WC hWC
              obtain ⟨hcc0, hff0⟩ := bcell hWC
              go_simp
              all_goals rfl
              done)
            go_simp
            go_big_quiet_on)
         | (apply quiet_call
            focus (
              intro WC hWC
              go_simp
              all_goals (first | rfl | exact ⟨rfl, rfl⟩)
              done)
            focus (
              intro WC hWC
              with_reducible exact S1.out WC hWC
              done)
            go_simp
            go_big_quiet_on)
         | (apply quiet_call
            focus (
              intro WC hWC
              go_simp
              all_goals (first | rfl | exact ⟨rfl, rfl⟩)
              done)
            focus (
              intro WC hWC
              with_reducible exact S2.out WC hWC
              done)
            go_simp
            go_big_quiet_on)))
  refine wpQuiet_nil ?_
  intro W9 hW9
  go_wp2_with fail
  go_ret
  exact ⟨rfl, BA.out.trans (hW9.mono BA.out.size)⟩

set_option maxRecDepth 100000 in
set_option maxHeartbeats 8000000 in
theorem ProofDual_walk (p : Pg) (s : Sl) (l : List At) (B : Option Addr) (b : Nat) (us : List Us) (D : Option Addr) (d : Nat) (cs : List Bool) (C : Option Addr) (cc : Nat) (w : World) (hr : Rqs w everyT s p.reqs) (hi : p.mean.i64) (hl : SlR w everyT 5 At.enc ⟨B, l.length, b⟩ l) (hu : SlR w everyT 3 Us.enc ⟨D, us.length, d⟩ us) (hc : SlR w everyT 1 boolE ⟨C, cs.length, cc⟩ cs) :
    Calls Try.prog 5 #[pgV p s, .slice B l.length b, .slice D us.length d, .slice C cs.length cc] w fun e w' => e = .returned (.bool true) ∧ Below w.heap.size w w' := by
  have hF := Lib.hid (fun W (h : Below w.heap.size w W) => RProFew_any (P := everyT) p s l B b W (hr.step h))
  have hMi := Lib.hid (fun W (h : Below w.heap.size w W) (hlu : us.length ≤ 60) => Missing_any (P := everyT) p s us D d W (hr.step h) hi (hu.step h).reads (by omega))
  have hBo := Lib.hid (fun W (h : Below w.heap.size w W) (hll : l.length ≤ 12) => Bound_any (P := everyT) p s l B b cs C cc W (hr.step h) hi (hl.step h) (hc.step h) (by omega))
  have hAl := Lib.hid (fun W (h : Below w.heap.size w W) (hll : l.length ≤ 12) (hlu : us.length ≤ 60) => Allowed_any (P := everyT) p s l B b us D d W (hr.step h) hi (hl.step h).reads (hu.step h).reads (by omega) (by omega))
  have hn := hr.len
  obtain ⟨A, n, c⟩ := s
  simp only at hn
  subst hn
  clear hr hi hl hu hc
  unfold pgV at *
  simp only at hF hMi hBo hAl ⊢
  cases hf : fewP p l
  · have HFW := Lib.hid hf
    clear hf
    go_enter Try.func5, Try.ntmps5
    go_wp2_with fail
    obtain ⟨W0, hW0⟩ : ∃ W, W = (w.alloc (.cells #[.string p.nm, .int .i64 p.number, .int .i64 p.uses, .int .i64 p.earn, .int .i64 p.mean.num, .int .i64 p.mean.den, .slice A p.reqs.length c] 26)) := ⟨_, rfl⟩
    have hp0 : Bx W0 w.heap.size (pgC p ⟨A, p.reqs.length, c⟩) := by rw [hW0]; exact Bx.new w _ _
    have hb0 : Below w.heap.size w W0 := by rw [hW0]; exact (Below.refl _ _).alloc (Nat.le_refl _) _
    rw [← hW0]
    have HP := Lib.hid hp0
    have BA := Lib.hid hb0
    clear hW0 hp0 hb0
    refine (proSane_any _).mono ?_
    rintro e w1 ⟨rfl, hb1⟩
    have S_w1 : Below W0.heap.size W0 w1 := hb1
    have HP := Lib.hid (HP.out.step S_w1)
    have BA := Lib.hid (BA.out.trans (S_w1.mono BA.out.size))
    have z_w1 := S_w1.size
    have p0 := HP.out.1 0 _ rfl
    have p1 := HP.out.1 1 _ rfl
    have p2 := HP.out.1 2 _ rfl
    have p3 := HP.out.1 3 _ rfl
    have p4 := HP.out.1 4 _ rfl
    have p5 := HP.out.1 5 _ rfl
    have p6 := HP.out.1 6 _ rfl
    have pz := HP.out.2.2
    go_wp2_with fail
    clear p0 p1 p2 p3 p4 p5 p6 pz
    refine (hF.out _ BA.out).mono ?_
    rw [HFW.out]
    rintro e w2 ⟨rfl, hb2⟩
    have S_w2 : Below w1.heap.size w1 w2 := hb2
    have HP := Lib.hid (HP.out.step S_w2)
    have BA := Lib.hid (BA.out.trans (S_w2.mono BA.out.size))
    have z_w2 := S_w2.size
    have p0 := HP.out.1 0 _ rfl
    have p1 := HP.out.1 1 _ rfl
    have p2 := HP.out.1 2 _ rfl
    have p3 := HP.out.1 3 _ rfl
    have p4 := HP.out.1 4 _ rfl
    have p5 := HP.out.1 5 _ rfl
    have p6 := HP.out.1 6 _ rfl
    have pz := HP.out.2.2
    go_wp2_with fail
    go_ret
    exact ⟨rfl, BA.out⟩
  have HFW := Lib.hid hf
  have hll := few_len hf
  clear hf
  by_cases hu0 : us.length ≤ 60
  rotate_left
  · have e0 : decide ((60 : Int) < (us.length : Int)) = true := by simp; omega
    go_enter Try.func5, Try.ntmps5
    go_wp2_with fail
    obtain ⟨W0, hW0⟩ : ∃ W, W = (w.alloc (.cells #[.string p.nm, .int .i64 p.number, .int .i64 p.uses, .int .i64 p.earn, .int .i64 p.mean.num, .int .i64 p.mean.den, .slice A p.reqs.length c] 26)) := ⟨_, rfl⟩
    have hp0 : Bx W0 w.heap.size (pgC p ⟨A, p.reqs.length, c⟩) := by rw [hW0]; exact Bx.new w _ _
    have hb0 : Below w.heap.size w W0 := by rw [hW0]; exact (Below.refl _ _).alloc (Nat.le_refl _) _
    rw [← hW0]
    have HP := Lib.hid hp0
    have BA := Lib.hid hb0
    clear hW0 hp0 hb0
    refine (proSane_any _).mono ?_
    rintro e w1 ⟨rfl, hb1⟩
    have S_w1 : Below W0.heap.size W0 w1 := hb1
    have HP := Lib.hid (HP.out.step S_w1)
    have BA := Lib.hid (BA.out.trans (S_w1.mono BA.out.size))
    have z_w1 := S_w1.size
    have p0 := HP.out.1 0 _ rfl
    have p1 := HP.out.1 1 _ rfl
    have p2 := HP.out.1 2 _ rfl
    have p3 := HP.out.1 3 _ rfl
    have p4 := HP.out.1 4 _ rfl
    have p5 := HP.out.1 5 _ rfl
    have p6 := HP.out.1 6 _ rfl
    have pz := HP.out.2.2
    go_wp2_with fail
    clear p0 p1 p2 p3 p4 p5 p6 pz
    refine (hF.out _ BA.out).mono ?_
    rw [HFW.out]
    rintro e w2 ⟨rfl, hb2⟩
    have S_w2 : Below w1.heap.size w1 w2 := hb2
    have HP := Lib.hid (HP.out.step S_w2)
    have BA := Lib.hid (BA.out.trans (S_w2.mono BA.out.size))
    have z_w2 := S_w2.size
    have p0 := HP.out.1 0 _ rfl
    have p1 := HP.out.1 1 _ rfl
    have p2 := HP.out.1 2 _ rfl
    have p3 := HP.out.1 3 _ rfl
    have p4 := HP.out.1 4 _ rfl
    have p5 := HP.out.1 5 _ rfl
    have p6 := HP.out.1 6 _ rfl
    have pz := HP.out.2.2
    go_wp2_with fail
    go_ret
    exact ⟨rfl, BA.out⟩
  have e0 : decide ((60 : Int) < (us.length : Int)) = false := by simp; omega
  obtain ⟨E, hE⟩ : ∃ a, a = allowP p l us := ⟨_, rfl⟩
  rw [← hE] at hAl
  by_cases h0 : E = 0
  rotate_left
  · have e1 : (E == 0) = false := by simpa using h0
    have e2 : (E != 0) = true := by simpa using h0
    clear h0 hE
    go_enter Try.func5, Try.ntmps5
    go_wp2_with fail
    obtain ⟨W0, hW0⟩ : ∃ W, W = (w.alloc (.cells #[.string p.nm, .int .i64 p.number, .int .i64 p.uses, .int .i64 p.earn, .int .i64 p.mean.num, .int .i64 p.mean.den, .slice A p.reqs.length c] 26)) := ⟨_, rfl⟩
    have hp0 : Bx W0 w.heap.size (pgC p ⟨A, p.reqs.length, c⟩) := by rw [hW0]; exact Bx.new w _ _
    have hb0 : Below w.heap.size w W0 := by rw [hW0]; exact (Below.refl _ _).alloc (Nat.le_refl _) _
    rw [← hW0]
    have HP := Lib.hid hp0
    have BA := Lib.hid hb0
    clear hW0 hp0 hb0
    refine (proSane_any _).mono ?_
    rintro e w1 ⟨rfl, hb1⟩
    have S_w1 : Below W0.heap.size W0 w1 := hb1
    have HP := Lib.hid (HP.out.step S_w1)
    have BA := Lib.hid (BA.out.trans (S_w1.mono BA.out.size))
    have z_w1 := S_w1.size
    have p0 := HP.out.1 0 _ rfl
    have p1 := HP.out.1 1 _ rfl
    have p2 := HP.out.1 2 _ rfl
    have p3 := HP.out.1 3 _ rfl
    have p4 := HP.out.1 4 _ rfl
    have p5 := HP.out.1 5 _ rfl
    have p6 := HP.out.1 6 _ rfl
    have pz := HP.out.2.2
    go_wp2_with fail
    clear p0 p1 p2 p3 p4 p5 p6 pz
    refine (hF.out _ BA.out).mono ?_
    rw [HFW.out]
    rintro e w2 ⟨rfl, hb2⟩
    have S_w2 : Below w1.heap.size w1 w2 := hb2
    have HP := Lib.hid (HP.out.step S_w2)
    have BA := Lib.hid (BA.out.trans (S_w2.mono BA.out.size))
    have z_w2 := S_w2.size
    have p0 := HP.out.1 0 _ rfl
    have p1 := HP.out.1 1 _ rfl
    have p2 := HP.out.1 2 _ rfl
    have p3 := HP.out.1 3 _ rfl
    have p4 := HP.out.1 4 _ rfl
    have p5 := HP.out.1 5 _ rfl
    have p6 := HP.out.1 6 _ rfl
    have pz := HP.out.2.2
    go_wp2_with fail
    clear p0 p1 p2 p3 p4 p5 p6 pz
    refine (hAl.out _ BA.out hll hu0).mono ?_
    rintro e w3 ⟨rfl, hbw3⟩
    have S_w3 : Below w2.heap.size w2 w3 := hbw3
    have HP := Lib.hid (HP.out.step S_w3)
    have BA := Lib.hid (BA.out.trans (S_w3.mono BA.out.size))
    have z_w3 := S_w3.size
    have p0 := HP.out.1 0 _ rfl
    have p1 := HP.out.1 1 _ rfl
    have p2 := HP.out.1 2 _ rfl
    have p3 := HP.out.1 3 _ rfl
    have p4 := HP.out.1 4 _ rfl
    have p5 := HP.out.1 5 _ rfl
    have p6 := HP.out.1 6 _ rfl
    have pz := HP.out.2.2
    go_wp2_with fail
    go_ret
    exact ⟨rfl, BA.out⟩
  subst h0
  have HAL := Lib.hid hE.symm
  obtain ⟨N, hN⟩ : ∃ a, a = totR p.reqs - usT us := ⟨_, rfl⟩
  have hn0 : 0 ≤ N := by rw [hN]; exact miss_nonneg hE.symm
  obtain ⟨n1, n2, hb⟩ : ∃ a b, boundP p l cs = (a, b) := ⟨_, _, rfl⟩
  have hdl := fun h => dual_law2 cs hE.symm (show (boundP p l cs).2 = 0 from h)
  rw [hb, ← hN] at hdl
  simp only at hdl
  rw [miss_of_allow hE.symm, ← hN] at hMi
  rw [hb] at hBo
  have HN := Lib.hid hN
  clear hE hN hb
  by_cases h2 : n2 = 0
  · obtain ⟨d1, d2⟩ := hdl h2
    subst h2
    clear hdl
    go_enter Try.func5, Try.ntmps5
    go_wp2_with fail
    obtain ⟨W0, hW0⟩ : ∃ W, W = (w.alloc (.cells #[.string p.nm, .int .i64 p.number, .int .i64 p.uses, .int .i64 p.earn, .int .i64 p.mean.num, .int .i64 p.mean.den, .slice A p.reqs.length c] 26)) := ⟨_, rfl⟩
    have hp0 : Bx W0 w.heap.size (pgC p ⟨A, p.reqs.length, c⟩) := by rw [hW0]; exact Bx.new w _ _
    have hb0 : Below w.heap.size w W0 := by rw [hW0]; exact (Below.refl _ _).alloc (Nat.le_refl _) _
    rw [← hW0]
    have HP := Lib.hid hp0
    have BA := Lib.hid hb0
    clear hW0 hp0 hb0
    refine (proSane_any _).mono ?_
    rintro e w1 ⟨rfl, hb1⟩
    have S_w1 : Below W0.heap.size W0 w1 := hb1
    have HP := Lib.hid (HP.out.step S_w1)
    have BA := Lib.hid (BA.out.trans (S_w1.mono BA.out.size))
    have z_w1 := S_w1.size
    have p0 := HP.out.1 0 _ rfl
    have p1 := HP.out.1 1 _ rfl
    have p2 := HP.out.1 2 _ rfl
    have p3 := HP.out.1 3 _ rfl
    have p4 := HP.out.1 4 _ rfl
    have p5 := HP.out.1 5 _ rfl
    have p6 := HP.out.1 6 _ rfl
    have pz := HP.out.2.2
    go_wp2_with fail
    clear p0 p1 p2 p3 p4 p5 p6 pz
    refine (hF.out _ BA.out).mono ?_
    rw [HFW.out]
    rintro e w2 ⟨rfl, hb2⟩
    have S_w2 : Below w1.heap.size w1 w2 := hb2
    have HP := Lib.hid (HP.out.step S_w2)
    have BA := Lib.hid (BA.out.trans (S_w2.mono BA.out.size))
    have z_w2 := S_w2.size
    have p0 := HP.out.1 0 _ rfl
    have p1 := HP.out.1 1 _ rfl
    have p2 := HP.out.1 2 _ rfl
    have p3 := HP.out.1 3 _ rfl
    have p4 := HP.out.1 4 _ rfl
    have p5 := HP.out.1 5 _ rfl
    have p6 := HP.out.1 6 _ rfl
    have pz := HP.out.2.2
    go_wp2_with fail
    clear p0 p1 p2 p3 p4 p5 p6 pz
    refine (hAl.out _ BA.out hll hu0).mono ?_
    rintro e w3 ⟨rfl, hbw3⟩
    have S_w3 : Below w2.heap.size w2 w3 := hbw3
    have HP := Lib.hid (HP.out.step S_w3)
    have BA := Lib.hid (BA.out.trans (S_w3.mono BA.out.size))
    have z_w3 := S_w3.size
    have p0 := HP.out.1 0 _ rfl
    have p1 := HP.out.1 1 _ rfl
    have p2 := HP.out.1 2 _ rfl
    have p3 := HP.out.1 3 _ rfl
    have p4 := HP.out.1 4 _ rfl
    have p5 := HP.out.1 5 _ rfl
    have p6 := HP.out.1 6 _ rfl
    have pz := HP.out.2.2
    go_wp2_with fail
    clear p0 p1 p2 p3 p4 p5 p6 pz
    refine (hMi.out _ BA.out hu0).mono ?_
    rintro e w4 ⟨rfl, hbw4⟩
    have S_w4 : Below w3.heap.size w3 w4 := hbw4
    have HP := Lib.hid (HP.out.step S_w4)
    have BA := Lib.hid (BA.out.trans (S_w4.mono BA.out.size))
    have z_w4 := S_w4.size
    have p0 := HP.out.1 0 _ rfl
    have p1 := HP.out.1 1 _ rfl
    have p2 := HP.out.1 2 _ rfl
    have p3 := HP.out.1 3 _ rfl
    have p4 := HP.out.1 4 _ rfl
    have p5 := HP.out.1 5 _ rfl
    have p6 := HP.out.1 6 _ rfl
    have pz := HP.out.2.2
    go_wp2_with fail
    clear p0 p1 p2 p3 p4 p5 p6 pz
    refine (hBo.out _ BA.out hll).mono ?_
    rintro e w5 ⟨rfl, hbw5⟩
    have S_w5 : Below w4.heap.size w4 w5 := hbw5
    have HP := Lib.hid (HP.out.step S_w5)
    have BA := Lib.hid (BA.out.trans (S_w5.mono BA.out.size))
    have z_w5 := S_w5.size
    have p0 := HP.out.1 0 _ rfl
    have p1 := HP.out.1 1 _ rfl
    have p2 := HP.out.1 2 _ rfl
    have p3 := HP.out.1 3 _ rfl
    have p4 := HP.out.1 4 _ rfl
    have p5 := HP.out.1 5 _ rfl
    have p6 := HP.out.1 6 _ rfl
    have pz := HP.out.2.2
    go_wp2_with fail
    go_ret
    exact ⟨rfl, BA.out⟩
  · have e3 : (n2 == 0) = false := by simpa using h2
    have e4 : (n2 != 0) = true := by simpa using h2
    clear h2 hdl
    go_enter Try.func5, Try.ntmps5
    go_wp2_with fail
    obtain ⟨W0, hW0⟩ : ∃ W, W = (w.alloc (.cells #[.string p.nm, .int .i64 p.number, .int .i64 p.uses, .int .i64 p.earn, .int .i64 p.mean.num, .int .i64 p.mean.den, .slice A p.reqs.length c] 26)) := ⟨_, rfl⟩
    have hp0 : Bx W0 w.heap.size (pgC p ⟨A, p.reqs.length, c⟩) := by rw [hW0]; exact Bx.new w _ _
    have hb0 : Below w.heap.size w W0 := by rw [hW0]; exact (Below.refl _ _).alloc (Nat.le_refl _) _
    rw [← hW0]
    have HP := Lib.hid hp0
    have BA := Lib.hid hb0
    clear hW0 hp0 hb0
    refine (proSane_any _).mono ?_
    rintro e w1 ⟨rfl, hb1⟩
    have S_w1 : Below W0.heap.size W0 w1 := hb1
    have HP := Lib.hid (HP.out.step S_w1)
    have BA := Lib.hid (BA.out.trans (S_w1.mono BA.out.size))
    have z_w1 := S_w1.size
    have p0 := HP.out.1 0 _ rfl
    have p1 := HP.out.1 1 _ rfl
    have p2 := HP.out.1 2 _ rfl
    have p3 := HP.out.1 3 _ rfl
    have p4 := HP.out.1 4 _ rfl
    have p5 := HP.out.1 5 _ rfl
    have p6 := HP.out.1 6 _ rfl
    have pz := HP.out.2.2
    go_wp2_with fail
    clear p0 p1 p2 p3 p4 p5 p6 pz
    refine (hF.out _ BA.out).mono ?_
    rw [HFW.out]
    rintro e w2 ⟨rfl, hb2⟩
    have S_w2 : Below w1.heap.size w1 w2 := hb2
    have HP := Lib.hid (HP.out.step S_w2)
    have BA := Lib.hid (BA.out.trans (S_w2.mono BA.out.size))
    have z_w2 := S_w2.size
    have p0 := HP.out.1 0 _ rfl
    have p1 := HP.out.1 1 _ rfl
    have p2 := HP.out.1 2 _ rfl
    have p3 := HP.out.1 3 _ rfl
    have p4 := HP.out.1 4 _ rfl
    have p5 := HP.out.1 5 _ rfl
    have p6 := HP.out.1 6 _ rfl
    have pz := HP.out.2.2
    go_wp2_with fail
    clear p0 p1 p2 p3 p4 p5 p6 pz
    refine (hAl.out _ BA.out hll hu0).mono ?_
    rintro e w3 ⟨rfl, hbw3⟩
    have S_w3 : Below w2.heap.size w2 w3 := hbw3
    have HP := Lib.hid (HP.out.step S_w3)
    have BA := Lib.hid (BA.out.trans (S_w3.mono BA.out.size))
    have z_w3 := S_w3.size
    have p0 := HP.out.1 0 _ rfl
    have p1 := HP.out.1 1 _ rfl
    have p2 := HP.out.1 2 _ rfl
    have p3 := HP.out.1 3 _ rfl
    have p4 := HP.out.1 4 _ rfl
    have p5 := HP.out.1 5 _ rfl
    have p6 := HP.out.1 6 _ rfl
    have pz := HP.out.2.2
    go_wp2_with fail
    clear p0 p1 p2 p3 p4 p5 p6 pz
    refine (hMi.out _ BA.out hu0).mono ?_
    rintro e w4 ⟨rfl, hbw4⟩
    have S_w4 : Below w3.heap.size w3 w4 := hbw4
    have HP := Lib.hid (HP.out.step S_w4)
    have BA := Lib.hid (BA.out.trans (S_w4.mono BA.out.size))
    have z_w4 := S_w4.size
    have p0 := HP.out.1 0 _ rfl
    have p1 := HP.out.1 1 _ rfl
    have p2 := HP.out.1 2 _ rfl
    have p3 := HP.out.1 3 _ rfl
    have p4 := HP.out.1 4 _ rfl
    have p5 := HP.out.1 5 _ rfl
    have p6 := HP.out.1 6 _ rfl
    have pz := HP.out.2.2
    go_wp2_with fail
    clear p0 p1 p2 p3 p4 p5 p6 pz
    refine (hBo.out _ BA.out hll).mono ?_
    rintro e w5 ⟨rfl, hbw5⟩
    have S_w5 : Below w4.heap.size w4 w5 := hbw5
    have HP := Lib.hid (HP.out.step S_w5)
    have BA := Lib.hid (BA.out.trans (S_w5.mono BA.out.size))
    have z_w5 := S_w5.size
    have p0 := HP.out.1 0 _ rfl
    have p1 := HP.out.1 1 _ rfl
    have p2 := HP.out.1 2 _ rfl
    have p3 := HP.out.1 3 _ rfl
    have p4 := HP.out.1 4 _ rfl
    have p5 := HP.out.1 5 _ rfl
    have p6 := HP.out.1 6 _ rfl
    have pz := HP.out.2.2
    go_wp2_with fail
    go_ret
    exact ⟨rfl, BA.out⟩

set_option maxRecDepth 100000 in
set_option maxHeartbeats 8000000 in
theorem ProofOptimal_walk (p : Pg) (s : Sl) (l : List At) (B : Option Addr) (b : Nat) (us : List Us) (D : Option Addr) (d : Nat) (cs : List Bool) (C : Option Addr) (cc : Nat) (M : Int) (vs : List Us) (G : Option Addr) (gc : Nat) (w : World) (hr : Rqs w everyT s p.reqs) (hi : p.mean.i64) (hl : SlR w everyT 5 At.enc ⟨B, l.length, b⟩ l) (hu : SlR w everyT 3 Us.enc ⟨D, us.length, d⟩ us) (hc : SlR w everyT 1 boolE ⟨C, cs.length, cc⟩ cs) (hv : SlR w everyT 3 Us.enc ⟨G, vs.length, gc⟩ vs) :
    Calls Try.prog 6 #[pgV p s, .slice B l.length b, auV ⟨D, us.length, d⟩ M ⟨C, cs.length, cc⟩, .slice G vs.length gc] w fun e w' => e = .returned (.bool true) ∧ Below w.heap.size w w' := by
  have hF := Lib.hid (fun W (h : Below w.heap.size w W) => RProFew_any (P := everyT) p s l B b W (hr.step h))
  have hMi := Lib.hid (fun W (h : Below w.heap.size w W) (hlu : vs.length ≤ 60) => Missing_any (P := everyT) p s vs G gc W (hr.step h) hi (hv.step h).reads (by omega))
  have hAl := Lib.hid (fun W (h : Below w.heap.size w W) (hll : l.length ≤ 12) (hlu : vs.length ≤ 60) => Allowed_any (P := everyT) p s l B b vs G gc W (hr.step h) hi (hl.step h).reads (hv.step h).reads (by omega) (by omega))
  have hCk := Lib.hid (fun W (h : Below w.heap.size w W) (hll : l.length ≤ 12) (hlu : us.length ≤ 60) => ProCheck_any (P := everyT) p s l B b us D d M cs C cc W (hr.step h) hi (hl.step h) (hu.step h).reads (hc.step h) (by omega) (by omega))
  have hn := hr.len
  obtain ⟨A, n, c⟩ := s
  simp only at hn
  subst hn
  clear hr hi hl hu hc hv
  unfold pgV auV at *
  simp only at hF hMi hAl hCk ⊢
  cases hf : fewP p l
  · have HFW := Lib.hid hf
    clear hf
    go_enter Try.func6, Try.ntmps6
    go_wp2_with fail
    obtain ⟨W0, hW0⟩ : ∃ W, W = ((w.alloc (.cells #[.string p.nm, .int .i64 p.number, .int .i64 p.uses, .int .i64 p.earn, .int .i64 p.mean.num, .int .i64 p.mean.den, .slice A p.reqs.length c] 26)).alloc (.cells #[.slice D us.length d, .int .i64 M, .slice C cs.length cc] 39)) := ⟨_, rfl⟩
    have hp0 : Bx W0 w.heap.size (pgC p ⟨A, p.reqs.length, c⟩) := by rw [hW0]; exact (Bx.new w _ _).alloc _
    have ha0 : Bx W0 (w.heap.size + 1) (auC ⟨D, us.length, d⟩ M ⟨C, cs.length, cc⟩) := by rw [hW0]; exact Bx.at_ _ _ _ _ (by simp)
    have hb0 : Below w.heap.size w W0 := by rw [hW0]; exact ((Below.refl _ _).alloc (Nat.le_refl _) _).alloc (by simp) _
    rw [← hW0]
    have HP := Lib.hid hp0
    have BA := Lib.hid hb0
    have HA := Lib.hid ha0
    clear hW0 hp0 hb0 ha0
    refine (proSane_any _).mono ?_
    rintro e w1 ⟨rfl, hb1⟩
    have S_w1 : Below W0.heap.size W0 w1 := hb1
    have HP := Lib.hid (HP.out.step S_w1)
    have BA := Lib.hid (BA.out.trans (S_w1.mono BA.out.size))
    have HA := Lib.hid (HA.out.step S_w1)
    have z_w1 := S_w1.size
    have p0 := HP.out.1 0 _ rfl
    have p1 := HP.out.1 1 _ rfl
    have p2 := HP.out.1 2 _ rfl
    have p3 := HP.out.1 3 _ rfl
    have p4 := HP.out.1 4 _ rfl
    have p5 := HP.out.1 5 _ rfl
    have p6 := HP.out.1 6 _ rfl
    have pz := HP.out.2.2
    have x0 := HA.out.1 0 _ rfl
    have x1 := HA.out.1 1 _ rfl
    have x2 := HA.out.1 2 _ rfl
    have xz := HA.out.2.2
    go_wp2_with fail
    clear p0 p1 p2 p3 p4 p5 p6 pz
    clear x0 x1 x2 xz
    refine (hF.out _ BA.out).mono ?_
    rw [HFW.out]
    rintro e w2 ⟨rfl, hb2⟩
    have S_w2 : Below w1.heap.size w1 w2 := hb2
    have HP := Lib.hid (HP.out.step S_w2)
    have BA := Lib.hid (BA.out.trans (S_w2.mono BA.out.size))
    have HA := Lib.hid (HA.out.step S_w2)
    have z_w2 := S_w2.size
    have p0 := HP.out.1 0 _ rfl
    have p1 := HP.out.1 1 _ rfl
    have p2 := HP.out.1 2 _ rfl
    have p3 := HP.out.1 3 _ rfl
    have p4 := HP.out.1 4 _ rfl
    have p5 := HP.out.1 5 _ rfl
    have p6 := HP.out.1 6 _ rfl
    have pz := HP.out.2.2
    have x0 := HA.out.1 0 _ rfl
    have x1 := HA.out.1 1 _ rfl
    have x2 := HA.out.1 2 _ rfl
    have xz := HA.out.2.2
    go_wp2_with fail
    go_ret
    exact ⟨rfl, BA.out⟩
  have HFW := Lib.hid hf
  have hll := few_len hf
  clear hf
  by_cases hu0 : vs.length ≤ 60
  rotate_left
  · have e0 : decide ((60 : Int) < (vs.length : Int)) = true := by simp; omega
    go_enter Try.func6, Try.ntmps6
    go_wp2_with fail
    obtain ⟨W0, hW0⟩ : ∃ W, W = ((w.alloc (.cells #[.string p.nm, .int .i64 p.number, .int .i64 p.uses, .int .i64 p.earn, .int .i64 p.mean.num, .int .i64 p.mean.den, .slice A p.reqs.length c] 26)).alloc (.cells #[.slice D us.length d, .int .i64 M, .slice C cs.length cc] 39)) := ⟨_, rfl⟩
    have hp0 : Bx W0 w.heap.size (pgC p ⟨A, p.reqs.length, c⟩) := by rw [hW0]; exact (Bx.new w _ _).alloc _
    have ha0 : Bx W0 (w.heap.size + 1) (auC ⟨D, us.length, d⟩ M ⟨C, cs.length, cc⟩) := by rw [hW0]; exact Bx.at_ _ _ _ _ (by simp)
    have hb0 : Below w.heap.size w W0 := by rw [hW0]; exact ((Below.refl _ _).alloc (Nat.le_refl _) _).alloc (by simp) _
    rw [← hW0]
    have HP := Lib.hid hp0
    have BA := Lib.hid hb0
    have HA := Lib.hid ha0
    clear hW0 hp0 hb0 ha0
    refine (proSane_any _).mono ?_
    rintro e w1 ⟨rfl, hb1⟩
    have S_w1 : Below W0.heap.size W0 w1 := hb1
    have HP := Lib.hid (HP.out.step S_w1)
    have BA := Lib.hid (BA.out.trans (S_w1.mono BA.out.size))
    have HA := Lib.hid (HA.out.step S_w1)
    have z_w1 := S_w1.size
    have p0 := HP.out.1 0 _ rfl
    have p1 := HP.out.1 1 _ rfl
    have p2 := HP.out.1 2 _ rfl
    have p3 := HP.out.1 3 _ rfl
    have p4 := HP.out.1 4 _ rfl
    have p5 := HP.out.1 5 _ rfl
    have p6 := HP.out.1 6 _ rfl
    have pz := HP.out.2.2
    have x0 := HA.out.1 0 _ rfl
    have x1 := HA.out.1 1 _ rfl
    have x2 := HA.out.1 2 _ rfl
    have xz := HA.out.2.2
    go_wp2_with fail
    clear p0 p1 p2 p3 p4 p5 p6 pz
    clear x0 x1 x2 xz
    refine (hF.out _ BA.out).mono ?_
    rw [HFW.out]
    rintro e w2 ⟨rfl, hb2⟩
    have S_w2 : Below w1.heap.size w1 w2 := hb2
    have HP := Lib.hid (HP.out.step S_w2)
    have BA := Lib.hid (BA.out.trans (S_w2.mono BA.out.size))
    have HA := Lib.hid (HA.out.step S_w2)
    have z_w2 := S_w2.size
    have p0 := HP.out.1 0 _ rfl
    have p1 := HP.out.1 1 _ rfl
    have p2 := HP.out.1 2 _ rfl
    have p3 := HP.out.1 3 _ rfl
    have p4 := HP.out.1 4 _ rfl
    have p5 := HP.out.1 5 _ rfl
    have p6 := HP.out.1 6 _ rfl
    have pz := HP.out.2.2
    have x0 := HA.out.1 0 _ rfl
    have x1 := HA.out.1 1 _ rfl
    have x2 := HA.out.1 2 _ rfl
    have xz := HA.out.2.2
    go_wp2_with fail
    go_ret
    exact ⟨rfl, BA.out⟩
  have e0 : decide ((60 : Int) < (vs.length : Int)) = false := by simp; omega
  by_cases hu1 : us.length ≤ 60
  rotate_left
  · have e1 : decide ((60 : Int) < (us.length : Int)) = true := by simp; omega
    go_enter Try.func6, Try.ntmps6
    go_wp2_with fail
    obtain ⟨W0, hW0⟩ : ∃ W, W = ((w.alloc (.cells #[.string p.nm, .int .i64 p.number, .int .i64 p.uses, .int .i64 p.earn, .int .i64 p.mean.num, .int .i64 p.mean.den, .slice A p.reqs.length c] 26)).alloc (.cells #[.slice D us.length d, .int .i64 M, .slice C cs.length cc] 39)) := ⟨_, rfl⟩
    have hp0 : Bx W0 w.heap.size (pgC p ⟨A, p.reqs.length, c⟩) := by rw [hW0]; exact (Bx.new w _ _).alloc _
    have ha0 : Bx W0 (w.heap.size + 1) (auC ⟨D, us.length, d⟩ M ⟨C, cs.length, cc⟩) := by rw [hW0]; exact Bx.at_ _ _ _ _ (by simp)
    have hb0 : Below w.heap.size w W0 := by rw [hW0]; exact ((Below.refl _ _).alloc (Nat.le_refl _) _).alloc (by simp) _
    rw [← hW0]
    have HP := Lib.hid hp0
    have BA := Lib.hid hb0
    have HA := Lib.hid ha0
    clear hW0 hp0 hb0 ha0
    refine (proSane_any _).mono ?_
    rintro e w1 ⟨rfl, hb1⟩
    have S_w1 : Below W0.heap.size W0 w1 := hb1
    have HP := Lib.hid (HP.out.step S_w1)
    have BA := Lib.hid (BA.out.trans (S_w1.mono BA.out.size))
    have HA := Lib.hid (HA.out.step S_w1)
    have z_w1 := S_w1.size
    have p0 := HP.out.1 0 _ rfl
    have p1 := HP.out.1 1 _ rfl
    have p2 := HP.out.1 2 _ rfl
    have p3 := HP.out.1 3 _ rfl
    have p4 := HP.out.1 4 _ rfl
    have p5 := HP.out.1 5 _ rfl
    have p6 := HP.out.1 6 _ rfl
    have pz := HP.out.2.2
    have x0 := HA.out.1 0 _ rfl
    have x1 := HA.out.1 1 _ rfl
    have x2 := HA.out.1 2 _ rfl
    have xz := HA.out.2.2
    go_wp2_with fail
    clear p0 p1 p2 p3 p4 p5 p6 pz
    clear x0 x1 x2 xz
    refine (hF.out _ BA.out).mono ?_
    rw [HFW.out]
    rintro e w2 ⟨rfl, hb2⟩
    have S_w2 : Below w1.heap.size w1 w2 := hb2
    have HP := Lib.hid (HP.out.step S_w2)
    have BA := Lib.hid (BA.out.trans (S_w2.mono BA.out.size))
    have HA := Lib.hid (HA.out.step S_w2)
    have z_w2 := S_w2.size
    have p0 := HP.out.1 0 _ rfl
    have p1 := HP.out.1 1 _ rfl
    have p2 := HP.out.1 2 _ rfl
    have p3 := HP.out.1 3 _ rfl
    have p4 := HP.out.1 4 _ rfl
    have p5 := HP.out.1 5 _ rfl
    have p6 := HP.out.1 6 _ rfl
    have pz := HP.out.2.2
    have x0 := HA.out.1 0 _ rfl
    have x1 := HA.out.1 1 _ rfl
    have x2 := HA.out.1 2 _ rfl
    have xz := HA.out.2.2
    go_wp2_with fail
    go_ret
    exact ⟨rfl, BA.out⟩
  have e1 : decide ((60 : Int) < (us.length : Int)) = false := by simp; omega
  obtain ⟨E, hE⟩ : ∃ a, a = auditE p l us M cs := ⟨_, rfl⟩
  rw [← hE] at hCk
  by_cases h0 : E = 0
  rotate_left
  · have e5 : (E == 0) = false := by simpa using h0
    have e6 : (E != 0) = true := by simpa using h0
    clear h0 hE
    go_enter Try.func6, Try.ntmps6
    go_wp2_with fail
    obtain ⟨W0, hW0⟩ : ∃ W, W = ((w.alloc (.cells #[.string p.nm, .int .i64 p.number, .int .i64 p.uses, .int .i64 p.earn, .int .i64 p.mean.num, .int .i64 p.mean.den, .slice A p.reqs.length c] 26)).alloc (.cells #[.slice D us.length d, .int .i64 M, .slice C cs.length cc] 39)) := ⟨_, rfl⟩
    have hp0 : Bx W0 w.heap.size (pgC p ⟨A, p.reqs.length, c⟩) := by rw [hW0]; exact (Bx.new w _ _).alloc _
    have ha0 : Bx W0 (w.heap.size + 1) (auC ⟨D, us.length, d⟩ M ⟨C, cs.length, cc⟩) := by rw [hW0]; exact Bx.at_ _ _ _ _ (by simp)
    have hb0 : Below w.heap.size w W0 := by rw [hW0]; exact ((Below.refl _ _).alloc (Nat.le_refl _) _).alloc (by simp) _
    rw [← hW0]
    have HP := Lib.hid hp0
    have BA := Lib.hid hb0
    have HA := Lib.hid ha0
    clear hW0 hp0 hb0 ha0
    refine (proSane_any _).mono ?_
    rintro e w1 ⟨rfl, hb1⟩
    have S_w1 : Below W0.heap.size W0 w1 := hb1
    have HP := Lib.hid (HP.out.step S_w1)
    have BA := Lib.hid (BA.out.trans (S_w1.mono BA.out.size))
    have HA := Lib.hid (HA.out.step S_w1)
    have z_w1 := S_w1.size
    have p0 := HP.out.1 0 _ rfl
    have p1 := HP.out.1 1 _ rfl
    have p2 := HP.out.1 2 _ rfl
    have p3 := HP.out.1 3 _ rfl
    have p4 := HP.out.1 4 _ rfl
    have p5 := HP.out.1 5 _ rfl
    have p6 := HP.out.1 6 _ rfl
    have pz := HP.out.2.2
    have x0 := HA.out.1 0 _ rfl
    have x1 := HA.out.1 1 _ rfl
    have x2 := HA.out.1 2 _ rfl
    have xz := HA.out.2.2
    go_wp2_with fail
    clear p0 p1 p2 p3 p4 p5 p6 pz
    clear x0 x1 x2 xz
    refine (hF.out _ BA.out).mono ?_
    rw [HFW.out]
    rintro e w2 ⟨rfl, hb2⟩
    have S_w2 : Below w1.heap.size w1 w2 := hb2
    have HP := Lib.hid (HP.out.step S_w2)
    have BA := Lib.hid (BA.out.trans (S_w2.mono BA.out.size))
    have HA := Lib.hid (HA.out.step S_w2)
    have z_w2 := S_w2.size
    have p0 := HP.out.1 0 _ rfl
    have p1 := HP.out.1 1 _ rfl
    have p2 := HP.out.1 2 _ rfl
    have p3 := HP.out.1 3 _ rfl
    have p4 := HP.out.1 4 _ rfl
    have p5 := HP.out.1 5 _ rfl
    have p6 := HP.out.1 6 _ rfl
    have pz := HP.out.2.2
    have x0 := HA.out.1 0 _ rfl
    have x1 := HA.out.1 1 _ rfl
    have x2 := HA.out.1 2 _ rfl
    have xz := HA.out.2.2
    go_wp2_with fail
    clear p0 p1 p2 p3 p4 p5 p6 pz
    clear x0 x1 x2 xz
    refine (hCk.out _ BA.out hll hu1).mono ?_
    rintro e w3 ⟨rfl, hbw3⟩
    have S_w3 : Below w2.heap.size w2 w3 := hbw3
    have HP := Lib.hid (HP.out.step S_w3)
    have BA := Lib.hid (BA.out.trans (S_w3.mono BA.out.size))
    have HA := Lib.hid (HA.out.step S_w3)
    have z_w3 := S_w3.size
    have p0 := HP.out.1 0 _ rfl
    have p1 := HP.out.1 1 _ rfl
    have p2 := HP.out.1 2 _ rfl
    have p3 := HP.out.1 3 _ rfl
    have p4 := HP.out.1 4 _ rfl
    have p5 := HP.out.1 5 _ rfl
    have p6 := HP.out.1 6 _ rfl
    have pz := HP.out.2.2
    have x0 := HA.out.1 0 _ rfl
    have x1 := HA.out.1 1 _ rfl
    have x2 := HA.out.1 2 _ rfl
    have xz := HA.out.2.2
    go_wp2_with fail
    go_ret
    exact ⟨rfl, BA.out⟩
  subst h0
  obtain ⟨E2, hE2⟩ : ∃ a, a = allowP p l vs := ⟨_, rfl⟩
  rw [← hE2] at hAl
  by_cases h0 : E2 = 0
  rotate_left
  · have e5 : (E2 == 0) = false := by simpa using h0
    have e6 : (E2 != 0) = true := by simpa using h0
    clear h0 hE hE2
    go_enter Try.func6, Try.ntmps6
    go_wp2_with fail
    obtain ⟨W0, hW0⟩ : ∃ W, W = ((w.alloc (.cells #[.string p.nm, .int .i64 p.number, .int .i64 p.uses, .int .i64 p.earn, .int .i64 p.mean.num, .int .i64 p.mean.den, .slice A p.reqs.length c] 26)).alloc (.cells #[.slice D us.length d, .int .i64 M, .slice C cs.length cc] 39)) := ⟨_, rfl⟩
    have hp0 : Bx W0 w.heap.size (pgC p ⟨A, p.reqs.length, c⟩) := by rw [hW0]; exact (Bx.new w _ _).alloc _
    have ha0 : Bx W0 (w.heap.size + 1) (auC ⟨D, us.length, d⟩ M ⟨C, cs.length, cc⟩) := by rw [hW0]; exact Bx.at_ _ _ _ _ (by simp)
    have hb0 : Below w.heap.size w W0 := by rw [hW0]; exact ((Below.refl _ _).alloc (Nat.le_refl _) _).alloc (by simp) _
    rw [← hW0]
    have HP := Lib.hid hp0
    have BA := Lib.hid hb0
    have HA := Lib.hid ha0
    clear hW0 hp0 hb0 ha0
    refine (proSane_any _).mono ?_
    rintro e w1 ⟨rfl, hb1⟩
    have S_w1 : Below W0.heap.size W0 w1 := hb1
    have HP := Lib.hid (HP.out.step S_w1)
    have BA := Lib.hid (BA.out.trans (S_w1.mono BA.out.size))
    have HA := Lib.hid (HA.out.step S_w1)
    have z_w1 := S_w1.size
    have p0 := HP.out.1 0 _ rfl
    have p1 := HP.out.1 1 _ rfl
    have p2 := HP.out.1 2 _ rfl
    have p3 := HP.out.1 3 _ rfl
    have p4 := HP.out.1 4 _ rfl
    have p5 := HP.out.1 5 _ rfl
    have p6 := HP.out.1 6 _ rfl
    have pz := HP.out.2.2
    have x0 := HA.out.1 0 _ rfl
    have x1 := HA.out.1 1 _ rfl
    have x2 := HA.out.1 2 _ rfl
    have xz := HA.out.2.2
    go_wp2_with fail
    clear p0 p1 p2 p3 p4 p5 p6 pz
    clear x0 x1 x2 xz
    refine (hF.out _ BA.out).mono ?_
    rw [HFW.out]
    rintro e w2 ⟨rfl, hb2⟩
    have S_w2 : Below w1.heap.size w1 w2 := hb2
    have HP := Lib.hid (HP.out.step S_w2)
    have BA := Lib.hid (BA.out.trans (S_w2.mono BA.out.size))
    have HA := Lib.hid (HA.out.step S_w2)
    have z_w2 := S_w2.size
    have p0 := HP.out.1 0 _ rfl
    have p1 := HP.out.1 1 _ rfl
    have p2 := HP.out.1 2 _ rfl
    have p3 := HP.out.1 3 _ rfl
    have p4 := HP.out.1 4 _ rfl
    have p5 := HP.out.1 5 _ rfl
    have p6 := HP.out.1 6 _ rfl
    have pz := HP.out.2.2
    have x0 := HA.out.1 0 _ rfl
    have x1 := HA.out.1 1 _ rfl
    have x2 := HA.out.1 2 _ rfl
    have xz := HA.out.2.2
    go_wp2_with fail
    clear p0 p1 p2 p3 p4 p5 p6 pz
    clear x0 x1 x2 xz
    refine (hCk.out _ BA.out hll hu1).mono ?_
    rintro e w3 ⟨rfl, hbw3⟩
    have S_w3 : Below w2.heap.size w2 w3 := hbw3
    have HP := Lib.hid (HP.out.step S_w3)
    have BA := Lib.hid (BA.out.trans (S_w3.mono BA.out.size))
    have HA := Lib.hid (HA.out.step S_w3)
    have z_w3 := S_w3.size
    have p0 := HP.out.1 0 _ rfl
    have p1 := HP.out.1 1 _ rfl
    have p2 := HP.out.1 2 _ rfl
    have p3 := HP.out.1 3 _ rfl
    have p4 := HP.out.1 4 _ rfl
    have p5 := HP.out.1 5 _ rfl
    have p6 := HP.out.1 6 _ rfl
    have pz := HP.out.2.2
    have x0 := HA.out.1 0 _ rfl
    have x1 := HA.out.1 1 _ rfl
    have x2 := HA.out.1 2 _ rfl
    have xz := HA.out.2.2
    go_wp2_with fail
    clear p0 p1 p2 p3 p4 p5 p6 pz
    clear x0 x1 x2 xz
    refine (hAl.out _ BA.out hll hu0).mono ?_
    rintro e w4 ⟨rfl, hbw4⟩
    have S_w4 : Below w3.heap.size w3 w4 := hbw4
    have HP := Lib.hid (HP.out.step S_w4)
    have BA := Lib.hid (BA.out.trans (S_w4.mono BA.out.size))
    have HA := Lib.hid (HA.out.step S_w4)
    have z_w4 := S_w4.size
    have p0 := HP.out.1 0 _ rfl
    have p1 := HP.out.1 1 _ rfl
    have p2 := HP.out.1 2 _ rfl
    have p3 := HP.out.1 3 _ rfl
    have p4 := HP.out.1 4 _ rfl
    have p5 := HP.out.1 5 _ rfl
    have p6 := HP.out.1 6 _ rfl
    have pz := HP.out.2.2
    have x0 := HA.out.1 0 _ rfl
    have x1 := HA.out.1 1 _ rfl
    have x2 := HA.out.1 2 _ rfl
    have xz := HA.out.2.2
    go_wp2_with fail
    go_ret
    exact ⟨rfl, BA.out⟩
  subst h0
  obtain ⟨N, hN⟩ : ∃ a, a = totR p.reqs - usT vs := ⟨_, rfl⟩
  have hop : M ≤ N := by rw [hN]; exact optimal_law hE.symm hE2.symm
  rw [miss_of_allow hE2.symm, ← hN] at hMi
  clear hE hE2 hN
  go_enter Try.func6, Try.ntmps6
  go_wp2_with fail
  obtain ⟨W0, hW0⟩ : ∃ W, W = ((w.alloc (.cells #[.string p.nm, .int .i64 p.number, .int .i64 p.uses, .int .i64 p.earn, .int .i64 p.mean.num, .int .i64 p.mean.den, .slice A p.reqs.length c] 26)).alloc (.cells #[.slice D us.length d, .int .i64 M, .slice C cs.length cc] 39)) := ⟨_, rfl⟩
  have hp0 : Bx W0 w.heap.size (pgC p ⟨A, p.reqs.length, c⟩) := by rw [hW0]; exact (Bx.new w _ _).alloc _
  have ha0 : Bx W0 (w.heap.size + 1) (auC ⟨D, us.length, d⟩ M ⟨C, cs.length, cc⟩) := by rw [hW0]; exact Bx.at_ _ _ _ _ (by simp)
  have hb0 : Below w.heap.size w W0 := by rw [hW0]; exact ((Below.refl _ _).alloc (Nat.le_refl _) _).alloc (by simp) _
  rw [← hW0]
  have HP := Lib.hid hp0
  have BA := Lib.hid hb0
  have HA := Lib.hid ha0
  clear hW0 hp0 hb0 ha0
  refine (proSane_any _).mono ?_
  rintro e w1 ⟨rfl, hb1⟩
  have S_w1 : Below W0.heap.size W0 w1 := hb1
  have HP := Lib.hid (HP.out.step S_w1)
  have BA := Lib.hid (BA.out.trans (S_w1.mono BA.out.size))
  have HA := Lib.hid (HA.out.step S_w1)
  have z_w1 := S_w1.size
  have p0 := HP.out.1 0 _ rfl
  have p1 := HP.out.1 1 _ rfl
  have p2 := HP.out.1 2 _ rfl
  have p3 := HP.out.1 3 _ rfl
  have p4 := HP.out.1 4 _ rfl
  have p5 := HP.out.1 5 _ rfl
  have p6 := HP.out.1 6 _ rfl
  have pz := HP.out.2.2
  have x0 := HA.out.1 0 _ rfl
  have x1 := HA.out.1 1 _ rfl
  have x2 := HA.out.1 2 _ rfl
  have xz := HA.out.2.2
  go_wp2_with fail
  clear p0 p1 p2 p3 p4 p5 p6 pz
  clear x0 x1 x2 xz
  refine (hF.out _ BA.out).mono ?_
  rw [HFW.out]
  rintro e w2 ⟨rfl, hb2⟩
  have S_w2 : Below w1.heap.size w1 w2 := hb2
  have HP := Lib.hid (HP.out.step S_w2)
  have BA := Lib.hid (BA.out.trans (S_w2.mono BA.out.size))
  have HA := Lib.hid (HA.out.step S_w2)
  have z_w2 := S_w2.size
  have p0 := HP.out.1 0 _ rfl
  have p1 := HP.out.1 1 _ rfl
  have p2 := HP.out.1 2 _ rfl
  have p3 := HP.out.1 3 _ rfl
  have p4 := HP.out.1 4 _ rfl
  have p5 := HP.out.1 5 _ rfl
  have p6 := HP.out.1 6 _ rfl
  have pz := HP.out.2.2
  have x0 := HA.out.1 0 _ rfl
  have x1 := HA.out.1 1 _ rfl
  have x2 := HA.out.1 2 _ rfl
  have xz := HA.out.2.2
  go_wp2_with fail
  clear p0 p1 p2 p3 p4 p5 p6 pz
  clear x0 x1 x2 xz
  refine (hCk.out _ BA.out hll hu1).mono ?_
  rintro e w3 ⟨rfl, hbw3⟩
  have S_w3 : Below w2.heap.size w2 w3 := hbw3
  have HP := Lib.hid (HP.out.step S_w3)
  have BA := Lib.hid (BA.out.trans (S_w3.mono BA.out.size))
  have HA := Lib.hid (HA.out.step S_w3)
  have z_w3 := S_w3.size
  have p0 := HP.out.1 0 _ rfl
  have p1 := HP.out.1 1 _ rfl
  have p2 := HP.out.1 2 _ rfl
  have p3 := HP.out.1 3 _ rfl
  have p4 := HP.out.1 4 _ rfl
  have p5 := HP.out.1 5 _ rfl
  have p6 := HP.out.1 6 _ rfl
  have pz := HP.out.2.2
  have x0 := HA.out.1 0 _ rfl
  have x1 := HA.out.1 1 _ rfl
  have x2 := HA.out.1 2 _ rfl
  have xz := HA.out.2.2
  go_wp2_with fail
  clear p0 p1 p2 p3 p4 p5 p6 pz
  clear x0 x1 x2 xz
  refine (hAl.out _ BA.out hll hu0).mono ?_
  rintro e w4 ⟨rfl, hbw4⟩
  have S_w4 : Below w3.heap.size w3 w4 := hbw4
  have HP := Lib.hid (HP.out.step S_w4)
  have BA := Lib.hid (BA.out.trans (S_w4.mono BA.out.size))
  have HA := Lib.hid (HA.out.step S_w4)
  have z_w4 := S_w4.size
  have p0 := HP.out.1 0 _ rfl
  have p1 := HP.out.1 1 _ rfl
  have p2 := HP.out.1 2 _ rfl
  have p3 := HP.out.1 3 _ rfl
  have p4 := HP.out.1 4 _ rfl
  have p5 := HP.out.1 5 _ rfl
  have p6 := HP.out.1 6 _ rfl
  have pz := HP.out.2.2
  have x0 := HA.out.1 0 _ rfl
  have x1 := HA.out.1 1 _ rfl
  have x2 := HA.out.1 2 _ rfl
  have xz := HA.out.2.2
  go_wp2_with fail
  clear p0 p1 p2 p3 p4 p5 p6 pz
  clear x0 x1 x2 xz
  refine (hMi.out _ BA.out hu0).mono ?_
  rintro e w5 ⟨rfl, hbw5⟩
  have S_w5 : Below w4.heap.size w4 w5 := hbw5
  have HP := Lib.hid (HP.out.step S_w5)
  have BA := Lib.hid (BA.out.trans (S_w5.mono BA.out.size))
  have HA := Lib.hid (HA.out.step S_w5)
  have z_w5 := S_w5.size
  have p0 := HP.out.1 0 _ rfl
  have p1 := HP.out.1 1 _ rfl
  have p2 := HP.out.1 2 _ rfl
  have p3 := HP.out.1 3 _ rfl
  have p4 := HP.out.1 4 _ rfl
  have p5 := HP.out.1 5 _ rfl
  have p6 := HP.out.1 6 _ rfl
  have pz := HP.out.2.2
  have x0 := HA.out.1 0 _ rfl
  have x1 := HA.out.1 1 _ rfl
  have x2 := HA.out.1 2 _ rfl
  have xz := HA.out.2.2
  go_wp2_with fail
  go_ret
  exact ⟨rfl, BA.out⟩

theorem slr_of {α : Type} {w : World} {sz : Nat} {en : α → List Value} {A : Option Addr} {c : Nat} {xs : List α} (hx : Reads w w.heap.size A sz en xs) (hlc : xs.length ≤ c) (hm : c ≤ maxLen) (hn : A = none → c = 0) : SlR w everyT sz en ⟨A, xs.length, c⟩ xs := ⟨rfl, hlc, hm, hn, hx, fun _ _ _ => trivial⟩
theorem ProofSpec_any {w : World} (x : Pg × Sl) (hx : Rqs w everyT x.2 x.1.reqs ∧ x.1.mean.i64) (l : List At) (B : Option Addr) (b : Nat) (h1 : Reads w w.heap.size B 5 At.enc l) (q1 : ∀ y ∈ l, y.ok) (c1 : l.length ≤ b) (m1 : b ≤ maxLen) (n1 : B = none → b = 0)
    (us : List Us) (D : Option Addr) (d : Nat) (h2 : Reads w w.heap.size D 3 Us.enc us) (q2 : ∀ y ∈ us, y.ok) (c2 : us.length ≤ d) (m2 : d ≤ maxLen) (n2 : D = none → d = 0) (cs : List Bool) (C : Option Addr) (cc : Nat) (h3 : Reads w w.heap.size C 1 Bo.enc cs) (q3 : ∀ y ∈ cs, Bo.ok y) (c3 : cs.length ≤ cc) (m3 : cc ≤ maxLen) (n3 : C = none → cc = 0) :
    Calls Try.prog 3 #[pgV x.1 x.2, .slice B l.length b, .slice D us.length d, .slice C cs.length cc] w fun e w' => e = .returned (.bool true) ∧ Below w.heap.size w w' :=
  ProofSpec_walk x.1 x.2 l B b us D d cs C cc w hx.1 hx.2 (slr_of h1 c1 m1 n1) (slr_of h2 c2 m2 n2) (slr_of h3 c3 m3 n3)
theorem ProofDual_any {w : World} (x : Pg × Sl) (hx : Rqs w everyT x.2 x.1.reqs ∧ x.1.mean.i64) (l : List At) (B : Option Addr) (b : Nat) (h1 : Reads w w.heap.size B 5 At.enc l) (q1 : ∀ y ∈ l, y.ok) (c1 : l.length ≤ b) (m1 : b ≤ maxLen) (n1 : B = none → b = 0)
    (us : List Us) (D : Option Addr) (d : Nat) (h2 : Reads w w.heap.size D 3 Us.enc us) (q2 : ∀ y ∈ us, y.ok) (c2 : us.length ≤ d) (m2 : d ≤ maxLen) (n2 : D = none → d = 0) (cs : List Bool) (C : Option Addr) (cc : Nat) (h3 : Reads w w.heap.size C 1 Bo.enc cs) (q3 : ∀ y ∈ cs, Bo.ok y) (c3 : cs.length ≤ cc) (m3 : cc ≤ maxLen) (n3 : C = none → cc = 0) :
    Calls Try.prog 5 #[pgV x.1 x.2, .slice B l.length b, .slice D us.length d, .slice C cs.length cc] w fun e w' => e = .returned (.bool true) ∧ Below w.heap.size w w' :=
  ProofDual_walk x.1 x.2 l B b us D d cs C cc w hx.1 hx.2 (slr_of h1 c1 m1 n1) (slr_of h2 c2 m2 n2) (slr_of h3 c3 m3 n3)
theorem au_slice {w : World} {sz : Nat} {α : Type} {en : α → List Value} {s : Sl} {xs : List α} (h : SlR w everyT sz en s xs) : SlR w everyT sz en ⟨s.a, xs.length, s.c⟩ xs := by
  obtain ⟨a, n, c⟩ := s
  have := h.1
  simp only at this
  subst this
  exact h
theorem ProofCheckSpec_any {w : World} (x : Pg × Sl) (hx : Rqs w everyT x.2 x.1.reqs ∧ x.1.mean.i64) (l : List At) (B : Option Addr) (b : Nat) (h1 : Reads w w.heap.size B 5 At.enc l) (q1 : ∀ y ∈ l, y.ok) (c1 : l.length ≤ b) (m1 : b ≤ maxLen) (n1 : B = none → b = 0)
    (y : Sl × Int × Sl × List Us × List Bool) (hy : SlR w everyT 3 Us.enc y.1 y.2.2.2.1 ∧ SlR w everyT 1 boolE y.2.2.1 y.2.2.2.2 ∧ (Lit.int .i64 y.2.1).wf = true) :
    Calls Try.prog 4 #[pgV x.1 x.2, .slice B l.length b, auV y.1 y.2.1 y.2.2.1] w fun e w' => e = .returned (.bool true) ∧ Below w.heap.size w w' := by
  obtain ⟨⟨ua, un, uc⟩, M, ⟨ca, cn, cc⟩, us, cs⟩ := y
  obtain ⟨k1, k2, _⟩ := hy
  have e1 := k1.1
  have e2 := k2.1
  simp only at e1 e2
  subst e1 e2
  exact ProofCheckSpec_walk x.1 x.2 l B b us ua uc cs ca cc M w hx.1 hx.2 (slr_of h1 c1 m1 n1) k1 k2
theorem ProofOptimal_any {w : World} (x : Pg × Sl) (hx : Rqs w everyT x.2 x.1.reqs ∧ x.1.mean.i64) (l : List At) (B : Option Addr) (b : Nat) (h1 : Reads w w.heap.size B 5 At.enc l) (q1 : ∀ y ∈ l, y.ok) (c1 : l.length ≤ b) (m1 : b ≤ maxLen) (n1 : B = none → b = 0)
    (y : Sl × Int × Sl × List Us × List Bool) (hy : SlR w everyT 3 Us.enc y.1 y.2.2.2.1 ∧ SlR w everyT 1 boolE y.2.2.1 y.2.2.2.2 ∧ (Lit.int .i64 y.2.1).wf = true)
    (vs : List Us) (G : Option Addr) (gc : Nat) (h2 : Reads w w.heap.size G 3 Us.enc vs) (q2 : ∀ y ∈ vs, y.ok) (c2 : vs.length ≤ gc) (m2 : gc ≤ maxLen) (n2 : G = none → gc = 0) :
    Calls Try.prog 6 #[pgV x.1 x.2, .slice B l.length b, auV y.1 y.2.1 y.2.2.1, .slice G vs.length gc] w fun e w' => e = .returned (.bool true) ∧ Below w.heap.size w w' := by
  obtain ⟨⟨ua, un, uc⟩, M, ⟨ca, cn, cc⟩, us, cs⟩ := y
  obtain ⟨k1, k2, _⟩ := hy
  have e1 := k1.1
  have e2 := k2.1
  simp only at e1 e2
  subst e1 e2
  exact ProofOptimal_walk x.1 x.2 l B b us ua uc cs ca cc M vs G gc w hx.1 hx.2 (slr_of h1 c1 m1 n1) k1 k2 (slr_of h2 c2 m2 n2)
end Go.Proofs.Ytgimpbcdgfkdmaa
