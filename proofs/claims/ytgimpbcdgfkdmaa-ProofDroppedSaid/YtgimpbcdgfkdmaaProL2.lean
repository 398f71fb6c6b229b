/- Four laws of chapter 20 that ask for audits, walked. -/
import Derived.Test.YtgimpbcdgfkdmaaProL1
import Derived.Test.YtgimpbcdgfkdmaaAudE
import Derived.Test.YtgimpbcdgfkdmaaAudX
import Derived.BigQuiet
import Derived.Deep.Cut
import Derived.Deep.RegionHeld3
namespace Go.Proofs.Ytgimpbcdgfkdmaa
open Go.RowKit Go.Shelf
set_option linter.unusedSimpArgs false
set_option linter.unusedVariables false

theorem grownBy_set (w : World) (a : Addr) (v : Value) : w.grownBy (w.setCell a v) (some a.block) :=
  ⟨rfl, rfl, rfl, by simp [World.setCell], fun k hk hne => Below.heap_setCell _ _ _ _ (fun e => hne (by rw [e]))⟩
theorem everyT.of {α : Type} {w : World} {P : Nat → Prop} {sz : Nat} {en : α → List Value} {s : Sl} {xs : List α} (h : SlR w P sz en s xs) : SlR w everyT sz en s xs := h.mono (fun _ _ => trivial)
set_option maxRecDepth 100000 in
set_option maxHeartbeats 8000000 in
theorem ProofAccepts_walk (p : Pg) (s : Sl) (l : List At) (B : Option Addr) (b : Nat) (other : Int) (w : World) (hr : Rqs w everyT s p.reqs) (hi : p.mean.i64) (hl : SlR w everyT 5 At.enc ⟨B, l.length, b⟩ l) :
    Calls Try.prog 7 #[pgV p s, .slice B l.length b, .int .i64 other] w fun e w' => e = .returned (.bool true) ∧ Below w.heap.size w w' := by
  have hF := Lib.hid (fun W (h : Below w.heap.size w W) => RProFew_any (P := everyT) p s l B b W (hr.step h))
  have hAF := Lib.hid (fun (h0 : askedE p l ≠ 0) (hll : l.length ≤ 12) W (h : Below w.heap.size w W) => Audit_fails (P := everyT) p s l B b W (hr.step h) hi (hl.step h).reads (by omega) h0)
  have hAO := Lib.hid (fun (h0 : askedE p l = 0) (hll : l.length ≤ 12) W (h : Below w.heap.size w W) => Audit_any (P := everyT) p s l B b W (hr.step h) hi (hl.step h) (by omega) h0)
  have hCk := Lib.hid (fun (hll : l.length ≤ 12) (us : List Us) (D : Option Addr) (d : Nat) (M : Int) (cs : List Bool) (C : Option Addr) (cc : Nat) W (h : Below w.heap.size w W) (hu : SlR W everyT 3 Us.enc ⟨D, us.length, d⟩ us) (hc : SlR W everyT 1 boolE ⟨C, cs.length, cc⟩ cs) (hlu : us.length ≤ 64000) => ProCheck_any (P := everyT) p s l B b us D d M cs C cc W (hr.step h) hi (hl.step h) hu.reads hc (by omega) (by omega))
  have hn := hr.len
  obtain ⟨A, n, c⟩ := s
  simp only at hn
  subst hn
  unfold pgV auV at *
  simp only at hF hAF hAO hCk ⊢
  cases hf : fewP p l
  · have HFW := Lib.hid hf
    clear hf
    go_enter Try.func7, Try.ntmps7
    go_wp2_with fail
    obtain ⟨W0, hW0⟩ : ∃ W, W = (w.alloc (.cells #[.string p.nm, .int .i64 p.number, .int .i64 p.uses, .int .i64 p.earn, .int .i64 p.mean.num, .int .i64 p.mean.den, .slice A p.reqs.length c] 26)) := ⟨_, rfl⟩
    have hp0 : Bx W0 w.heap.size (pgC p ⟨A, p.reqs.length, c⟩) := by rw [hW0]; exact Bx.new w _ _
    have hb0 : Below w.heap.size w W0 := by rw [hW0]; exact (Below.refl _ _).alloc (Nat.le_refl _) _
    rw [← hW0]
    have HP := Lib.hid hp0
    have BA := Lib.hid hb0
    clear hW0 hp0 hb0
    refine (proSane_any _).mono ?_
    rintro e w1 ⟨rfl, hb1⟩
    have S_w1 : Below W0.heap.size W0 w1 := hb1
    have HP := Lib.hid (HP.out.step S_w1)
    have BA := Lib.hid (BA.out.trans (S_w1.mono BA.out.size))
    have z_w1 := S_w1.size
    have p0 := HP.out.1 0 _ rfl
    have p1 := HP.out.1 1 _ rfl
    have p2 := HP.out.1 2 _ rfl
    have p3 := HP.out.1 3 _ rfl
    have p4 := HP.out.1 4 _ rfl
    have p5 := HP.out.1 5 _ rfl
    have p6 := HP.out.1 6 _ rfl
    have pz := HP.out.2.2
    go_wp2_with fail
    clear p0 p1 p2 p3 p4 p5 p6 pz
    refine (hF.out _ BA.out).mono ?_
    rw [HFW.out]
    rintro e w2 ⟨rfl, hb2⟩
    have S_w2 : Below w1.heap.size w1 w2 := hb2
    have HP := Lib.hid (HP.out.step S_w2)
    have BA := Lib.hid (BA.out.trans (S_w2.mono BA.out.size))
    have z_w2 := S_w2.size
    have p0 := HP.out.1 0 _ rfl
    have p1 := HP.out.1 1 _ rfl
    have p2 := HP.out.1 2 _ rfl
    have p3 := HP.out.1 3 _ rfl
    have p4 := HP.out.1 4 _ rfl
    have p5 := HP.out.1 5 _ rfl
    have p6 := HP.out.1 6 _ rfl
    have pz := HP.out.2.2
    go_wp2_with fail
    go_ret
    exact ⟨rfl, BA.out⟩
  have HFW := Lib.hid hf
  have hll := few_len hf
  clear hf
  by_cases h0 : askedE p l = 0
  rotate_left
  · have HAZ := Lib.hid (audit_asked h0)
    have hAX := Lib.hid (fun W h => hAF.out h0 hll W h)
    obtain ⟨E, hE⟩ : ∃ E, E = askedE p l := ⟨_, rfl⟩
    rw [← hE] at h0 HAZ hAX
    have e1 : (E == 0) = false := by simpa using h0
    have e2 : (E != 0) = true := by simpa using h0
    clear hE hAF hAO
    go_enter Try.func7, Try.ntmps7
    go_wp2_with fail
    obtain ⟨W0, hW0⟩ : ∃ W, W = (w.alloc (.cells #[.string p.nm, .int .i64 p.number, .int .i64 p.uses, .int .i64 p.earn, .int .i64 p.mean.num, .int .i64 p.mean.den, .slice A p.reqs.length c] 26)) := ⟨_, rfl⟩
    have hp0 : Bx W0 w.heap.size (pgC p ⟨A, p.reqs.length, c⟩) := by rw [hW0]; exact Bx.new w _ _
    have hb0 : Below w.heap.size w W0 := by rw [hW0]; exact (Below.refl _ _).alloc (Nat.le_refl _) _
    rw [← hW0]
    have HP := Lib.hid hp0
    have BA := Lib.hid hb0
    clear hW0 hp0 hb0
    refine (proSane_any _).mono ?_
    rintro e w1 ⟨rfl, hb1⟩
    have S_w1 : Below W0.heap.size W0 w1 := hb1
    have HP := Lib.hid (HP.out.step S_w1)
    have BA := Lib.hid (BA.out.trans (S_w1.mono BA.out.size))
    have z_w1 := S_w1.size
    have p0 := HP.out.1 0 _ rfl
    have p1 := HP.out.1 1 _ rfl
    have p2 := HP.out.1 2 _ rfl
    have p3 := HP.out.1 3 _ rfl
    have p4 := HP.out.1 4 _ rfl
    have p5 := HP.out.1 5 _ rfl
    have p6 := HP.out.1 6 _ rfl
    have pz := HP.out.2.2
    go_wp2_with fail
    clear p0 p1 p2 p3 p4 p5 p6 pz
    refine (hF.out _ BA.out).mono ?_
    rw [HFW.out]
    rintro e w2 ⟨rfl, hb2⟩
    have S_w2 : Below w1.heap.size w1 w2 := hb2
    have HP := Lib.hid (HP.out.step S_w2)
    have BA := Lib.hid (BA.out.trans (S_w2.mono BA.out.size))
    have z_w2 := S_w2.size
    have p0 := HP.out.1 0 _ rfl
    have p1 := HP.out.1 1 _ rfl
    have p2 := HP.out.1 2 _ rfl
    have p3 := HP.out.1 3 _ rfl
    have p4 := HP.out.1 4 _ rfl
    have p5 := HP.out.1 5 _ rfl
    have p6 := HP.out.1 6 _ rfl
    have pz := HP.out.2.2
    go_wp2_with fail
    clear p0 p1 p2 p3 p4 p5 p6 pz
    refine (hAX.out _ BA.out).mono ?_
    rintro e w3 ⟨rfl, hbw3⟩
    have S_w3 : Below w2.heap.size w2 w3 := hbw3
    have HP := Lib.hid (HP.out.step S_w3)
    have BA := Lib.hid (BA.out.trans (S_w3.mono BA.out.size))
    have z_w3 := S_w3.size
    have hZ := Lib.hid (hCk.out hll [] none 0 0 [] none 0)
    have p0 := HP.out.1 0 _ rfl
    have p1 := HP.out.1 1 _ rfl
    have p2 := HP.out.1 2 _ rfl
    have p3 := HP.out.1 3 _ rfl
    have p4 := HP.out.1 4 _ rfl
    have p5 := HP.out.1 5 _ rfl
    have p6 := HP.out.1 6 _ rfl
    have pz := HP.out.2.2
    go_upto_region 7 with fail
    clear p0 p1 p2 p3 p4 p5 p6 pz
    have ow4_HP := HP.out.2.2
    obtain ⟨w4, hw4⟩ : ∃ X, X = w3.alloc (.cells #[.slice none 0 0, .int .i64 0, .slice none 0 0] 39) := ⟨_, rfl⟩
    have hbw4 : Below w3.heap.size w3 w4 := by rw [hw4]; exact (Below.refl _ _).alloc (Nat.le_refl _) _
    have HX := Lib.hid (show Bx w4 w3.heap.size [.slice none 0 0, .int .i64 0, .slice none 0 0] by rw [hw4]; exact Bx.new ..)
    have zw4 : w3.heap.size < w4.heap.size := HX.out.2.2
    rw [← hw4]
    have S_w4 : Below w3.heap.size w3 w4 := hbw4
    have HP := Lib.hid (HP.out.step S_w4)
    have BA := Lib.hid (BA.out.trans (S_w4.mono BA.out.size))
    have z_w4 := S_w4.size
    obtain ⟨Bw4, hBw4⟩ : ∃ x, x = w3.heap.size := ⟨_, rfl⟩
    rw [← hBw4] at HX zw4  ow4_HP ⊢
    clear hw4 hBw4
    have hZ4 := Lib.hid (hZ.out _ BA.out (SlR.nil_ _ _ _ _) (SlR.nil_ _ _ _ _) (by simp))
    rw [HAZ.out] at hZ4
    have p0 := HP.out.1 0 _ rfl
    have p1 := HP.out.1 1 _ rfl
    have p2 := HP.out.1 2 _ rfl
    have p3 := HP.out.1 3 _ rfl
    have p4 := HP.out.1 4 _ rfl
    have p5 := HP.out.1 5 _ rfl
    have p6 := HP.out.1 6 _ rfl
    have pz := HP.out.2.2
    have x0 := HX.out.1 0 _ rfl
    have x1 := HX.out.1 1 _ rfl
    have x2 := HX.out.1 2 _ rfl
    have xz := HX.out.2.2
    go_wp2_with fail
    clear p0 p1 p2 p3 p4 p5 p6 pz
    clear x0 x1 x2 xz
    refine hZ4.out.mono ?_
    rintro e w5 ⟨rfl, hbw5⟩
    have S_w5 : Below w4.heap.size w4 w5 := hbw5
    have HP := Lib.hid (HP.out.step S_w5)
    have BA := Lib.hid (BA.out.trans (S_w5.mono BA.out.size))
    have HX := Lib.hid (HX.out.step S_w5)
    have z_w5 := S_w5.size
    have p0 := HP.out.1 0 _ rfl
    have p1 := HP.out.1 1 _ rfl
    have p2 := HP.out.1 2 _ rfl
    have p3 := HP.out.1 3 _ rfl
    have p4 := HP.out.1 4 _ rfl
    have p5 := HP.out.1 5 _ rfl
    have p6 := HP.out.1 6 _ rfl
    have pz := HP.out.2.2
    have x0 := HX.out.1 0 _ rfl
    have x1 := HX.out.1 1 _ rfl
    have x2 := HX.out.1 2 _ rfl
    have xz := HX.out.2.2
    go_wp2_with fail
    go_ret
    exact ⟨rfl, BA.out⟩
  go_enter Try.func7, Try.ntmps7
  go_wp2_with fail
  obtain ⟨W0, hW0⟩ : ∃ W, W = (w.alloc (.cells #[.string p.nm, .int .i64 p.number, .int .i64 p.uses, .int .i64 p.earn, .int .i64 p.mean.num, .int .i64 p.mean.den, .slice A p.reqs.length c] 26)) := ⟨_, rfl⟩
  have hp0 : Bx W0 w.heap.size (pgC p ⟨A, p.reqs.length, c⟩) := by rw [hW0]; exact Bx.new w _ _
  have hb0 : Below w.heap.size w W0 := by rw [hW0]; exact (Below.refl _ _).alloc (Nat.le_refl _) _
  rw [← hW0]
  have HP := Lib.hid hp0
  have BA := Lib.hid hb0
  clear hW0 hp0 hb0
  refine (proSane_any _).mono ?_
  rintro e w1 ⟨rfl, hb1⟩
  have S_w1 : Below W0.heap.size W0 w1 := hb1
  have HP := Lib.hid (HP.out.step S_w1)
  have BA := Lib.hid (BA.out.trans (S_w1.mono BA.out.size))
  have z_w1 := S_w1.size
  have p0 := HP.out.1 0 _ rfl
  have p1 := HP.out.1 1 _ rfl
  have p2 := HP.out.1 2 _ rfl
  have p3 := HP.out.1 3 _ rfl
  have p4 := HP.out.1 4 _ rfl
  have p5 := HP.out.1 5 _ rfl
  have p6 := HP.out.1 6 _ rfl
  have pz := HP.out.2.2
  go_wp2_with fail
  clear p0 p1 p2 p3 p4 p5 p6 pz
  refine (hF.out _ BA.out).mono ?_
  rw [HFW.out]
  rintro e w2 ⟨rfl, hb2⟩
  have S_w2 : Below w1.heap.size w1 w2 := hb2
  have HP := Lib.hid (HP.out.step S_w2)
  have BA := Lib.hid (BA.out.trans (S_w2.mono BA.out.size))
  have z_w2 := S_w2.size
  have p0 := HP.out.1 0 _ rfl
  have p1 := HP.out.1 1 _ rfl
  have p2 := HP.out.1 2 _ rfl
  have p3 := HP.out.1 3 _ rfl
  have p4 := HP.out.1 4 _ rfl
  have p5 := HP.out.1 5 _ rfl
  have p6 := HP.out.1 6 _ rfl
  have pz := HP.out.2.2
  go_wp2_with fail
  clear p0 p1 p2 p3 p4 p5 p6 pz
  refine (hAO.out h0 hll _ BA.out).mono ?_
  rintro e w3 ⟨⟨us, M, cs, D, C, d, cc, rfl, hUOw3, hAUw3, hMw3, hulw3, husw3, hcsw3⟩, hbw3⟩
  have S_w3 : Below w2.heap.size w2 w3 := hbw3
  have HP := Lib.hid (HP.out.step S_w3)
  have BA := Lib.hid (BA.out.trans (S_w3.mono BA.out.size))
  have z_w3 := S_w3.size
  have HUw3 := Lib.hid (husw3.small (Q := fun x => x < w3.heap.size) (fun _ h => h))
  have HCw3 := Lib.hid (hcsw3.small (Q := fun x => x < w3.heap.size) (fun _ h => h))
  have HUOw3 := Lib.hid hUOw3
  have HAUw3 := Lib.hid hAUw3
  have HMw3 := Lib.hid hMw3
  clear husw3 hcsw3 hUOw3 hAUw3 hMw3
  have p0 := HP.out.1 0 _ rfl
  have p1 := HP.out.1 1 _ rfl
  have p2 := HP.out.1 2 _ rfl
  have p3 := HP.out.1 3 _ rfl
  have p4 := HP.out.1 4 _ rfl
  have p5 := HP.out.1 5 _ rfl
  have p6 := HP.out.1 6 _ rfl
  have pz := HP.out.2.2
  go_upto_region 8 with fail
  clear p0 p1 p2 p3 p4 p5 p6 pz
  have ow4_HP := HP.out.2.2
  obtain ⟨w4, hw4⟩ : ∃ X, X = w3.alloc (.cells #[.slice D us.length d, .int .i64 M, .slice C cs.length cc] 39) := ⟨_, rfl⟩
  have hbw4 : Below w3.heap.size w3 w4 := by rw [hw4]; exact (Below.refl _ _).alloc (Nat.le_refl _) _
  have HX := Lib.hid (show Bx w4 w3.heap.size [.slice D us.length d, .int .i64 M, .slice C cs.length cc] by rw [hw4]; exact Bx.new ..)
  have zw4 : w3.heap.size < w4.heap.size := HX.out.2.2
  rw [← hw4]
  have S_w4 : Below w3.heap.size w3 w4 := hbw4
  have HP := Lib.hid (HP.out.step S_w4)
  have BA := Lib.hid (BA.out.trans (S_w4.mono BA.out.size))
  have HUw3 := Lib.hid (HUw3.out.step S_w4)
  have HCw3 := Lib.hid (HCw3.out.step S_w4)
  have z_w4 := S_w4.size
  obtain ⟨Bw4, hBw4⟩ : ∃ x, x = w3.heap.size := ⟨_, rfl⟩
  rw [← hBw4] at HX zw4 HUw3 HCw3 ow4_HP ⊢
  clear hw4 hBw4
  have p0 := HP.out.1 0 _ rfl
  have p1 := HP.out.1 1 _ rfl
  have p2 := HP.out.1 2 _ rfl
  have p3 := HP.out.1 3 _ rfl
  have p4 := HP.out.1 4 _ rfl
  have p5 := HP.out.1 5 _ rfl
  have p6 := HP.out.1 6 _ rfl
  have pz := HP.out.2.2
  have x0 := HX.out.1 0 _ rfl
  have x1 := HX.out.1 1 _ rfl
  have x2 := HX.out.1 2 _ rfl
  have xz := HX.out.2.2
  go_upto_region 9 with fail
  clear p0 p1 p2 p3 p4 p5 p6 pz
  clear x0 x1 x2 xz
  have ow5_HP := HP.out.2.2
  have ow5_HX := HX.out.2.2
  obtain ⟨w5, hw5⟩ : ∃ X, X = w4.alloc (.cells #[.slice D us.length d, .int .i64 M, .slice C cs.length cc] 39) := ⟨_, rfl⟩
  have hbw5 : Below w4.heap.size w4 w5 := by rw [hw5]; exact (Below.refl _ _).alloc (Nat.le_refl _) _
  have HY := Lib.hid (show Bx w5 w4.heap.size [.slice D us.length d, .int .i64 M, .slice C cs.length cc] by rw [hw5]; exact Bx.new ..)
  have zw5 : w4.heap.size < w5.heap.size := HY.out.2.2
  rw [← hw5]
  have S_w5 : Below w4.heap.size w4 w5 := hbw5
  have HP := Lib.hid (HP.out.step S_w5)
  have BA := Lib.hid (BA.out.trans (S_w5.mono BA.out.size))
  have HUw3 := Lib.hid (HUw3.out.step S_w5)
  have HCw3 := Lib.hid (HCw3.out.step S_w5)
  have HX := Lib.hid (HX.out.step S_w5)
  have z_w5 := S_w5.size
  obtain ⟨Bw5, hBw5⟩ : ∃ x, x = w4.heap.size := ⟨_, rfl⟩
  rw [← hBw5] at HY zw5  ow5_HP ow5_HX ⊢
  clear hw5 hBw5
  have HYF := HY.out.2.1 1
  have p0 := HP.out.1 0 _ rfl
  have p1 := HP.out.1 1 _ rfl
  have p2 := HP.out.1 2 _ rfl
  have p3 := HP.out.1 3 _ rfl
  have p4 := HP.out.1 4 _ rfl
  have p5 := HP.out.1 5 _ rfl
  have p6 := HP.out.1 6 _ rfl
  have pz := HP.out.2.2
  have x0 := HX.out.1 0 _ rfl
  have x1 := HX.out.1 1 _ rfl
  have x2 := HX.out.1 2 _ rfl
  have xz := HX.out.2.2
  have y0 := HY.out.1 0 _ rfl
  have y1 := HY.out.1 1 _ rfl
  have y2 := HY.out.1 2 _ rfl
  have yz := HY.out.2.2
  go_upto_region 10 with fail
  clear p0 p1 p2 p3 p4 p5 p6 pz
  clear x0 x1 x2 xz
  clear y0 y1 y2 yz
  clear HYF
  obtain ⟨w6, hw6⟩ : ∃ X, X = w5.setCell ⟨Bw5, 1, none⟩ (.int .i64 other) := ⟨_, rfl⟩
  have HP := Lib.hid (show Bx w6 _ _ by rw [hw6]; exact HP.out.farC (by show w.heap.size ≠ Bw5; omega) _)
  have HX := Lib.hid (show Bx w6 _ _ by rw [hw6]; exact HX.out.farC (by show Bw4 ≠ Bw5; omega) _)
  have HY := Lib.hid (show Bx w6 Bw5 [.slice D us.length d, .int .i64 other, .slice C cs.length cc] by rw [hw6]; exact HY.out.setAt (i := 1) (by simp) _)
  have BA := Lib.hid (show Below w.heap.size w w6 by rw [hw6]; exact BA.out.setCell (by show w.heap.size ≤ Bw5; omega) _)
  have HUw3 := Lib.hid (show SlR w6 (fun x => x < Bw4) _ _ _ _ by rw [hw6]; exact HUw3.out.keep (Kp.of_grown (grownBy_set w5 ⟨Bw5, 1, none⟩ _) (by show ¬ (Bw5 < Bw4); omega)))
  have HCw3 := Lib.hid (show SlR w6 (fun x => x < Bw4) _ _ _ _ by rw [hw6]; exact HCw3.out.keep (Kp.of_grown (grownBy_set w5 ⟨Bw5, 1, none⟩ _) (by show ¬ (Bw5 < Bw4); omega)))
  rw [← hw6]
  clear hw6
  obtain ⟨X, hX⟩ : ∃ X, X = auditE p l us other cs := ⟨_, rfl⟩
  have S1 : Hid (∀ W, Below w6.heap.size w6 W → Calls Try.prog 19 #[.agg #[.string p.nm, .int .i64 p.number, .int .i64 p.uses, .int .i64 p.earn, .int .i64 p.mean.num, .int .i64 p.mean.den, .slice A p.reqs.length c], .slice B l.length b, .agg #[.slice D us.length d, .int .i64 M, .slice C cs.length cc]] W fun e w' => e = .returned (.int .i64 0) ∧ Below w6.heap.size w6 w') := Lib.hid (fun W h => (hCk.out hll us D d M cs C cc W (BA.out.trans (h.mono BA.out.size)) (everyT.of (HUw3.out.step h)) (everyT.of (HCw3.out.step h)) hulw3).mono (fun e w' k => ⟨by rw [k.1, HAUw3.out], h.trans (k.2.mono h.size)⟩))
  have S2 : Hid (∀ W, Below w6.heap.size w6 W → Calls Try.prog 19 #[.agg #[.string p.nm, .int .i64 p.number, .int .i64 p.uses, .int .i64 p.earn, .int .i64 p.mean.num, .int .i64 p.mean.den, .slice A p.reqs.length c], .slice B l.length b, .agg #[.slice D us.length d, .int .i64 other, .slice C cs.length cc]] W fun e w' => e = .returned (.int .i64 X) ∧ Below w6.heap.size w6 w') := Lib.hid (fun W h => (hCk.out hll us D d other cs C cc W (BA.out.trans (h.mono BA.out.size)) (everyT.of (HUw3.out.step h)) (everyT.of (HCw3.out.step h)) hulw3).mono (fun e w' k => ⟨by rw [k.1, ← hX], h.trans (k.2.mono h.size)⟩))
  have HXE : Hid ((X == 0) = (other == M)) := Lib.hid (by
    by_cases e : other = M
    · subst e; rw [hX, HAUw3.out]; simp
    · rw [hX, audit_other HAUw3.out e]; simp [e])
  clear hX
  cases hq : (other == M)
  all_goals
    have HQ := HXE.out
    rw [hq] at HQ
    have p0 := HP.out.1 0 _ rfl
    have p1 := HP.out.1 1 _ rfl
    have p2 := HP.out.1 2 _ rfl
    have p3 := HP.out.1 3 _ rfl
    have p4 := HP.out.1 4 _ rfl
    have p5 := HP.out.1 5 _ rfl
    have p6 := HP.out.1 6 _ rfl
    have pz := HP.out.2.2
    have x0 := HX.out.1 0 _ rfl
    have x1 := HX.out.1 1 _ rfl
    have x2 := HX.out.1 2 _ rfl
    have xz := HX.out.2.2
    have y0 := HY.out.1 0 _ rfl
    have y1 := HY.out.1 1 _ rfl
    have y2 := HY.out.1 2 _ rfl
    have yz := HY.out.2.2
    refine wp_region_below (by kernel_rfl) (by kernel_rfl) ?_
    repeat (first
      | go_big_quiet_skip
      | (go_big_quiet_want
         first
           | (apply quiet_val
              focus (
                intro WC hWC
                obtain ⟨hcc0, hff0⟩ := bcell hWC
                go_simp
                all_goals rfl
                done)
              go_simp
              go_big_quiet_on)
           | (apply quiet_call
              focus (
                intro WC hWC
                go_simp
                all_goals (first | rfl | exact ⟨rfl, rfl⟩)
                done)
              focus (
                intro WC hWC
                with_reducible exact S1.out WC hWC
                done)
              go_simp
              go_big_quiet_on)
           | (apply quiet_call
              focus (
                intro WC hWC
                go_simp
                all_goals (first | rfl | exact ⟨rfl, rfl⟩)
                done)
              focus (
                intro WC hWC
                with_reducible exact S2.out WC hWC
                done)
              go_simp
              go_big_quiet_on)))
    refine wpQuiet_nil ?_
    intro W9 hW9
    go_wp2_with fail
    go_ret
    exact ⟨rfl, BA.out.trans (hW9.mono BA.out.size)⟩
theorem ProofAccepts_any {w : World} (x : Pg × Sl) (hx : Rqs w everyT x.2 x.1.reqs ∧ x.1.mean.i64) (l : List At) (B : Option Addr) (b : Nat) (h1 : Reads w w.heap.size B 5 At.enc l) (q1 : ∀ y ∈ l, y.ok) (c1 : l.length ≤ b) (m1 : b ≤ maxLen) (n1 : B = none → b = 0) (n : Int) (hn : (Lit.int .i64 n).wf = true) :
    Calls Try.prog 7 #[pgV x.1 x.2, .slice B l.length b, .int .i64 n] w fun e w' => e = .returned (.bool true) ∧ Below w.heap.size w w' :=
  ProofAccepts_walk x.1 x.2 l B b n w hx.1 hx.2 (slr_of h1 c1 m1 n1)

set_option maxRecDepth 100000 in
set_option maxHeartbeats 8000000 in
theorem ProofUnique_walk (p : Pg) (s : Sl) (l : List At) (B : Option Addr) (b : Nat) (us : List Us) (D : Option Addr) (d : Nat) (cs : List Bool) (C : Option Addr) (cc : Nat) (M : Int) (w : World) (hr : Rqs w everyT s p.reqs) (hi : p.mean.i64) (hl : SlR w everyT 5 At.enc ⟨B, l.length, b⟩ l) (hu : SlR w everyT 3 Us.enc ⟨D, us.length, d⟩ us) (hc : SlR w everyT 1 boolE ⟨C, cs.length, cc⟩ cs) :
    Calls Try.prog 8 #[pgV p s, .slice B l.length b, auV ⟨D, us.length, d⟩ M ⟨C, cs.length, cc⟩] w fun e w' => e = .returned (.bool true) ∧ Below w.heap.size w w' := by
  have hF := Lib.hid (fun W (h : Below w.heap.size w W) => RProFew_any (P := everyT) p s l B b W (hr.step h))
  have hAF := Lib.hid (fun (h0 : askedE p l ≠ 0) (hll : l.length ≤ 12) W (h : Below w.heap.size w W) => Audit_fails (P := everyT) p s l B b W (hr.step h) hi (hl.step h).reads (by omega) h0)
  have hAO := Lib.hid (fun (h0 : askedE p l = 0) (hll : l.length ≤ 12) W (h : Below w.heap.size w W) => Audit_any (P := everyT) p s l B b W (hr.step h) hi (hl.step h) (by omega) h0)
  have hCk := Lib.hid (fun (hll : l.length ≤ 12) (us : List Us) (D : Option Addr) (d : Nat) (M : Int) (cs : List Bool) (C : Option Addr) (cc : Nat) W (h : Below w.heap.size w W) (hu : SlR W everyT 3 Us.enc ⟨D, us.length, d⟩ us) (hc : SlR W everyT 1 boolE ⟨C, cs.length, cc⟩ cs) (hlu : us.length ≤ 64000) => ProCheck_any (P := everyT) p s l B b us D d M cs C cc W (hr.step h) hi (hl.step h) hu.reads hc (by omega) (by omega))
  have hn := hr.len
  obtain ⟨A, n, c⟩ := s
  simp only at hn
  subst hn
  unfold pgV auV at *
  simp only at hF hAF hAO hCk ⊢
  cases hf : fewP p l
  · have HFW := Lib.hid hf
    clear hf
    go_enter Try.func8, Try.ntmps8
    go_wp2_with fail
    obtain ⟨W0, hW0⟩ : ∃ W, W = ((w.alloc (.cells #[.string p.nm, .int .i64 p.number, .int .i64 p.uses, .int .i64 p.earn, .int .i64 p.mean.num, .int .i64 p.mean.den, .slice A p.reqs.length c] 26)).alloc (.cells #[.slice D us.length d, .int .i64 M, .slice C cs.length cc] 39)) := ⟨_, rfl⟩
    have hp0 : Bx W0 w.heap.size (pgC p ⟨A, p.reqs.length, c⟩) := by rw [hW0]; exact (Bx.new w _ _).alloc _
    have ha0 : Bx W0 (w.heap.size + 1) (auC ⟨D, us.length, d⟩ M ⟨C, cs.length, cc⟩) := by rw [hW0]; exact Bx.at_ _ _ _ _ (by simp)
    have hb0 : Below w.heap.size w W0 := by rw [hW0]; exact ((Below.refl _ _).alloc (Nat.le_refl _) _).alloc (by simp) _
    rw [← hW0]
    have HP := Lib.hid hp0
    have BA := Lib.hid hb0
    have HA := Lib.hid ha0
    clear hW0 hp0 hb0 ha0
    refine (proSane_any _).mono ?_
    rintro e w1 ⟨rfl, hb1⟩
    have S_w1 : Below W0.heap.size W0 w1 := hb1
    have HP := Lib.hid (HP.out.step S_w1)
    have BA := Lib.hid (BA.out.trans (S_w1.mono BA.out.size))
    have HA := Lib.hid (HA.out.step S_w1)
    have z_w1 := S_w1.size
    have p0 := HP.out.1 0 _ rfl
    have p1 := HP.out.1 1 _ rfl
    have p2 := HP.out.1 2 _ rfl
    have p3 := HP.out.1 3 _ rfl
    have p4 := HP.out.1 4 _ rfl
    have p5 := HP.out.1 5 _ rfl
    have p6 := HP.out.1 6 _ rfl
    have pz := HP.out.2.2
    have x0 := HA.out.1 0 _ rfl
    have x1 := HA.out.1 1 _ rfl
    have x2 := HA.out.1 2 _ rfl
    have xz := HA.out.2.2
    go_wp2_with fail
    clear p0 p1 p2 p3 p4 p5 p6 pz
    clear x0 x1 x2 xz
    refine (hF.out _ BA.out).mono ?_
    rw [HFW.out]
    rintro e w2 ⟨rfl, hb2⟩
    have S_w2 : Below w1.heap.size w1 w2 := hb2
    have HP := Lib.hid (HP.out.step S_w2)
    have BA := Lib.hid (BA.out.trans (S_w2.mono BA.out.size))
    have HA := Lib.hid (HA.out.step S_w2)
    have z_w2 := S_w2.size
    have p0 := HP.out.1 0 _ rfl
    have p1 := HP.out.1 1 _ rfl
    have p2 := HP.out.1 2 _ rfl
    have p3 := HP.out.1 3 _ rfl
    have p4 := HP.out.1 4 _ rfl
    have p5 := HP.out.1 5 _ rfl
    have p6 := HP.out.1 6 _ rfl
    have pz := HP.out.2.2
    have x0 := HA.out.1 0 _ rfl
    have x1 := HA.out.1 1 _ rfl
    have x2 := HA.out.1 2 _ rfl
    have xz := HA.out.2.2
    go_wp2_with fail
    go_ret
    exact ⟨rfl, BA.out⟩
  have HFW := Lib.hid hf
  have hll := few_len hf
  clear hf
  by_cases hu0 : us.length ≤ 60
  rotate_left
  · have e0 : decide ((60 : Int) < (us.length : Int)) = true := by simp; omega
    go_enter Try.func8, Try.ntmps8
    go_wp2_with fail
    obtain ⟨W0, hW0⟩ : ∃ W, W = ((w.alloc (.cells #[.string p.nm, .int .i64 p.number, .int .i64 p.uses, .int .i64 p.earn, .int .i64 p.mean.num, .int .i64 p.mean.den, .slice A p.reqs.length c] 26)).alloc (.cells #[.slice D us.length d, .int .i64 M, .slice C cs.length cc] 39)) := ⟨_, rfl⟩
    have hp0 : Bx W0 w.heap.size (pgC p ⟨A, p.reqs.length, c⟩) := by rw [hW0]; exact (Bx.new w _ _).alloc _
    have ha0 : Bx W0 (w.heap.size + 1) (auC ⟨D, us.length, d⟩ M ⟨C, cs.length, cc⟩) := by rw [hW0]; exact Bx.at_ _ _ _ _ (by simp)
    have hb0 : Below w.heap.size w W0 := by rw [hW0]; exact ((Below.refl _ _).alloc (Nat.le_refl _) _).alloc (by simp) _
    rw [← hW0]
    have HP := Lib.hid hp0
    have BA := Lib.hid hb0
    have HA := Lib.hid ha0
    clear hW0 hp0 hb0 ha0
    refine (proSane_any _).mono ?_
    rintro e w1 ⟨rfl, hb1⟩
    have S_w1 : Below W0.heap.size W0 w1 := hb1
    have HP := Lib.hid (HP.out.step S_w1)
    have BA := Lib.hid (BA.out.trans (S_w1.mono BA.out.size))
    have HA := Lib.hid (HA.out.step S_w1)
    have z_w1 := S_w1.size
    have p0 := HP.out.1 0 _ rfl
    have p1 := HP.out.1 1 _ rfl
    have p2 := HP.out.1 2 _ rfl
    have p3 := HP.out.1 3 _ rfl
    have p4 := HP.out.1 4 _ rfl
    have p5 := HP.out.1 5 _ rfl
    have p6 := HP.out.1 6 _ rfl
    have pz := HP.out.2.2
    have x0 := HA.out.1 0 _ rfl
    have x1 := HA.out.1 1 _ rfl
    have x2 := HA.out.1 2 _ rfl
    have xz := HA.out.2.2
    go_wp2_with fail
    clear p0 p1 p2 p3 p4 p5 p6 pz
    clear x0 x1 x2 xz
    refine (hF.out _ BA.out).mono ?_
    rw [HFW.out]
    rintro e w2 ⟨rfl, hb2⟩
    have S_w2 : Below w1.heap.size w1 w2 := hb2
    have HP := Lib.hid (HP.out.step S_w2)
    have BA := Lib.hid (BA.out.trans (S_w2.mono BA.out.size))
    have HA := Lib.hid (HA.out.step S_w2)
    have z_w2 := S_w2.size
    have p0 := HP.out.1 0 _ rfl
    have p1 := HP.out.1 1 _ rfl
    have p2 := HP.out.1 2 _ rfl
    have p3 := HP.out.1 3 _ rfl
    have p4 := HP.out.1 4 _ rfl
    have p5 := HP.out.1 5 _ rfl
    have p6 := HP.out.1 6 _ rfl
    have pz := HP.out.2.2
    have x0 := HA.out.1 0 _ rfl
    have x1 := HA.out.1 1 _ rfl
    have x2 := HA.out.1 2 _ rfl
    have xz := HA.out.2.2
    go_wp2_with fail
    go_ret
    exact ⟨rfl, BA.out⟩
  have e0 : decide ((60 : Int) < (us.length : Int)) = false := by simp; omega
  obtain ⟨E, hE⟩ : ∃ E, E = auditE p l us M cs := ⟨_, rfl⟩
  have hCA : Hid (∀ W, Below w.heap.size w W → Calls Try.prog 19 #[.agg #[.string p.nm, .int .i64 p.number, .int .i64 p.uses, .int .i64 p.earn, .int .i64 p.mean.num, .int .i64 p.mean.den, .slice A p.reqs.length c], .slice B l.length b, .agg #[.slice D us.length d, .int .i64 M, .slice C cs.length cc]] W fun e w' => e = .returned (.int .i64 E) ∧ Below W.heap.size W w') := Lib.hid (fun W h => (hCk.out hll us D d M cs C cc W h (hu.step h) (hc.step h) (by omega)).mono (fun e w' k => ⟨by rw [k.1, ← hE], k.2⟩))
  have HE := Lib.hid hE
  clear hE
  by_cases hE0 : E = 0
  · subst hE0
    have h0 : askedE p l = 0 := audit_askd HE.out.symm
    go_enter Try.func8, Try.ntmps8
    go_wp2_with fail
    obtain ⟨W0, hW0⟩ : ∃ W, W = ((w.alloc (.cells #[.string p.nm, .int .i64 p.number, .int .i64 p.uses, .int .i64 p.earn, .int .i64 p.mean.num, .int .i64 p.mean.den, .slice A p.reqs.length c] 26)).alloc (.cells #[.slice D us.length d, .int .i64 M, .slice C cs.length cc] 39)) := ⟨_, rfl⟩
    have hp0 : Bx W0 w.heap.size (pgC p ⟨A, p.reqs.length, c⟩) := by rw [hW0]; exact (Bx.new w _ _).alloc _
    have ha0 : Bx W0 (w.heap.size + 1) (auC ⟨D, us.length, d⟩ M ⟨C, cs.length, cc⟩) := by rw [hW0]; exact Bx.at_ _ _ _ _ (by simp)
    have hb0 : Below w.heap.size w W0 := by rw [hW0]; exact ((Below.refl _ _).alloc (Nat.le_refl _) _).alloc (by simp) _
    rw [← hW0]
    have HP := Lib.hid hp0
    have BA := Lib.hid hb0
    have HA := Lib.hid ha0
    clear hW0 hp0 hb0 ha0
    refine (proSane_any _).mono ?_
    rintro e w1 ⟨rfl, hb1⟩
    have S_w1 : Below W0.heap.size W0 w1 := hb1
    have HP := Lib.hid (HP.out.step S_w1)
    have BA := Lib.hid (BA.out.trans (S_w1.mono BA.out.size))
    have HA := Lib.hid (HA.out.step S_w1)
    have z_w1 := S_w1.size
    have p0 := HP.out.1 0 _ rfl
    have p1 := HP.out.1 1 _ rfl
    have p2 := HP.out.1 2 _ rfl
    have p3 := HP.out.1 3 _ rfl
    have p4 := HP.out.1 4 _ rfl
    have p5 := HP.out.1 5 _ rfl
    have p6 := HP.out.1 6 _ rfl
    have pz := HP.out.2.2
    have x0 := HA.out.1 0 _ rfl
    have x1 := HA.out.1 1 _ rfl
    have x2 := HA.out.1 2 _ rfl
    have xz := HA.out.2.2
    go_wp2_with fail
    clear p0 p1 p2 p3 p4 p5 p6 pz
    clear x0 x1 x2 xz
    refine (hF.out _ BA.out).mono ?_
    rw [HFW.out]
    rintro e w2 ⟨rfl, hb2⟩
    have S_w2 : Below w1.heap.size w1 w2 := hb2
    have HP := Lib.hid (HP.out.step S_w2)
    have BA := Lib.hid (BA.out.trans (S_w2.mono BA.out.size))
    have HA := Lib.hid (HA.out.step S_w2)
    have z_w2 := S_w2.size
    have p0 := HP.out.1 0 _ rfl
    have p1 := HP.out.1 1 _ rfl
    have p2 := HP.out.1 2 _ rfl
    have p3 := HP.out.1 3 _ rfl
    have p4 := HP.out.1 4 _ rfl
    have p5 := HP.out.1 5 _ rfl
    have p6 := HP.out.1 6 _ rfl
    have pz := HP.out.2.2
    have x0 := HA.out.1 0 _ rfl
    have x1 := HA.out.1 1 _ rfl
    have x2 := HA.out.1 2 _ rfl
    have xz := HA.out.2.2
    go_wp2_with fail
    clear p0 p1 p2 p3 p4 p5 p6 pz
    clear x0 x1 x2 xz
    refine (hAO.out h0 hll _ BA.out).mono ?_
    rintro e w3 ⟨⟨us2, M2, cs2, D2, C2, d2, cc2, rfl, hUOw3, hAUw3, hMw3, hulw3, husw3, hcsw3⟩, hbw3⟩
    have S_w3 : Below w2.heap.size w2 w3 := hbw3
    have HP := Lib.hid (HP.out.step S_w3)
    have BA := Lib.hid (BA.out.trans (S_w3.mono BA.out.size))
    have HA := Lib.hid (HA.out.step S_w3)
    have z_w3 := S_w3.size
    have HUw3 := Lib.hid (husw3.small (Q := fun x => x < w3.heap.size) (fun _ h => h))
    have HCw3 := Lib.hid (hcsw3.small (Q := fun x => x < w3.heap.size) (fun _ h => h))
    have HUOw3 := Lib.hid hUOw3
    have HAUw3 := Lib.hid hAUw3
    have HMw3 := Lib.hid hMw3
    clear husw3 hcsw3 hUOw3 hAUw3 hMw3
    have p0 := HP.out.1 0 _ rfl
    have p1 := HP.out.1 1 _ rfl
    have p2 := HP.out.1 2 _ rfl
    have p3 := HP.out.1 3 _ rfl
    have p4 := HP.out.1 4 _ rfl
    have p5 := HP.out.1 5 _ rfl
    have p6 := HP.out.1 6 _ rfl
    have pz := HP.out.2.2
    have x0 := HA.out.1 0 _ rfl
    have x1 := HA.out.1 1 _ rfl
    have x2 := HA.out.1 2 _ rfl
    have xz := HA.out.2.2
    go_upto_region 6 with fail
    clear p0 p1 p2 p3 p4 p5 p6 pz
    clear x0 x1 x2 xz
    have ow4_HP := HP.out.2.2
    have ow4_HA := HA.out.2.2
    obtain ⟨w4, hw4⟩ : ∃ X, X = w3.alloc (.cells #[.slice D2 us2.length d2, .int .i64 M2, .slice C2 cs2.length cc2] 39) := ⟨_, rfl⟩
    have hbw4 : Below w3.heap.size w3 w4 := by rw [hw4]; exact (Below.refl _ _).alloc (Nat.le_refl _) _
    have HX := Lib.hid (show Bx w4 w3.heap.size [.slice D2 us2.length d2, .int .i64 M2, .slice C2 cs2.length cc2] by rw [hw4]; exact Bx.new ..)
    have zw4 : w3.heap.size < w4.heap.size := HX.out.2.2
    rw [← hw4]
    have S_w4 : Below w3.heap.size w3 w4 := hbw4
    have HP := Lib.hid (HP.out.step S_w4)
    have BA := Lib.hid (BA.out.trans (S_w4.mono BA.out.size))
    have HA := Lib.hid (HA.out.step S_w4)
    have HUw3 := Lib.hid (HUw3.out.step S_w4)
    have HCw3 := Lib.hid (HCw3.out.step S_w4)
    have z_w4 := S_w4.size
    obtain ⟨Bw4, hBw4⟩ : ∃ x, x = w3.heap.size := ⟨_, rfl⟩
    rw [← hBw4] at HX zw4 HUw3 HCw3 ow4_HP ow4_HA ⊢
    clear hw4 hBw4
    have p0 := HP.out.1 0 _ rfl
    have p1 := HP.out.1 1 _ rfl
    have p2 := HP.out.1 2 _ rfl
    have p3 := HP.out.1 3 _ rfl
    have p4 := HP.out.1 4 _ rfl
    have p5 := HP.out.1 5 _ rfl
    have p6 := HP.out.1 6 _ rfl
    have pz := HP.out.2.2
    have x0 := HA.out.1 0 _ rfl
    have x1 := HA.out.1 1 _ rfl
    have x2 := HA.out.1 2 _ rfl
    have xz := HA.out.2.2
    have z0 := HX.out.1 0 _ rfl
    have z1 := HX.out.1 1 _ rfl
    have z2 := HX.out.1 2 _ rfl
    have zz := HX.out.2.2
    go_wp2_with fail
    clear p0 p1 p2 p3 p4 p5 p6 pz
    clear x0 x1 x2 xz
    clear z0 z1 z2 zz
    refine (hCA.out _ BA.out).mono ?_
    rintro e w5 ⟨rfl, hbw5⟩
    have S_w5 : Below w4.heap.size w4 w5 := hbw5
    have HP := Lib.hid (HP.out.step S_w5)
    have BA := Lib.hid (BA.out.trans (S_w5.mono BA.out.size))
    have HA := Lib.hid (HA.out.step S_w5)
    have HUw3 := Lib.hid (HUw3.out.step S_w5)
    have HCw3 := Lib.hid (HCw3.out.step S_w5)
    have HX := Lib.hid (HX.out.step S_w5)
    have z_w5 := S_w5.size
    obtain rfl : M = M2 := audit_unique HE.out.symm HAUw3.out
    have p0 := HP.out.1 0 _ rfl
    have p1 := HP.out.1 1 _ rfl
    have p2 := HP.out.1 2 _ rfl
    have p3 := HP.out.1 3 _ rfl
    have p4 := HP.out.1 4 _ rfl
    have p5 := HP.out.1 5 _ rfl
    have p6 := HP.out.1 6 _ rfl
    have pz := HP.out.2.2
    have x0 := HA.out.1 0 _ rfl
    have x1 := HA.out.1 1 _ rfl
    have x2 := HA.out.1 2 _ rfl
    have xz := HA.out.2.2
    have z0 := HX.out.1 0 _ rfl
    have z1 := HX.out.1 1 _ rfl
    have z2 := HX.out.1 2 _ rfl
    have zz := HX.out.2.2
    go_wp2_with fail
    go_ret
    exact ⟨rfl, BA.out⟩
  · have e5 : (E == 0) = false := by simpa using hE0
    have e6 : (E != 0) = true := by simpa using hE0
    clear hE0
    by_cases h0 : askedE p l = 0
    · go_enter Try.func8, Try.ntmps8
      go_wp2_with fail
      obtain ⟨W0, hW0⟩ : ∃ W, W = ((w.alloc (.cells #[.string p.nm, .int .i64 p.number, .int .i64 p.uses, .int .i64 p.earn, .int .i64 p.mean.num, .int .i64 p.mean.den, .slice A p.reqs.length c] 26)).alloc (.cells #[.slice D us.length d, .int .i64 M, .slice C cs.length cc] 39)) := ⟨_, rfl⟩
      have hp0 : Bx W0 w.heap.size (pgC p ⟨A, p.reqs.length, c⟩) := by rw [hW0]; exact (Bx.new w _ _).alloc _
      have ha0 : Bx W0 (w.heap.size + 1) (auC ⟨D, us.length, d⟩ M ⟨C, cs.length, cc⟩) := by rw [hW0]; exact Bx.at_ _ _ _ _ (by simp)
      have hb0 : Below w.heap.size w W0 := by rw [hW0]; exact ((Below.refl _ _).alloc (Nat.le_refl _) _).alloc (by simp) _
      rw [← hW0]
      have HP := Lib.hid hp0
      have BA := Lib.hid hb0
      have HA := Lib.hid ha0
      clear hW0 hp0 hb0 ha0
      refine (proSane_any _).mono ?_
      rintro e w1 ⟨rfl, hb1⟩
      have S_w1 : Below W0.heap.size W0 w1 := hb1
      have HP := Lib.hid (HP.out.step S_w1)
      have BA := Lib.hid (BA.out.trans (S_w1.mono BA.out.size))
      have HA := Lib.hid (HA.out.step S_w1)
      have z_w1 := S_w1.size
      have p0 := HP.out.1 0 _ rfl
      have p1 := HP.out.1 1 _ rfl
      have p2 := HP.out.1 2 _ rfl
      have p3 := HP.out.1 3 _ rfl
      have p4 := HP.out.1 4 _ rfl
      have p5 := HP.out.1 5 _ rfl
      have p6 := HP.out.1 6 _ rfl
      have pz := HP.out.2.2
      have x0 := HA.out.1 0 _ rfl
      have x1 := HA.out.1 1 _ rfl
      have x2 := HA.out.1 2 _ rfl
      have xz := HA.out.2.2
      go_wp2_with fail
      clear p0 p1 p2 p3 p4 p5 p6 pz
      clear x0 x1 x2 xz
      refine (hF.out _ BA.out).mono ?_
      rw [HFW.out]
      rintro e w2 ⟨rfl, hb2⟩
      have S_w2 : Below w1.heap.size w1 w2 := hb2
      have HP := Lib.hid (HP.out.step S_w2)
      have BA := Lib.hid (BA.out.trans (S_w2.mono BA.out.size))
      have HA := Lib.hid (HA.out.step S_w2)
      have z_w2 := S_w2.size
      have p0 := HP.out.1 0 _ rfl
      have p1 := HP.out.1 1 _ rfl
      have p2 := HP.out.1 2 _ rfl
      have p3 := HP.out.1 3 _ rfl
      have p4 := HP.out.1 4 _ rfl
      have p5 := HP.out.1 5 _ rfl
      have p6 := HP.out.1 6 _ rfl
      have pz := HP.out.2.2
      have x0 := HA.out.1 0 _ rfl
      have x1 := HA.out.1 1 _ rfl
      have x2 := HA.out.1 2 _ rfl
      have xz := HA.out.2.2
      go_wp2_with fail
      clear p0 p1 p2 p3 p4 p5 p6 pz
      clear x0 x1 x2 xz
      refine (hAO.out h0 hll _ BA.out).mono ?_
      rintro e w3 ⟨⟨us2, M2, cs2, D2, C2, d2, cc2, rfl, hUOw3, hAUw3, hMw3, hulw3, husw3, hcsw3⟩, hbw3⟩
      have S_w3 : Below w2.heap.size w2 w3 := hbw3
      have HP := Lib.hid (HP.out.step S_w3)
      have BA := Lib.hid (BA.out.trans (S_w3.mono BA.out.size))
      have HA := Lib.hid (HA.out.step S_w3)
      have z_w3 := S_w3.size
      have HUw3 := Lib.hid (husw3.small (Q := fun x => x < w3.heap.size) (fun _ h => h))
      have HCw3 := Lib.hid (hcsw3.small (Q := fun x => x < w3.heap.size) (fun _ h => h))
      have HUOw3 := Lib.hid hUOw3
      have HAUw3 := Lib.hid hAUw3
      have HMw3 := Lib.hid hMw3
      clear husw3 hcsw3 hUOw3 hAUw3 hMw3
      have p0 := HP.out.1 0 _ rfl
      have p1 := HP.out.1 1 _ rfl
      have p2 := HP.out.1 2 _ rfl
      have p3 := HP.out.1 3 _ rfl
      have p4 := HP.out.1 4 _ rfl
      have p5 := HP.out.1 5 _ rfl
      have p6 := HP.out.1 6 _ rfl
      have pz := HP.out.2.2
      have x0 := HA.out.1 0 _ rfl
      have x1 := HA.out.1 1 _ rfl
      have x2 := HA.out.1 2 _ rfl
      have xz := HA.out.2.2
      go_upto_region 6 with fail
      clear p0 p1 p2 p3 p4 p5 p6 pz
      clear x0 x1 x2 xz
      have ow4_HP := HP.out.2.2
      have ow4_HA := HA.out.2.2
      obtain ⟨w4, hw4⟩ : ∃ X, X = w3.alloc (.cells #[.slice D2 us2.length d2, .int .i64 M2, .slice C2 cs2.length cc2] 39) := ⟨_, rfl⟩
      have hbw4 : Below w3.heap.size w3 w4 := by rw [hw4]; exact (Below.refl _ _).alloc (Nat.le_refl _) _
      have HX := Lib.hid (show Bx w4 w3.heap.size [.slice D2 us2.length d2, .int .i64 M2, .slice C2 cs2.length cc2] by rw [hw4]; exact Bx.new ..)
      have zw4 : w3.heap.size < w4.heap.size := HX.out.2.2
      rw [← hw4]
      have S_w4 : Below w3.heap.size w3 w4 := hbw4
      have HP := Lib.hid (HP.out.step S_w4)
      have BA := Lib.hid (BA.out.trans (S_w4.mono BA.out.size))
      have HA := Lib.hid (HA.out.step S_w4)
      have HUw3 := Lib.hid (HUw3.out.step S_w4)
      have HCw3 := Lib.hid (HCw3.out.step S_w4)
      have z_w4 := S_w4.size
      obtain ⟨Bw4, hBw4⟩ : ∃ x, x = w3.heap.size := ⟨_, rfl⟩
      rw [← hBw4] at HX zw4 HUw3 HCw3 ow4_HP ow4_HA ⊢
      clear hw4 hBw4
      have p0 := HP.out.1 0 _ rfl
      have p1 := HP.out.1 1 _ rfl
      have p2 := HP.out.1 2 _ rfl
      have p3 := HP.out.1 3 _ rfl
      have p4 := HP.out.1 4 _ rfl
      have p5 := HP.out.1 5 _ rfl
      have p6 := HP.out.1 6 _ rfl
      have pz := HP.out.2.2
      have x0 := HA.out.1 0 _ rfl
      have x1 := HA.out.1 1 _ rfl
      have x2 := HA.out.1 2 _ rfl
      have xz := HA.out.2.2
      have z0 := HX.out.1 0 _ rfl
      have z1 := HX.out.1 1 _ rfl
      have z2 := HX.out.1 2 _ rfl
      have zz := HX.out.2.2
      go_wp2_with fail
      clear p0 p1 p2 p3 p4 p5 p6 pz
      clear x0 x1 x2 xz
      clear z0 z1 z2 zz
      refine (hCA.out _ BA.out).mono ?_
      rintro e w5 ⟨rfl, hbw5⟩
      have S_w5 : Below w4.heap.size w4 w5 := hbw5
      have HP := Lib.hid (HP.out.step S_w5)
      have BA := Lib.hid (BA.out.trans (S_w5.mono BA.out.size))
      have HA := Lib.hid (HA.out.step S_w5)
      have HUw3 := Lib.hid (HUw3.out.step S_w5)
      have HCw3 := Lib.hid (HCw3.out.step S_w5)
      have HX := Lib.hid (HX.out.step S_w5)
      have z_w5 := S_w5.size
      have p0 := HP.out.1 0 _ rfl
      have p1 := HP.out.1 1 _ rfl
      have p2 := HP.out.1 2 _ rfl
      have p3 := HP.out.1 3 _ rfl
      have p4 := HP.out.1 4 _ rfl
      have p5 := HP.out.1 5 _ rfl
      have p6 := HP.out.1 6 _ rfl
      have pz := HP.out.2.2
      have x0 := HA.out.1 0 _ rfl
      have x1 := HA.out.1 1 _ rfl
      have x2 := HA.out.1 2 _ rfl
      have xz := HA.out.2.2
      have z0 := HX.out.1 0 _ rfl
      have z1 := HX.out.1 1 _ rfl
      have z2 := HX.out.1 2 _ rfl
      have zz := HX.out.2.2
      go_wp2_with fail
      go_ret
      exact ⟨rfl, BA.out⟩
    · have hAX := Lib.hid (fun W h => hAF.out h0 hll W h)
      obtain ⟨E9, hE9⟩ : ∃ E9, E9 = askedE p l := ⟨_, rfl⟩
      rw [← hE9] at h0 hAX
      have e1 : (E9 == 0) = false := by simpa using h0
      have e2 : (E9 != 0) = true := by simpa using h0
      clear hE9 hAF hAO
      go_enter Try.func8, Try.ntmps8
      go_wp2_with fail
      obtain ⟨W0, hW0⟩ : ∃ W, W = ((w.alloc (.cells #[.string p.nm, .int .i64 p.number, .int .i64 p.uses, .int .i64 p.earn, .int .i64 p.mean.num, .int .i64 p.mean.den, .slice A p.reqs.length c] 26)).alloc (.cells #[.slice D us.length d, .int .i64 M, .slice C cs.length cc] 39)) := ⟨_, rfl⟩
      have hp0 : Bx W0 w.heap.size (pgC p ⟨A, p.reqs.length, c⟩) := by rw [hW0]; exact (Bx.new w _ _).alloc _
      have ha0 : Bx W0 (w.heap.size + 1) (auC ⟨D, us.length, d⟩ M ⟨C, cs.length, cc⟩) := by rw [hW0]; exact Bx.at_ _ _ _ _ (by simp)
      have hb0 : Below w.heap.size w W0 := by rw [hW0]; exact ((Below.refl _ _).alloc (Nat.le_refl _) _).alloc (by simp) _
      rw [← hW0]
      have HP := Lib.hid hp0
      have BA := Lib.hid hb0
      have HA := Lib.hid ha0
      clear hW0 hp0 hb0 ha0
      refine (proSane_any _).mono ?_
      rintro e w1 ⟨rfl, hb1⟩
      have S_w1 : Below W0.heap.size W0 w1 := hb1
      have HP := Lib.hid (HP.out.step S_w1)
      have BA := Lib.hid (BA.out.trans (S_w1.mono BA.out.size))
      have HA := Lib.hid (HA.out.step S_w1)
      have z_w1 := S_w1.size
      have p0 := HP.out.1 0 _ rfl
      have p1 := HP.out.1 1 _ rfl
      have p2 := HP.out.1 2 _ rfl
      have p3 := HP.out.1 3 _ rfl
      have p4 := HP.out.1 4 _ rfl
      have p5 := HP.out.1 5 _ rfl
      have p6 := HP.out.1 6 _ rfl
      have pz := HP.out.2.2
      have x0 := HA.out.1 0 _ rfl
      have x1 := HA.out.1 1 _ rfl
      have x2 := HA.out.1 2 _ rfl
      have xz := HA.out.2.2
      go_wp2_with fail
      clear p0 p1 p2 p3 p4 p5 p6 pz
      clear x0 x1 x2 xz
      refine (hF.out _ BA.out).mono ?_
      rw [HFW.out]
      rintro e w2 ⟨rfl, hb2⟩
      have S_w2 : Below w1.heap.size w1 w2 := hb2
      have HP := Lib.hid (HP.out.step S_w2)
      have BA := Lib.hid (BA.out.trans (S_w2.mono BA.out.size))
      have HA := Lib.hid (HA.out.step S_w2)
      have z_w2 := S_w2.size
      have p0 := HP.out.1 0 _ rfl
      have p1 := HP.out.1 1 _ rfl
      have p2 := HP.out.1 2 _ rfl
      have p3 := HP.out.1 3 _ rfl
      have p4 := HP.out.1 4 _ rfl
      have p5 := HP.out.1 5 _ rfl
      have p6 := HP.out.1 6 _ rfl
      have pz := HP.out.2.2
      have x0 := HA.out.1 0 _ rfl
      have x1 := HA.out.1 1 _ rfl
      have x2 := HA.out.1 2 _ rfl
      have xz := HA.out.2.2
      go_wp2_with fail
      clear p0 p1 p2 p3 p4 p5 p6 pz
      clear x0 x1 x2 xz
      refine (hAX.out _ BA.out).mono ?_
      rintro e w3 ⟨rfl, hbw3⟩
      have S_w3 : Below w2.heap.size w2 w3 := hbw3
      have HP := Lib.hid (HP.out.step S_w3)
      have BA := Lib.hid (BA.out.trans (S_w3.mono BA.out.size))
      have HA := Lib.hid (HA.out.step S_w3)
      have z_w3 := S_w3.size
      have p0 := HP.out.1 0 _ rfl
      have p1 := HP.out.1 1 _ rfl
      have p2 := HP.out.1 2 _ rfl
      have p3 := HP.out.1 3 _ rfl
      have p4 := HP.out.1 4 _ rfl
      have p5 := HP.out.1 5 _ rfl
      have p6 := HP.out.1 6 _ rfl
      have pz := HP.out.2.2
      have x0 := HA.out.1 0 _ rfl
      have x1 := HA.out.1 1 _ rfl
      have x2 := HA.out.1 2 _ rfl
      have xz := HA.out.2.2
      go_upto_region 6 with fail
      clear p0 p1 p2 p3 p4 p5 p6 pz
      clear x0 x1 x2 xz
      have ow4_HP := HP.out.2.2
      have ow4_HA := HA.out.2.2
      obtain ⟨w4, hw4⟩ : ∃ X, X = w3.alloc (.cells #[.slice none 0 0, .int .i64 0, .slice none 0 0] 39) := ⟨_, rfl⟩
      have hbw4 : Below w3.heap.size w3 w4 := by rw [hw4]; exact (Below.refl _ _).alloc (Nat.le_refl _) _
      have HX := Lib.hid (show Bx w4 w3.heap.size [.slice none 0 0, .int .i64 0, .slice none 0 0] by rw [hw4]; exact Bx.new ..)
      have zw4 : w3.heap.size < w4.heap.size := HX.out.2.2
      rw [← hw4]
      have S_w4 : Below w3.heap.size w3 w4 := hbw4
      have HP := Lib.hid (HP.out.step S_w4)
      have BA := Lib.hid (BA.out.trans (S_w4.mono BA.out.size))
      have HA := Lib.hid (HA.out.step S_w4)
      have z_w4 := S_w4.size
      obtain ⟨Bw4, hBw4⟩ : ∃ x, x = w3.heap.size := ⟨_, rfl⟩
      rw [← hBw4] at HX zw4  ow4_HP ow4_HA ⊢
      clear hw4 hBw4
      have p0 := HP.out.1 0 _ rfl
      have p1 := HP.out.1 1 _ rfl
      have p2 := HP.out.1 2 _ rfl
      have p3 := HP.out.1 3 _ rfl
      have p4 := HP.out.1 4 _ rfl
      have p5 := HP.out.1 5 _ rfl
      have p6 := HP.out.1 6 _ rfl
      have pz := HP.out.2.2
      have x0 := HA.out.1 0 _ rfl
      have x1 := HA.out.1 1 _ rfl
      have x2 := HA.out.1 2 _ rfl
      have xz := HA.out.2.2
      have z0 := HX.out.1 0 _ rfl
      have z1 := HX.out.1 1 _ rfl
      have z2 := HX.out.1 2 _ rfl
      have zz := HX.out.2.2
      go_wp2_with fail
      clear p0 p1 p2 p3 p4 p5 p6 pz
      clear x0 x1 x2 xz
      clear z0 z1 z2 zz
      refine (hCA.out _ BA.out).mono ?_
      rintro e w5 ⟨rfl, hbw5⟩
      have S_w5 : Below w4.heap.size w4 w5 := hbw5
      have HP := Lib.hid (HP.out.step S_w5)
      have BA := Lib.hid (BA.out.trans (S_w5.mono BA.out.size))
      have HA := Lib.hid (HA.out.step S_w5)
      have HX := Lib.hid (HX.out.step S_w5)
      have z_w5 := S_w5.size
      have p0 := HP.out.1 0 _ rfl
      have p1 := HP.out.1 1 _ rfl
      have p2 := HP.out.1 2 _ rfl
      have p3 := HP.out.1 3 _ rfl
      have p4 := HP.out.1 4 _ rfl
      have p5 := HP.out.1 5 _ rfl
      have p6 := HP.out.1 6 _ rfl
      have pz := HP.out.2.2
      have x0 := HA.out.1 0 _ rfl
      have x1 := HA.out.1 1 _ rfl
      have x2 := HA.out.1 2 _ rfl
      have xz := HA.out.2.2
      have z0 := HX.out.1 0 _ rfl
      have z1 := HX.out.1 1 _ rfl
      have z2 := HX.out.1 2 _ rfl
      have zz := HX.out.2.2
      go_wp2_with fail
      go_ret
      exact ⟨rfl, BA.out⟩
theorem ProofUnique_any {w : World} (x : Pg × Sl) (hx : Rqs w everyT x.2 x.1.reqs ∧ x.1.mean.i64) (l : List At) (B : Option Addr) (b : Nat) (h1 : Reads w w.heap.size B 5 At.enc l) (q1 : ∀ y ∈ l, y.ok) (c1 : l.length ≤ b) (m1 : b ≤ maxLen) (n1 : B = none → b = 0)
    (y : Sl × Int × Sl × List Us × List Bool) (hy : SlR w everyT 3 Us.enc y.1 y.2.2.2.1 ∧ SlR w everyT 1 boolE y.2.2.1 y.2.2.2.2 ∧ (Lit.int .i64 y.2.1).wf = true) :
    Calls Try.prog 8 #[pgV x.1 x.2, .slice B l.length b, auV y.1 y.2.1 y.2.2.1] w fun e w' => e = .returned (.bool true) ∧ Below w.heap.size w w' := by
  obtain ⟨⟨ua, un, uc⟩, M, ⟨ca, cn, cc⟩, us, cs⟩ := y
  obtain ⟨k1, k2, _⟩ := hy
  have e1 := k1.1
  have e2 := k2.1
  simp only at e1 e2
  subst e1 e2
  exact ProofUnique_walk x.1 x.2 l B b us ua uc cs ca cc M w hx.1 hx.2 (slr_of h1 c1 m1 n1) k1 k2
end Go.Proofs.Ytgimpbcdgfkdmaa
