/- ProofDropped, walked. -/
import Derived.Test.YtgimpbcdgfkdmaaProL3
import Derived.Deep.DeepCutAuto
namespace Go.Proofs.Ytgimpbcdgfkdmaa
open Go.RowKit Go.Shelf
set_option linter.unusedSimpArgs false
set_option linter.unusedVariables false

set_option maxRecDepth 100000 in
set_option maxHeartbeats 8000000 in
theorem ProofDropped_walk (p : Pg) (s : Sl) (l : List At) (B : Option Addr) (b : Nat) (m : Nat) (hm64 : (m : Int) < 18446744073709551616) (w : World) (hr : Rqs w everyT s p.reqs) (hi : p.mean.i64) (hl : SlR w everyT 5 At.enc ⟨B, l.length, b⟩ l) :
    Calls Try.prog 10 #[pgV p s, .slice B l.length b, .int .u64 m] w fun e w' => e = .returned (.bool true) ∧ Below w.heap.size w w' := by
  have hF := Lib.hid (fun W (h : Below w.heap.size w W) => RProFew_any (P := everyT) p s l B b W (hr.step h))
  have hAF := Lib.hid (fun (h0 : askedE p l ≠ 0) (hll : l.length ≤ 12) W (h : Below w.heap.size w W) => Audit_fails (P := everyT) p s l B b W (hr.step h) hi (hl.step h).reads (by omega) h0)
  have hAO := Lib.hid (fun (h0 : askedE p l = 0) (hll : l.length ≤ 12) W (h : Below w.heap.size w W) => Audit_any (P := everyT) p s l B b W (hr.step h) hi (hl.step h) (by omega) h0)
  have hCk := Lib.hid (fun (hll : l.length ≤ 12) (us : List Us) (D : Option Addr) (d : Nat) (M : Int) (cs : List Bool) (C : Option Addr) (cc : Nat) W (h : Below w.heap.size w W) (hu : SlR W everyT 3 Us.enc ⟨D, us.length, d⟩ us) (hc : SlR W everyT 1 boolE ⟨C, cs.length, cc⟩ cs) (hlu : us.length ≤ 64000) => ProCheck_any (P := everyT) p s l B b us D d M cs C cc W (hr.step h) hi (hl.step h) hu.reads hc (by omega) (by omega))
  have hMi := Lib.hid (fun (us : List Us) (D : Option Addr) (d : Nat) W (h : Below w.heap.size w W) (hu : SlR W everyT 3 Us.enc ⟨D, us.length, d⟩ us) (hlu : us.length ≤ 64000) => Missing_any (P := everyT) p s us D d W (hr.step h) hi hu.reads (by omega))
  have hAl := Lib.hid (fun (us : List Us) (D : Option Addr) (d : Nat) W (h : Below w.heap.size w W) (hu : SlR W everyT 3 Us.enc ⟨D, us.length, d⟩ us) (hlu : us.length ≤ 64000) (hll : l.length ≤ 12) => Allowed_any (P := everyT) p s l B b us D d W (hr.step h) hi (hl.step h).reads hu.reads (by omega) (by omega))
  have hn := hr.len
  obtain ⟨A, n, c⟩ := s
  simp only at hn
  subst hn
  unfold pgV auV at *
  simp only at hF hAF hAO hCk hMi hAl ⊢
  cases hf : fewP p l
  · have HFW := Lib.hid hf
    clear hf
    go_enter Try.func10, Try.ntmps10
    go_wp2_with fail
    obtain ⟨W0, hW0⟩ : ∃ W, W = (w.alloc (.cells #[.string p.nm, .int .i64 p.number, .int .i64 p.uses, .int .i64 p.earn, .int .i64 p.mean.num, .int .i64 p.mean.den, .slice A p.reqs.length c] 26)) := ⟨_, rfl⟩
    have hp0 : Bx W0 w.heap.size (pgC p ⟨A, p.reqs.length, c⟩) := by rw [hW0]; exact Bx.new w _ _
    have hb0 : Below w.heap.size w W0 := by rw [hW0]; exact (Below.refl _ _).alloc (Nat.le_refl _) _
    rw [← hW0]
    have HP := Lib.hid hp0
    have BA := Lib.hid hb0
    clear hW0 hp0 hb0
    refine (proSane_any _).mono ?_
    rintro e w1 ⟨rfl, hb1⟩
    have S_w1 : Below W0.heap.size W0 w1 := hb1
    have HP := Lib.hid (HP.out.step S_w1)
    have BA := Lib.hid (BA.out.trans (S_w1.mono BA.out.size))
    have z_w1 := S_w1.size
    have p0 := HP.out.1 0 _ rfl
    have p1 := HP.out.1 1 _ rfl
    have p2 := HP.out.1 2 _ rfl
    have p3 := HP.out.1 3 _ rfl
    have p4 := HP.out.1 4 _ rfl
    have p5 := HP.out.1 5 _ rfl
    have p6 := HP.out.1 6 _ rfl
    have pz := HP.out.2.2
    go_wp2_with fail
    clear p0 p1 p2 p3 p4 p5 p6 pz
    refine (hF.out _ BA.out).mono ?_
    rw [HFW.out]
    rintro e w2 ⟨rfl, hb2⟩
    have S_w2 : Below w1.heap.size w1 w2 := hb2
    have HP := Lib.hid (HP.out.step S_w2)
    have BA := Lib.hid (BA.out.trans (S_w2.mono BA.out.size))
    have z_w2 := S_w2.size
    have p0 := HP.out.1 0 _ rfl
    have p1 := HP.out.1 1 _ rfl
    have p2 := HP.out.1 2 _ rfl
    have p3 := HP.out.1 3 _ rfl
    have p4 := HP.out.1 4 _ rfl
    have p5 := HP.out.1 5 _ rfl
    have p6 := HP.out.1 6 _ rfl
    have pz := HP.out.2.2
    go_wp2_with fail
    go_ret
    exact ⟨rfl, BA.out⟩
  have HFW := Lib.hid hf
  have hll := few_len hf
  clear hf
  by_cases h0 : askedE p l = 0
  rotate_left
  · have hAX := Lib.hid (fun W h => hAF.out h0 hll W h)
    obtain ⟨E, hE⟩ : ∃ E, E = askedE p l := ⟨_, rfl⟩
    rw [← hE] at h0 hAX
    have e1 : (E == 0) = false := by simpa using h0
    have e2 : (E != 0) = true := by simpa using h0
    clear hE hAF hAO
    go_enter Try.func10, Try.ntmps10
    go_wp2_with fail
    obtain ⟨W0, hW0⟩ : ∃ W, W = (w.alloc (.cells #[.string p.nm, .int .i64 p.number, .int .i64 p.uses, .int .i64 p.earn, .int .i64 p.mean.num, .int .i64 p.mean.den, .slice A p.reqs.length c] 26)) := ⟨_, rfl⟩
    have hp0 : Bx W0 w.heap.size (pgC p ⟨A, p.reqs.length, c⟩) := by rw [hW0]; exact Bx.new w _ _
    have hb0 : Below w.heap.size w W0 := by rw [hW0]; exact (Below.refl _ _).alloc (Nat.le_refl _) _
    rw [← hW0]
    have HP := Lib.hid hp0
    have BA := Lib.hid hb0
    clear hW0 hp0 hb0
    refine (proSane_any _).mono ?_
    rintro e w1 ⟨rfl, hb1⟩
    have S_w1 : Below W0.heap.size W0 w1 := hb1
    have HP := Lib.hid (HP.out.step S_w1)
    have BA := Lib.hid (BA.out.trans (S_w1.mono BA.out.size))
    have z_w1 := S_w1.size
    have p0 := HP.out.1 0 _ rfl
    have p1 := HP.out.1 1 _ rfl
    have p2 := HP.out.1 2 _ rfl
    have p3 := HP.out.1 3 _ rfl
    have p4 := HP.out.1 4 _ rfl
    have p5 := HP.out.1 5 _ rfl
    have p6 := HP.out.1 6 _ rfl
    have pz := HP.out.2.2
    go_wp2_with fail
    clear p0 p1 p2 p3 p4 p5 p6 pz
    refine (hF.out _ BA.out).mono ?_
    rw [HFW.out]
    rintro e w2 ⟨rfl, hb2⟩
    have S_w2 : Below w1.heap.size w1 w2 := hb2
    have HP := Lib.hid (HP.out.step S_w2)
    have BA := Lib.hid (BA.out.trans (S_w2.mono BA.out.size))
    have z_w2 := S_w2.size
    have p0 := HP.out.1 0 _ rfl
    have p1 := HP.out.1 1 _ rfl
    have p2 := HP.out.1 2 _ rfl
    have p3 := HP.out.1 3 _ rfl
    have p4 := HP.out.1 4 _ rfl
    have p5 := HP.out.1 5 _ rfl
    have p6 := HP.out.1 6 _ rfl
    have pz := HP.out.2.2
    go_wp2_with fail
    clear p0 p1 p2 p3 p4 p5 p6 pz
    refine (hAX.out _ BA.out).mono ?_
    rintro e w3 ⟨rfl, hbw3⟩
    have S_w3 : Below w2.heap.size w2 w3 := hbw3
    have HP := Lib.hid (HP.out.step S_w3)
    have BA := Lib.hid (BA.out.trans (S_w3.mono BA.out.size))
    have z_w3 := S_w3.size
    have p0 := HP.out.1 0 _ rfl
    have p1 := HP.out.1 1 _ rfl
    have p2 := HP.out.1 2 _ rfl
    have p3 := HP.out.1 3 _ rfl
    have p4 := HP.out.1 4 _ rfl
    have p5 := HP.out.1 5 _ rfl
    have p6 := HP.out.1 6 _ rfl
    have pz := HP.out.2.2
    go_upto_region 6 with fail
    clear p0 p1 p2 p3 p4 p5 p6 pz
    have ow4_HP := HP.out.2.2
    obtain ⟨w4, hw4⟩ : ∃ X, X = w3.alloc (.cells #[.slice none 0 0, .int .i64 0, .slice none 0 0] 39) := ⟨_, rfl⟩
    have hbw4 : Below w3.heap.size w3 w4 := by rw [hw4]; exact (Below.refl _ _).alloc (Nat.le_refl _) _
    have HX := Lib.hid (show Bx w4 w3.heap.size [.slice none 0 0, .int .i64 0, .slice none 0 0] by rw [hw4]; exact Bx.new ..)
    have zw4 : w3.heap.size < w4.heap.size := HX.out.2.2
    rw [← hw4]
    have S_w4 : Below w3.heap.size w3 w4 := hbw4
    have HP := Lib.hid (HP.out.step S_w4)
    have BA := Lib.hid (BA.out.trans (S_w4.mono BA.out.size))
    have z_w4 := S_w4.size
    obtain ⟨Bw4, hBw4⟩ : ∃ x, x = w3.heap.size := ⟨_, rfl⟩
    rw [← hBw4] at HX zw4  ow4_HP ⊢
    clear hw4 hBw4
    have p0 := HP.out.1 0 _ rfl
    have p1 := HP.out.1 1 _ rfl
    have p2 := HP.out.1 2 _ rfl
    have p3 := HP.out.1 3 _ rfl
    have p4 := HP.out.1 4 _ rfl
    have p5 := HP.out.1 5 _ rfl
    have p6 := HP.out.1 6 _ rfl
    have pz := HP.out.2.2
    have x0 := HX.out.1 0 _ rfl
    have x1 := HX.out.1 1 _ rfl
    have x2 := HX.out.1 2 _ rfl
    have xz := HX.out.2.2
    go_wp2_with fail
    go_ret
    exact ⟨rfl, BA.out⟩
  go_enter Try.func10, Try.ntmps10
  go_wp2_with fail
  obtain ⟨W0, hW0⟩ : ∃ W, W = (w.alloc (.cells #[.string p.nm, .int .i64 p.number, .int .i64 p.uses, .int .i64 p.earn, .int .i64 p.mean.num, .int .i64 p.mean.den, .slice A p.reqs.length c] 26)) := ⟨_, rfl⟩
  have hp0 : Bx W0 w.heap.size (pgC p ⟨A, p.reqs.length, c⟩) := by rw [hW0]; exact Bx.new w _ _
  have hb0 : Below w.heap.size w W0 := by rw [hW0]; exact (Below.refl _ _).alloc (Nat.le_refl _) _
  rw [← hW0]
  have HP := Lib.hid hp0
  have BA := Lib.hid hb0
  clear hW0 hp0 hb0
  refine (proSane_any _).mono ?_
  rintro e w1 ⟨rfl, hb1⟩
  have S_w1 : Below W0.heap.size W0 w1 := hb1
  have HP := Lib.hid (HP.out.step S_w1)
  have BA := Lib.hid (BA.out.trans (S_w1.mono BA.out.size))
  have z_w1 := S_w1.size
  have p0 := HP.out.1 0 _ rfl
  have p1 := HP.out.1 1 _ rfl
  have p2 := HP.out.1 2 _ rfl
  have p3 := HP.out.1 3 _ rfl
  have p4 := HP.out.1 4 _ rfl
  have p5 := HP.out.1 5 _ rfl
  have p6 := HP.out.1 6 _ rfl
  have pz := HP.out.2.2
  go_wp2_with fail
  clear p0 p1 p2 p3 p4 p5 p6 pz
  refine (hF.out _ BA.out).mono ?_
  rw [HFW.out]
  rintro e w2 ⟨rfl, hb2⟩
  have S_w2 : Below w1.heap.size w1 w2 := hb2
  have HP := Lib.hid (HP.out.step S_w2)
  have BA := Lib.hid (BA.out.trans (S_w2.mono BA.out.size))
  have z_w2 := S_w2.size
  have p0 := HP.out.1 0 _ rfl
  have p1 := HP.out.1 1 _ rfl
  have p2 := HP.out.1 2 _ rfl
  have p3 := HP.out.1 3 _ rfl
  have p4 := HP.out.1 4 _ rfl
  have p5 := HP.out.1 5 _ rfl
  have p6 := HP.out.1 6 _ rfl
  have pz := HP.out.2.2
  go_wp2_with fail
  clear p0 p1 p2 p3 p4 p5 p6 pz
  refine (hAO.out h0 hll _ BA.out).mono ?_
  rintro e w3 ⟨⟨us, M, cs, D, C, d, cc, rfl, hUOw3, hAUw3, hMw3, hulw3, husw3, hcsw3⟩, hbw3⟩
  have S_w3 : Below w2.heap.size w2 w3 := hbw3
  have HP := Lib.hid (HP.out.step S_w3)
  have BA := Lib.hid (BA.out.trans (S_w3.mono BA.out.size))
  have z_w3 := S_w3.size
  have HUw3 := Lib.hid (husw3.small (Q := fun x => x < w3.heap.size) (fun _ h => h))
  have HCw3 := Lib.hid (hcsw3.small (Q := fun x => x < w3.heap.size) (fun _ h => h))
  have HUOw3 := Lib.hid hUOw3
  have HAUw3 := Lib.hid hAUw3
  have HMw3 := Lib.hid hMw3
  clear husw3 hcsw3 hUOw3 hAUw3 hMw3
  have p0 := HP.out.1 0 _ rfl
  have p1 := HP.out.1 1 _ rfl
  have p2 := HP.out.1 2 _ rfl
  have p3 := HP.out.1 3 _ rfl
  have p4 := HP.out.1 4 _ rfl
  have p5 := HP.out.1 5 _ rfl
  have p6 := HP.out.1 6 _ rfl
  have pz := HP.out.2.2
  go_upto_region 6 with fail
  clear p0 p1 p2 p3 p4 p5 p6 pz
  have ow4_HP := HP.out.2.2
  obtain ⟨w4, hw4⟩ : ∃ X, X = w3.alloc (.cells #[.slice D us.length d, .int .i64 M, .slice C cs.length cc] 39) := ⟨_, rfl⟩
  have hbw4 : Below w3.heap.size w3 w4 := by rw [hw4]; exact (Below.refl _ _).alloc (Nat.le_refl _) _
  have HX := Lib.hid (show Bx w4 w3.heap.size [.slice D us.length d, .int .i64 M, .slice C cs.length cc] by rw [hw4]; exact Bx.new ..)
  have zw4 : w3.heap.size < w4.heap.size := HX.out.2.2
  rw [← hw4]
  have S_w4 : Below w3.heap.size w3 w4 := hbw4
  have HP := Lib.hid (HP.out.step S_w4)
  have BA := Lib.hid (BA.out.trans (S_w4.mono BA.out.size))
  have HUw3 := Lib.hid (HUw3.out.step S_w4)
  have HCw3 := Lib.hid (HCw3.out.step S_w4)
  have z_w4 := S_w4.size
  obtain ⟨Bw4, hBw4⟩ : ∃ x, x = w3.heap.size := ⟨_, rfl⟩
  rw [← hBw4] at HX zw4 HUw3 HCw3 ow4_HP ⊢
  clear hw4 hBw4
  by_cases hz : us.length = 0
  · have e1 : ((us.length : Int) == 0) = true := by simpa using hz
    have p0 := HP.out.1 0 _ rfl
    have p1 := HP.out.1 1 _ rfl
    have p2 := HP.out.1 2 _ rfl
    have p3 := HP.out.1 3 _ rfl
    have p4 := HP.out.1 4 _ rfl
    have p5 := HP.out.1 5 _ rfl
    have p6 := HP.out.1 6 _ rfl
    have pz := HP.out.2.2
    have x0 := HX.out.1 0 _ rfl
    have x1 := HX.out.1 1 _ rfl
    have x2 := HX.out.1 2 _ rfl
    have xz := HX.out.2.2
    go_wp2_with fail
    go_ret
    exact ⟨rfl, BA.out⟩
  have e1 : ((us.length : Int) == 0) = false := by simpa using hz
  have e1n : (us.length == 0) = false := by simpa using hz
  have hne2 : ¬ ((us.length : Int) = 0) := by omega
  obtain ⟨i, hi⟩ : ∃ i : Nat, i = m % us.length := ⟨_, rfl⟩
  have hil : i < us.length := by rw [hi]; exact Nat.mod_lt _ (by omega)
  have htm : (m : Int).tmod (us.length : Int) = (i : Int) := by rw [Int.tmod_eq_emod_of_nonneg (by omega), hi]; simp
  have hem : (m : Int) % (us.length : Int) = (i : Int) := by rw [hi]; simp
  have hwu : IntKind.u64.wrap (us.length : Int) = (us.length : Int) := by rw [IntKind.wrap_u64]; omega
  have hwi : IntKind.i64.wrap (i : Int) = (i : Int) := by rw [IntKind.wrap_i64]; omega
  have hwm : IntKind.u64.wrap (i : Int) = (i : Int) := by rw [IntKind.wrap_u64]; omega
  clear hi
  have p0 := HP.out.1 0 _ rfl
  have p1 := HP.out.1 1 _ rfl
  have p2 := HP.out.1 2 _ rfl
  have p3 := HP.out.1 3 _ rfl
  have p4 := HP.out.1 4 _ rfl
  have p5 := HP.out.1 5 _ rfl
  have p6 := HP.out.1 6 _ rfl
  have pz := HP.out.2.2
  have x0 := HX.out.1 0 _ rfl
  have x1 := HX.out.1 1 _ rfl
  have x2 := HX.out.1 2 _ rfl
  have xz := HX.out.2.2
  go_upto_region 9 with fail
  clear p0 p1 p2 p3 p4 p5 p6 pz
  clear x0 x1 x2 xz
  clear htm hem hwu hwi hwm e1 e1n hne2
  have p0 := HP.out.1 0 _ rfl
  have p1 := HP.out.1 1 _ rfl
  have p2 := HP.out.1 2 _ rfl
  have p3 := HP.out.1 3 _ rfl
  have p4 := HP.out.1 4 _ rfl
  have p5 := HP.out.1 5 _ rfl
  have p6 := HP.out.1 6 _ rfl
  have pz := HP.out.2.2
  have x0 := HX.out.1 0 _ rfl
  have x1 := HX.out.1 1 _ rfl
  have x2 := HX.out.1 2 _ rfl
  have xz := HX.out.2.2
  go_upto_region 10 with fail
  clear p0 p1 p2 p3 p4 p5 p6 pz
  clear x0 x1 x2 xz
  have ow5_HP := HP.out.2.2
  have ow5_HX := HX.out.2.2
  obtain ⟨w5, hw5⟩ : ∃ X, X = w4.alloc (.cells #[.slice D us.length d, .int .i64 M, .slice C cs.length cc] 39) := ⟨_, rfl⟩
  have hbw5 : Below w4.heap.size w4 w5 := by rw [hw5]; exact (Below.refl _ _).alloc (Nat.le_refl _) _
  have HY := Lib.hid (show Bx w5 w4.heap.size [.slice D us.length d, .int .i64 M, .slice C cs.length cc] by rw [hw5]; exact Bx.new ..)
  have zw5 : w4.heap.size < w5.heap.size := HY.out.2.2
  rw [← hw5]
  have S_w5 : Below w4.heap.size w4 w5 := hbw5
  have HP := Lib.hid (HP.out.step S_w5)
  have BA := Lib.hid (BA.out.trans (S_w5.mono BA.out.size))
  have HUw3 := Lib.hid (HUw3.out.step S_w5)
  have HCw3 := Lib.hid (HCw3.out.step S_w5)
  have HX := Lib.hid (HX.out.step S_w5)
  have z_w5 := S_w5.size
  obtain ⟨Bw5, hBw5⟩ : ∃ x, x = w4.heap.size := ⟨_, rfl⟩
  rw [← hBw5] at HY zw5  ow5_HP ow5_HX ⊢
  clear hw5 hBw5
  obtain ⟨ub, uo, u, hDe, hubl, huk, huc⟩ := HUw3.out.reads.at_ hil
  simp only at hDe
  subst hDe
  have huw : ub < Bw4 := by have := HUw3.out.2.2.2.2.2 (by omega) _ rfl; exact this
  obtain ⟨dl1, dl2, dl3, dl4, dl5, dl6, dl7⟩ := dropped_law HAUw3.out huk
  have HD1 := Lib.hid dl1
  have HD2 := Lib.hid dl2
  have HD3 := Lib.hid dl3
  obtain ⟨T, hT⟩ : ∃ T, T = us.take i := ⟨_, rfl⟩
  obtain ⟨R, hR⟩ : ∃ R, R = us.drop (i + 1) := ⟨_, rfl⟩
  rw [← hT, ← hR] at HD1 HD2 HD3
  have HTL : Hid (T.length = i) := Lib.hid (by rw [hT, List.length_take]; omega)
  have HRL : Hid (R.length = us.length - (i + 1)) := Lib.hid (by rw [hR, List.length_drop])
  have hdc := HUw3.out.2.1
  obtain ⟨i0, hinf, hz0, hz1, hz2⟩ := info_parts Try.infoUs
  have HI := Lib.hid hinf
  have hsl1 := fun W => run_slice_to (P := Try.prog) Try.underlying28 hinf (some ⟨ub, uo, none⟩) us.length d .i64 (i : Int) (by omega) (by simp only at hdc; omega) W
  have hsl2 := fun W => run_slice_from (P := Try.prog) Try.underlying28 hinf (some ⟨ub, uo, none⟩) us.length d .i64 ((i : Int) + 1) (by omega) (by omega) W
  simp only [Int.toNat_natCast, show ((i : Int) + 1).toNat = i + 1 by omega, hz1] at hsl1 hsl2
  obtain ⟨Dr, hDr⟩ : ∃ X, X = (if d = i + 1 then (some ⟨ub, uo, none⟩ : Option Addr) else (some (⟨ub, uo, none⟩ : Addr)).map (·.add ((i + 1) * 3))) := ⟨_, rfl⟩
  rw [← hDr] at hsl2
  have HRT : Hid (Reads w5 w5.heap.size (some ⟨ub, uo, none⟩) 3 Us.enc T) := Lib.hid (by rw [hT]; exact HUw3.out.reads.take)
  have HRR : Hid (Reads w5 w5.heap.size Dr 3 Us.enc R) := Lib.hid (by rw [hR, hDr]; exact HUw3.out.reads.drop (by omega) (by simpa using hdc))
  have HDN : Hid (Dr ≠ none) := Lib.hid (by rw [hDr]; split <;> simp)
  have hwi1 : IntKind.i64.wrap ((i : Int) + 1) = (i : Int) + 1 := by rw [IntKind.wrap_i64]; omega
  have HUK := Lib.hid huk
  clear hT hR hdc hinf hDr dl1 dl2 dl3 huk huc hubl
  have x0 := HX.out.1 0 _ rfl
  have xz := HX.out.2.2
  have SSS := Lib.hid (show ∀ W, Below w5.heap.size w5 W → (fun W' => W'.cell? ⟨Bw4, 0, none⟩ = some (.slice (some ⟨ub, uo, none⟩) us.length d)) W from fun W h => (h.cell (p := ⟨Bw4, 0, none⟩) xz).trans x0)
  refine wp_region_held_drew (S := (fun W' => W'.cell? ⟨Bw4, 0, none⟩ = some (.slice (some ⟨ub, uo, none⟩) us.length d))) (by kernel_rfl) (SSS.out _ (Below.refl _ _).drew) (fun hHeld => ?_)
  obtain ⟨V0, hV0⟩ : ∃ X, X = w5.drew := ⟨_, rfl⟩
  have hBV0 : Below w5.heap.size w5 V0 := by rw [hV0]; exact (Below.refl _ _).drew
  rw [← hV0] at hHeld ⊢
  clear hV0
  refine wpAnyH_take (i := 1) (v := ?_) rfl (by kernel_rfl) (by kernel_rfl) (by kernel_rfl) (fun _ _ _ h => h) (Or.inl ⟨by rfl, ?_⟩) (by assumption) ?_
  rotate_left
  · intro w hSw
    (try dsimp only at hSw)
    go_simp
    try with_reducible rfl
  simp only [Act.put, List.setIfInBounds_toArray, List.set_cons_zero, List.set_cons_succ]
  refine wpAnyH_take (i := 2) (v := ?_) rfl (by kernel_rfl) (by kernel_rfl) (by kernel_rfl) (fun _ _ _ h => h) (Or.inl ⟨by rfl, ?_⟩) (by assumption) ?_
  rotate_left
  · intro w hSw
    (try dsimp only at hSw)
    go_simp
    try with_reducible rfl
  simp only [Act.put, List.setIfInBounds_toArray, List.set_cons_zero, List.set_cons_succ]
  refine wpAnyH_take (i := 3) (v := ?_) rfl (by kernel_rfl) (by kernel_rfl) (by kernel_rfl) (fun _ _ _ h => h) (Or.inl ⟨by rfl, ?_⟩) (by assumption) ?_
  rotate_left
  · intro w hSw
    (try dsimp only at hSw)
    go_simp
    try with_reducible rfl
  simp only [Act.put, List.setIfInBounds_toArray, List.set_cons_zero, List.set_cons_succ]
  refine wpAnyH_take (i := 4) (v := ?_) rfl (by kernel_rfl) (by kernel_rfl) (by kernel_rfl) (fun _ _ _ h => h) (Or.inl ⟨by rfl, ?_⟩) (by assumption) ?_
  rotate_left
  · intro w hSw
    (try dsimp only at hSw)
    go_simp
    try with_reducible rfl
  simp only [Act.put, List.setIfInBounds_toArray, List.set_cons_zero, List.set_cons_succ]
  refine wpAnyH_take (i := 6) (v := ?_) rfl (by kernel_rfl) (by kernel_rfl) (by kernel_rfl) (fun _ _ _ h => h) (Or.inl ⟨by rfl, ?_⟩) (by assumption) ?_
  rotate_left
  · intro w hSw
    (try dsimp only at hSw)
    go_simp
    try with_reducible rfl
  simp only [Act.put, List.setIfInBounds_toArray, List.set_cons_zero, List.set_cons_succ]
  refine wpAnyH_take (i := 7) (v := ?_) rfl (by kernel_rfl) (by kernel_rfl) (by kernel_rfl) (fun _ _ _ h => h) (Or.inl ⟨by rfl, ?_⟩) (by assumption) ?_
  rotate_left
  · intro w hSw
    (try dsimp only at hSw)
    go_simp
    try with_reducible rfl
  simp only [Act.put, List.setIfInBounds_toArray, List.set_cons_zero, List.set_cons_succ]
  refine wpAnyH_take (i := 8) (v := ?_) rfl (by kernel_rfl) (by kernel_rfl) (by kernel_rfl) (fun _ _ _ h => h) (Or.inl ⟨by rfl, ?_⟩) (by assumption) ?_
  rotate_left
  · intro w hSw
    (try dsimp only at hSw)
    go_simp
    try with_reducible rfl
  simp only [Act.put, List.setIfInBounds_toArray, List.set_cons_zero, List.set_cons_succ]
  refine wpAnyH_take (i := 9) (v := ?_) rfl (by kernel_rfl) (by kernel_rfl) (by kernel_rfl) (fun _ _ _ h => h) (Or.inl ⟨by rfl, ?_⟩) (by assumption) ?_
  rotate_left
  · intro w hSw
    (try dsimp only at hSw)
    go_simp
    try with_reducible rfl
  simp only [Act.put, List.setIfInBounds_toArray, List.set_cons_zero, List.set_cons_succ]
  refine wpAnyH_take (i := 10) (v := ?_) rfl (by kernel_rfl) (by kernel_rfl) (by kernel_rfl) (fun _ _ _ h => h) (Or.inl ⟨by rfl, ?_⟩) (by assumption) ?_
  rotate_left
  · intro w hSw
    (try dsimp only at hSw)
    go_simp
    try with_reducible rfl
  simp only [Act.put, List.setIfInBounds_toArray, List.set_cons_zero, List.set_cons_succ]
  refine wpAnyH_ready (rs := [0]) (by kernel_rfl) (by simp) ?_
  refine AllReadyH.cons rfl (fun K hK => ?_) ?_
  · go_simp
    have hBV1 : Below w5.heap.size w5 (V0.alloc (.cells #[] 51)) := hBV0.alloc hBV0.size _
    refine hK.out _ _ (SSS.out _ hBV1) (fun hHeld => ?_)
    clear hK
    obtain ⟨V1, hV1⟩ : ∃ X, X = V0.alloc (.cells #[] 51) := ⟨_, rfl⟩
    have o1 : Owns V1 w5.heap.size 51 3 Us.enc (.slice (some ⟨V0.heap.size, 0, none⟩) 0 0) [] := by rw [hV1]; exact (Owns.lit (w := V0) (e := 51) (ys := ([] : List Us)) (base := w5.heap.size) (cs := #[]) Us.enc_len rfl hBV0.size (Nat.zero_le _))
    rw [← hV1] at hBV1 hHeld ⊢
    clear hV1
    refine wpAnyH_ready (rs := [5]) (by kernel_rfl) (by simp) ?_
    refine AllReadyH.cons rfl (fun K hK => ?_) ?_
    · refine step_append_reads (en := Us.enc) (sz := 3) (by rfl) _ _ _ (by rfl) Us.enc_len Us.enc_one w5.heap.size 51 i0 _ 24 Try.underlying28 HI.out hz0 hz1 hz2 rfl (by decide) (.slice (some ⟨V0.heap.size, 0, none⟩) 0 0) [] (by rfl) o1 w5.heap.size (some ⟨ub, uo, none⟩) d T (by rw [HTL.out]; rfl) (HRT.out.below hBV1) (fun h => by cases h) (by have e1 := HTL.out; have e2 := HRL.out; simp [maxLen]; omega) (by have e1 := HTL.out; have e2 := HRL.out; simp; omega) hBV1.size ?_
      intro v6 w6 k1 k2 k3
      rw [List.nil_append] at k1
      obtain ⟨A6, c6, rfl, _, _⟩ := k1.shape
      have hB6 : Below w5.heap.size w5 w6 := hBV1.grown k2 hBV1.size (fun q e => o1.base_le q e)
      refine hK.out _ _ (SSS.out _ hB6) (fun hHeld => ?_)
      clear hK
      refine wpAnyH_ready (rs := [11]) (by kernel_rfl) (by simp) ?_
      refine AllReadyH.cons rfl (fun K hK => ?_) ?_
      · refine step_append_reads (en := Us.enc) (sz := 3) (by rfl) _ _ _ (by rfl) Us.enc_len Us.enc_one w5.heap.size 51 i0 _ 24 Try.underlying28 HI.out hz0 hz1 hz2 rfl (by decide) (.slice A6 T.length c6) T (by rfl) k1 w5.heap.size Dr (d - (i + 1)) R (by rw [HRL.out]; rfl) (HRR.out.below hB6) (fun h => absurd h HDN.out) (by have e1 := HTL.out; have e2 := HRL.out; simp [maxLen]; omega) (by have e1 := HTL.out; have e2 := HRL.out; simp; omega) hB6.size ?_
        intro v7 w7 m1 m2 m3
        obtain ⟨A7, c7, rfl, _, _⟩ := m1.shape
        have hB7 : Below w5.heap.size w5 w7 := hB6.grown m2 hB6.size (fun q e => k1.base_le q e)
        refine hK.out _ _ (SSS.out _ hB7) (fun hHeld => ?_)
        clear hK
        obtain ⟨vs, hvs⟩ : ∃ vs, vs = T ++ R := ⟨_, rfl⟩
        rw [← hvs] at m1 HD1 HD2 HD3 ⊢
        have hvl : vs.length ≤ 64000 := by rw [hvs, List.length_append]; have e1 := HTL.out; have e2 := HRL.out; omega
        have HO7 := Lib.hid m1
        clear hvs k1 k2 k3 m1 m2 m3 o1
        have S_w7 : Below w5.heap.size w5 w7 := hB7
        have HP := Lib.hid (HP.out.step S_w7)
        have BA := Lib.hid (BA.out.trans (S_w7.mono BA.out.size))
        have HUw3 := Lib.hid (HUw3.out.step S_w7)
        have HCw3 := Lib.hid (HCw3.out.step S_w7)
        have HX := Lib.hid (HX.out.step S_w7)
        have HY := Lib.hid (HY.out.step S_w7)
        have z_w7 := S_w7.size
        have y0 := HY.out.1 0 _ rfl
        have yf := HY.out.2.1 0
        have yz := HY.out.2.2
        refine wpAnyH_take (i := 12) (v := ?_) rfl (by kernel_rfl) (by kernel_rfl) (by kernel_rfl) (fun _ _ _ h => h) (Or.inl ⟨by rfl, ?_⟩) (by assumption) ?_
        rotate_left
        · intro w hSw
          (try dsimp only at hSw)
          go_simp
          try with_reducible rfl
        simp only [Act.put, List.setIfInBounds_toArray, List.set_cons_zero, List.set_cons_succ]
        refine wpAnyH_ready (rs := [13]) (by kernel_rfl) (by simp) ?_
        refine AllReadyH.cons rfl (fun K hK => ?_) ?_
        · go_simp
          refine hK.out _ _ ((set_far _ _ _ _ (fun e => by have e2 : Bw5 = Bw4 := congrArg Addr.block e; omega)).trans hHeld) (fun hHeld => ?_)
          clear hK
          refine wpAnyH_done (by kernel_rfl) ?_ _
          clear y0 yf yz SSS
          obtain ⟨B9, hB9⟩ : ∃ x, x = w5.heap.size := ⟨_, rfl⟩
          have h59 : Bw5 < B9 := by rw [hB9]; exact zw5
          rw [← hB9] at HO7
          obtain ⟨w8, hw8⟩ : ∃ X, X = w7.setCell ⟨Bw5, 0, none⟩ (.slice A7 vs.length c7) := ⟨_, rfl⟩
          have HP := Lib.hid (show Bx w8 _ _ by rw [hw8]; exact HP.out.farC (by show w.heap.size ≠ Bw5; omega) _)
          have HX := Lib.hid (show Bx w8 _ _ by rw [hw8]; exact HX.out.farC (by show Bw4 ≠ Bw5; omega) _)
          have HY := Lib.hid (show Bx w8 Bw5 [.slice A7 vs.length c7, .int .i64 M, .slice C cs.length cc] by rw [hw8]; exact HY.out.setAt (i := 0) (by simp) _)
          have BA := Lib.hid (show Below w.heap.size w w8 by rw [hw8]; exact BA.out.setCell (by show w.heap.size ≤ Bw5; omega) _)
          have HUw3 := Lib.hid (show SlR w8 (fun x => x < Bw4) _ _ _ _ by rw [hw8]; exact HUw3.out.keep (Kp.of_grown (grownBy_set w7 ⟨Bw5, 0, none⟩ _) (by show ¬ (Bw5 < Bw4); omega)))
          have HCw3 := Lib.hid (show SlR w8 (fun x => x < Bw4) _ _ _ _ by rw [hw8]; exact HCw3.out.keep (Kp.of_grown (grownBy_set w7 ⟨Bw5, 0, none⟩ _) (by show ¬ (Bw5 < Bw4); omega)))
          have HV := Lib.hid (show SlR w8 (fun x => B9 ≤ x) 3 Us.enc ⟨A7, vs.length, c7⟩ vs by rw [hw8]; exact SlR.of_owns Us.enc_len (HO7.out.farS (by show Bw5 < B9; omega) _))
          rw [← hw8]
          clear hw8 hB9 HO7
          have p0 := HP.out.1 0 _ rfl
          have p1 := HP.out.1 1 _ rfl
          have p2 := HP.out.1 2 _ rfl
          have p3 := HP.out.1 3 _ rfl
          have p4 := HP.out.1 4 _ rfl
          have p5 := HP.out.1 5 _ rfl
          have p6 := HP.out.1 6 _ rfl
          have pz := HP.out.2.2
          have x0 := HX.out.1 0 _ rfl
          have x1 := HX.out.1 1 _ rfl
          have x2 := HX.out.1 2 _ rfl
          have xz := HX.out.2.2
          have y0 := HY.out.1 0 _ rfl
          have y1 := HY.out.1 1 _ rfl
          have y2 := HY.out.1 2 _ rfl
          have yz := HY.out.2.2
          go_wp2_with fail
          clear p0 p1 p2 p3 p4 p5 p6 pz
          clear x0 x1 x2 xz
          clear y0 y1 y2 yz
          have hM1 := Lib.hid (hMi.out vs A7 c7 _ BA.out (everyT.of HV.out) hvl)
          rw [HD2.out] at hM1
          refine hM1.out.mono ?_
          rintro e w9 ⟨rfl, hbw9⟩
          have S_w9 : Below w8.heap.size w8 w9 := hbw9
          have HP := Lib.hid (HP.out.step S_w9)
          have HX := Lib.hid (HX.out.step S_w9)
          have HY := Lib.hid (HY.out.step S_w9)
          have BA := Lib.hid (BA.out.trans (S_w9.mono BA.out.size))
          have HUw3 := Lib.hid (HUw3.out.step S_w9)
          have HCw3 := Lib.hid (HCw3.out.step S_w9)
          have HV := Lib.hid (HV.out.step S_w9)
          have z_w9 := S_w9.size
          have p0 := HP.out.1 0 _ rfl
          have p1 := HP.out.1 1 _ rfl
          have p2 := HP.out.1 2 _ rfl
          have p3 := HP.out.1 3 _ rfl
          have p4 := HP.out.1 4 _ rfl
          have p5 := HP.out.1 5 _ rfl
          have p6 := HP.out.1 6 _ rfl
          have pz := HP.out.2.2
          have x0 := HX.out.1 0 _ rfl
          have x1 := HX.out.1 1 _ rfl
          have x2 := HX.out.1 2 _ rfl
          have xz := HX.out.2.2
          have y0 := HY.out.1 0 _ rfl
          have y1 := HY.out.1 1 _ rfl
          have y2 := HY.out.1 2 _ rfl
          have yz := HY.out.2.2
          go_upto_region 12 with fail
          have HA1 : Hid (∀ W, Below w9.heap.size w9 W → Calls Try.prog 17 #[.agg #[.string p.nm, .int .i64 p.number, .int .i64 p.uses, .int .i64 p.earn, .int .i64 p.mean.num, .int .i64 p.mean.den, .slice A p.reqs.length c], .slice B l.length b, .slice A7 vs.length c7] W fun e w' => e = .returned (.int .i64 0) ∧ Below w9.heap.size w9 w') := Lib.hid (fun W h => (hAl.out vs A7 c7 W (BA.out.trans (h.mono BA.out.size)) (everyT.of (HV.out.step h)) hvl hll).mono (fun e w' k => ⟨by rw [k.1, HD1.out], h.trans (k.2.mono h.size)⟩))
          obtain ⟨b', o', x', he', _, hk', hc'⟩ := HUw3.out.reads.at_ hil
          injection he' with he'
          injection he' with he1 he2
          subst he1 he2
          obtain rfl : u = x' := Option.some.inj (HUK.out.symm.trans hk')
          have uc2 := hc' 2 _ rfl
          have ucz : ub < w9.heap.size := by have := HX.out.2.2; omega
          have hws : IntKind.i64.wrap (M + u.credits) = M + u.credits := by rw [IntKind.wrap_i64]; omega
          clear hk' hc'
          refine wp_region_below (by kernel_rfl) (by kernel_rfl) ?_
          repeat (first
            | go_big_quiet_skip
            | (go_big_quiet_want
               first
                 | (apply quiet_val
                    focus (
                      intro WC hWC
                      obtain ⟨hcc0, hff0⟩ := bcell hWC
                      go_simp
                      all_goals rfl
                      done)
                    go_simp
                    go_big_quiet_on)
                 | (apply quiet_call
                    focus (
                      intro WC hWC
                      go_simp
                      all_goals (first | rfl | exact ⟨rfl, rfl⟩)
                      done)
                    focus (
                      intro WC hWC
                      with_reducible exact HA1.out WC hWC
                      done)
                    go_simp
                    go_big_quiet_on)))
          refine wpQuiet_nil ?_
          intro w10 hw10
          clear uc2 ucz
          clear p0 p1 p2 p3 p4 p5 p6 pz
          clear x0 x1 x2 xz
          clear y0 y1 y2 yz
          have S_w10 : Below w9.heap.size w9 w10 := hw10
          have HP := Lib.hid (HP.out.step S_w10)
          have HX := Lib.hid (HX.out.step S_w10)
          have HY := Lib.hid (HY.out.step S_w10)
          have BA := Lib.hid (BA.out.trans (S_w10.mono BA.out.size))
          have HUw3 := Lib.hid (HUw3.out.step S_w10)
          have HCw3 := Lib.hid (HCw3.out.step S_w10)
          have HV := Lib.hid (HV.out.step S_w10)
          have z_w10 := S_w10.size
          have y1 := HY.out.1 1 _ rfl
          have yf := HY.out.2.1 1
          have yz := HY.out.2.2
          go_upto_region 15 with fail
          obtain ⟨w11, hw11⟩ : ∃ X, X = w10.setCell ⟨Bw5, 1, none⟩ (.int .i64 (M + u.credits)) := ⟨_, rfl⟩
          have HP := Lib.hid (show Bx w11 _ _ by rw [hw11]; exact HP.out.farC (by show w.heap.size ≠ Bw5; omega) _)
          have HY := Lib.hid (show Bx w11 Bw5 [.slice A7 vs.length c7, .int .i64 (M + u.credits), .slice C cs.length cc] by rw [hw11]; exact HY.out.setAt (i := 1) (by simp) _)
          have BA := Lib.hid (show Below w.heap.size w w11 by rw [hw11]; exact BA.out.setCell (by show w.heap.size ≤ Bw5; omega) _)
          have HCw3 := Lib.hid (show SlR w11 (fun x => x < Bw4) _ _ _ _ by rw [hw11]; exact HCw3.out.keep (Kp.of_grown (grownBy_set w10 ⟨Bw5, 1, none⟩ _) (by show ¬ (Bw5 < Bw4); omega)))
          have HV := Lib.hid (show SlR w11 (fun x => B9 ≤ x) 3 Us.enc ⟨A7, vs.length, c7⟩ vs by rw [hw11]; exact HV.out.keep (Kp.of_grown (grownBy_set w10 ⟨Bw5, 1, none⟩ _) (by show ¬ (B9 ≤ Bw5); omega)))
          rw [← hw11]
          clear hw11 y1 yf yz HX HUw3
          have hC1 := Lib.hid (hCk.out hll vs A7 c7 (M + u.credits) cs C cc _ BA.out (everyT.of HV.out) (everyT.of HCw3.out) hvl)
          rw [HD3.out] at hC1
          have p0 := HP.out.1 0 _ rfl
          have p1 := HP.out.1 1 _ rfl
          have p2 := HP.out.1 2 _ rfl
          have p3 := HP.out.1 3 _ rfl
          have p4 := HP.out.1 4 _ rfl
          have p5 := HP.out.1 5 _ rfl
          have p6 := HP.out.1 6 _ rfl
          have pz := HP.out.2.2
          have y0 := HY.out.1 0 _ rfl
          have y1 := HY.out.1 1 _ rfl
          have y2 := HY.out.1 2 _ rfl
          have yz := HY.out.2.2
          go_wp2_with fail
          clear p0 p1 p2 p3 p4 p5 p6 pz
          clear y0 y1 y2 yz
          refine hC1.out.mono ?_
          rintro e w12 ⟨rfl, hbw12⟩
          have S_w12 : Below w11.heap.size w11 w12 := hbw12
          have HP := Lib.hid (HP.out.step S_w12)
          have HY := Lib.hid (HY.out.step S_w12)
          have BA := Lib.hid (BA.out.trans (S_w12.mono BA.out.size))
          have HCw3 := Lib.hid (HCw3.out.step S_w12)
          have HV := Lib.hid (HV.out.step S_w12)
          have z_w12 := S_w12.size
          go_wp2_with fail
          go_ret
          exact ⟨rfl, BA.out⟩
        exact AllReadyH.nil
      exact AllReadyH.nil
    exact AllReadyH.nil
  exact AllReadyH.nil
theorem ProofDropped_any {w : World} (x : Pg × Sl) (hx : Rqs w everyT x.2 x.1.reqs ∧ x.1.mean.i64) (l : List At) (B : Option Addr) (b : Nat) (h1 : Reads w w.heap.size B 5 At.enc l) (q1 : ∀ y ∈ l, y.ok) (c1 : l.length ≤ b) (m1 : b ≤ maxLen) (n1 : B = none → b = 0) (n : Int) (hn : (Lit.int .u64 n).wf = true) :
    Calls Try.prog 10 #[pgV x.1 x.2, .slice B l.length b, .int .u64 n] w fun e w' => e = .returned (.bool true) ∧ Below w.heap.size w w' := by
  have h : 0 ≤ n ∧ n < 18446744073709551616 := by
    have := Go.bounds_u64 hn
    omega
  obtain ⟨m, rfl⟩ : ∃ m : Nat, n = (m : Int) := ⟨n.toNat, by omega⟩
  exact ProofDropped_walk x.1 x.2 l B b m h.2 w hx.1 hx.2 (slr_of h1 c1 m1 n1)
end Go.Proofs.Ytgimpbcdgfkdmaa
