/- The walk of the reference's Missing. -/
import Derived.Test.YtgimpbcdgfkdmaaProF
namespace Go.Proofs.Ytgimpbcdgfkdmaa
open Go.RowKit Go.Shelf
set_option linter.unusedSimpArgs false
set_option linter.unusedVariables false

/-- what is used of each requirement -/
def usedR (qs : List Rq) (pre : List Us) : List Int := (List.range qs.length).map fun (k : Nat) => usR k pre
theorem usedR_len (qs : List Rq) (pre : List Us) : (usedR qs pre).length = qs.length := by simp [usedR]
theorem usedR_at (qs : List Rq) (pre : List Us) {k : Nat} (h : k < qs.length) : (usedR qs pre).getD k 0 = usR k pre := by
  simp [usedR, List.getD_eq_getElem?_getD, List.getElem?_range h]
theorem usedR_set (qs : List Rq) (pre : List Us) (u : Us) {k : Nat} (hk : u.req = k) (h : k < qs.length) : (usedR qs pre).set k (usR k pre + u.credits) = usedR qs (pre ++ [u]) := by
  refine list_ext_getD (by simp [usedR_len]) (fun j hj => ?_)
  rw [List.length_set, usedR_len] at hj
  rw [getD_set _ _ _ _ (by rw [usedR_len]; exact h), usedR_at qs pre hj, usedR_at qs (pre ++ [u]) hj, usR_snoc]
  by_cases e : k = j
  · subst e; rw [if_pos rfl, if_pos hk]
  · rw [if_neg e, if_neg (by omega)]; omega
theorem usedR_nil (qs : List Rq) : usedR qs [] = List.replicate qs.length 0 := by
  refine list_ext_getD (by simp [usedR]) (fun j hj => ?_)
  rw [usedR_len] at hj
  rw [usedR_at _ _ hj]
  simp [usR, List.getD_eq_getElem?_getD, List.getElem?_replicate, hj]
theorem tot_bd {qs : List Rq} (hq : ∀ q ∈ qs, 1 ≤ q.credits ∧ q.credits ≤ 10000) (hl : qs.length ≤ 64) {us : List Us} (h : okMgo qs [] us = true) : 0 ≤ totR qs - usT us ∧ totR qs - usT us ≤ 640000 := by
  have h1 := rest_total qs us [] h
  rw [List.nil_append, rest_nil_total] at h1
  rw [← h1]
  obtain ⟨a, b⟩ := sumL_le _ 10000 (rest_mem hq h)
  rw [restR_len] at b
  omega

set_option maxRecDepth 100000 in
set_option maxHeartbeats 8000000 in
theorem RMissing_any {P : Nat → Prop} (p : Pg) (s : Sl) (us : List Us) (D : Option Addr) (d : Nat) (w : World) (hr : Rqs w P s p.reqs) (hi : p.mean.i64) (hx : Reads w w.heap.size D 3 Us.enc us) (hl : us.length ≤ 9223372036854775807) :
    Calls Try.prog 14 #[pgV p s, .slice D us.length d] w fun e w' => e = .returned (.tuple #[.int .i64 (missP p us).1, .int .i64 (missP p us).2]) ∧ Below w.heap.size w w' := by
  have hn := hr.len
  have HR := Lib.hid hr
  have HX := Lib.hid hx
  have hC := Lib.hid (fun W (h : Below w.heap.size w W) => RdgCheck_any p s W (hr.step h) hi hr.frlen hr.rlen)
  obtain ⟨A, n, c⟩ := s
  simp only at hn
  subst hn
  clear hr hx
  obtain ⟨E1, E2, hE⟩ : ∃ a b, missP p us = (a, b) := ⟨_, _, rfl⟩
  rw [hE]
  have HE := Lib.hid hE
  clear hE
  unfold pgV at hC ⊢
  simp only at hC ⊢
  by_cases h0 : goodP p = true
  rotate_left
  · rw [checkP_no h0] at hC
    have hE : missP p us = (0, 190) := by unfold missP; rw [checkP_no h0]; rfl
    rw [HE.out] at hE
    obtain ⟨rfl, rfl⟩ := Prod.mk.inj hE
    clear hE h0 HE
    go_enter Try.func14, Try.ntmps14
    go_wp2_with fail
    refine (hC.out _ ((Below.refl _ _).alloc (Nat.le_refl _) _)).mono ?_
    rintro e w2 ⟨rfl, hb2⟩
    have HBE : Hid (Below w.heap.size w w2) := Lib.hid (((Below.refl _ _).alloc (Nat.le_refl _) _).trans (hb2.mono (by simp)))
    clear hb2
    go_wp2_with fail
    go_ret2
    exact ⟨rfl, HBE.out⟩
  rw [checkP_ok h0] at hC
  have HG := Lib.hid h0
  obtain ⟨hcr, hlen, _, _⟩ := good_credits h0
  have HCR := Lib.hid hcr
  have HEE : Hid ((E1, E2) = if okMgo p.reqs [] us then (totR p.reqs - usT us, 0) else (0, 200)) := Lib.hid (by rw [← HE.out]; unfold missP; rw [checkP_ok h0]; rfl)
  have hmk := run_make_ints p.reqs.length (by omega)
  clear h0 hcr HE
  go_enter Try.func14, Try.ntmps14
  go_wp2_with fail
  refine (hC.out _ ((Below.refl _ _).alloc (Nat.le_refl _) _)).mono ?_
  rintro e w2 ⟨rfl, hb2⟩
  have hbx := (Bx.new w (pgC p ⟨A, p.reqs.length, c⟩) 26).step hb2
  have hbe : Below w.heap.size w w2 := ((Below.refl _ _).alloc (Nat.le_refl _) _).trans (hb2.mono (by simp))
  have p0 := hbx.1 0 _ rfl
  have p1 := hbx.1 1 _ rfl
  have p2 := hbx.1 2 _ rfl
  have p3 := hbx.1 3 _ rfl
  have p4 := hbx.1 4 _ rfl
  have p5 := hbx.1 5 _ rfl
  have p6 := hbx.1 6 _ rfl
  have pz := hbx.2.2
  have HBX := Lib.hid hbx
  have HBE := Lib.hid hbe
  clear hbx hbe hb2
  have hT := Lib.hid (fun W (h : Below w.heap.size w W) => Rtotal_any p ⟨A, p.reqs.length, c⟩ W (HR.out.step h) HG.out)
  unfold pgV at hT
  simp only at hT
  generalize hzs : ((List.replicate p.reqs.length (0 : Int)).map (Value.int .i64)).toArray = zs at hmk
  have HZS := Lib.hid hzs
  clear hzs
  go_wp2_with fail
  have hf0 : FlAt (w2.alloc (.cells zs 3)) w2.heap.size (usedR p.reqs []) := by rw [usedR_nil, ← HZS.out]; exact FlAt.made _ _
  have hb3 : Below w2.heap.size w2 (w2.alloc (.cells zs 3)) := (Below.refl _ _).alloc (Nat.le_refl _) _
  obtain ⟨w3, hw3⟩ : ∃ X, X = w2.alloc (.cells zs 3) := ⟨_, rfl⟩
  rw [← hw3] at hf0 hb3 ⊢
  obtain ⟨F, hF⟩ : ∃ F, F = w2.heap.size := ⟨_, rfl⟩
  rw [← hF] at hf0 ⊢
  have hFl : w2.heap.size ≤ F := by omega
  clear hw3 hF hmk HZS p0 p1 p2 p3 p4 p5 p6 pz
  refine (hT.out _ (HBE.out.trans (hb3.mono HBE.out.size))).mono ?_
  rintro e w4 ⟨rfl, hb4⟩
  have HF0 := Lib.hid (hf0.step hb4)
  have HB3 := Lib.hid (hb3.trans (hb4.mono hb3.size))
  have hz3 := HB3.out.size
  clear hf0 hb3 hb4
  go_wp2_with fail
  go_loopw [8, 9] (fun v8 i wr => ∃ k : Nat, k ≤ us.length ∧ i = .int .i64 k ∧ v8 = .int .i64 (totR p.reqs - usT (us.take k)) ∧ FlAt wr F (usedR p.reqs (us.take k)) ∧ okMgo p.reqs [] (us.take k) = true ∧ Below w2.heap.size w2 wr) (fun _ i _ => us.length - (intOf i).toNat)
  case atStart => exact ⟨0, Nat.zero_le _, rfl, by simp [usT], HF0.out, rfl, HB3.out⟩
  case round =>
    clear HF0 HB3
    obtain ⟨k, hk, rfl, rfl, hfl, hok, hB⟩ := hrel
    have hbx := HBX.out.step hB
    have p6 := hbx.1 6 _ rfl
    have pz := hbx.2.2
    clear hbx
    have HOK := Lib.hid hok
    have hBE2 : Below w.heap.size w wr := HBE.out.trans (hB.mono HBE.out.size)
    have hflt := hfl.lt
    have HB := Lib.hid hB
    have HFL := Lib.hid hfl
    obtain ⟨n0, n1⟩ := tot_bd HCR.out hlen hok
    obtain ⟨N, hN⟩ : ∃ N, N = totR p.reqs - usT (us.take k) := ⟨_, rfl⟩
    rw [← hN] at n0 n1 ⊢
    have HN := Lib.hid hN
    clear hN
    by_cases hlt : k < us.length
    · obtain ⟨bd, od, u, rfl, hbd, hxk, hc⟩ := (HX.out.below hBE2).at_ hlt
      obtain ⟨ua, ur, uc⟩ := u
      have d0 := hc 0 _ rfl
      have d1 := hc 1 _ rfl
      have d2 := hc 2 _ rfl
      simp only [Nat.add_zero] at d0
      have hbd2 : bd < wr.heap.size := by have := hBE2.size; omega
      have HXK := Lib.hid hxk
      have hlt2 : decide ((k : Int) < (us.length : Int)) = true := by simpa using hlt
      have HNO : Hid (okM p.reqs (us.take k) ⟨ua, ur, uc⟩ = false → (E1, E2) = (0, 200)) := Lib.hid (fun h => by
        rw [HEE.out, if_neg]
        have e := okMgo_split p.reqs (us.take k) (us.drop k) []
        rw [List.take_append_drop, take_drop_at HXK.out] at e
        rw [e]
        simp [okMgo, h])
      clear hc hxk hfl hok
      cases t1 : decide (ur < 0)
      rotate_left
      · obtain ⟨rfl, rfl⟩ := Prod.mk.inj (HNO.out (by cases h : okM p.reqs (us.take k) ⟨ua, ur, uc⟩; rfl; have := (okM_iff _ _ _).1 h; simp at t1 this; omega))
        have HBW := Lib.hid hBE2
        clear hB hBE2 HNO HEE
        go_wp2_with fail
        go_quiet (fail)
        go_wp2_with fail
        go_ret2
        exact ⟨rfl, below_drewN (HBW.out.alloc HBW.out.size _) _⟩
      obtain ⟨kq, rfl⟩ : ∃ m : Nat, ur = m := ⟨ur.toNat, by simp at t1; omega⟩
      clear t1
      have t1 : decide ((kq : Int) < 0) = false := by simp
      cases t2 : decide ((p.reqs.length : Int) ≤ (kq : Int))
      rotate_left
      · have t2' : decide (p.reqs.length ≤ kq) = true := by simp at t2 ⊢; omega
        obtain ⟨rfl, rfl⟩ := Prod.mk.inj (HNO.out (by cases h : okM p.reqs (us.take k) ⟨ua, kq, uc⟩; rfl; have := (okM_iff _ _ _).1 h; simp only [Int.toNat_natCast] at this; simp at t2; omega))
        have HBW := Lib.hid hBE2
        clear hB hBE2 HNO HEE
        go_wp2_with fail
        go_quiet (fail)
        go_wp2_with fail
        go_ret2
        exact ⟨rfl, below_drewN (HBW.out.alloc HBW.out.size _) _⟩
      have hkq : kq < p.reqs.length := by simp at t2; omega
      have t2' : decide (p.reqs.length ≤ kq) = false := by simp; omega
      cases t3 : decide (uc < 1)
      rotate_left
      · obtain ⟨rfl, rfl⟩ := Prod.mk.inj (HNO.out (by cases h : okM p.reqs (us.take k) ⟨ua, kq, uc⟩; rfl; have := (okM_iff _ _ _).1 h; simp only [Int.toNat_natCast] at this; simp at t3; omega))
        have HBW := Lib.hid hBE2
        clear hB hBE2 HNO HEE
        go_wp2_with fail
        go_quiet (fail)
        go_wp2_with fail
        go_ret2
        exact ⟨rfl, below_drewN (HBW.out.alloc HBW.out.size _) _⟩
      obtain ⟨bb, off, q, nm, ns, f, ha, hbb, hxq, hq, c0, c1', c2, c3, c4, c5⟩ := HR.out.at_ hkq
      simp only at ha
      subst ha
      have c1 := (hBE2.cell (p := ⟨bb, off + kq * 6 + 1, none⟩) hbb).trans c1'
      have hbbr : bb < wr.heap.size := by have := hBE2.size; omega
      have hbne : bb ≠ F := by have := HBE.out.size; omega
      have hwF : w.heap.size ≠ F := by have := HBX.out.2.2; omega
      clear c1'
      have hqd : p.reqs.getD kq default = q := getD_some hxq
      have HQD := Lib.hid hqd
      have f1 := HFL.out.cell (i := kq) (by rw [usedR_len]; exact hkq)
      have f2 := HFL.out.free kq
      have hbds := rest_bd HCR.out HOK.out hkq
      rw [usedR_at _ _ hkq] at f1
      rw [hqd] at hbds
      obtain ⟨z, hz⟩ : ∃ z, z = usR kq (us.take k) := ⟨_, rfl⟩
      rw [← hz] at f1 hbds
      have HZ := Lib.hid hz
      obtain ⟨z0, z1, z2, z3⟩ := hbds
      clear hz hq hxq hqd c0 c2 c3 c4 c5
      cases t4 : decide (q.credits < uc)
      rotate_left
      · obtain ⟨rfl, rfl⟩ := Prod.mk.inj (HNO.out (by cases h : okM p.reqs (us.take k) ⟨ua, kq, uc⟩; rfl; have := (okM_iff _ _ _).1 h; simp only [Int.toNat_natCast] at this; have hz := HZ.out; rw [HQD.out] at this; simp at t4; omega))
        have HBW := Lib.hid hBE2
        clear hB hBE2 HNO HEE
        go_wp2_with fail
        go_quiet (fail)
        go_wp2_with fail
        go_ret2
        exact ⟨rfl, below_drewN (HBW.out.alloc HBW.out.size _) _⟩
      have HSET : Hid (∀ W : World, FlAt W F (usedR p.reqs (us.take k)) → FlAt (W.setCell ⟨F, kq, none⟩ (.int .i64 (z + uc))) F (usedR p.reqs (us.take (k + 1)))) := Lib.hid (fun W h => by
        have := h.set kq (z + uc)
        rwa [HZ.out, usedR_set p.reqs (us.take k) ⟨ua, kq, uc⟩ rfl hkq, ← HZ.out, ← take_snoc_of HXK.out] at this)
      have HFA := Lib.hid (HFL.out.alloc (.cells #[.int .i64 ua, .int .i64 kq, .int .i64 uc] 51))
      have HB4 := Lib.hid (hB.alloc hB.size (.cells #[.int .i64 ua, .int .i64 kq, .int .i64 uc] 51))
      have hu1 : 1 ≤ uc := by simp at t3; omega
      have hu2 : uc ≤ q.credits := by simp at t4; omega
      cases t5 : decide (q.credits < z + uc)
      rotate_left
      · obtain ⟨rfl, rfl⟩ := Prod.mk.inj (HNO.out (by cases h : okM p.reqs (us.take k) ⟨ua, kq, uc⟩; rfl; have := (okM_iff _ _ _).1 h; simp only [Int.toNat_natCast] at this; have hz := HZ.out; rw [HQD.out] at this; simp at t5; omega))
        have HBW := Lib.hid hBE2
        clear hB hBE2 HNO HEE
        go_wp2_with fail
        go_quiet (fail)
        go_upto_region 12 with fail
        refine wp_region_tail 12 (by kernel_rfl) (by kernel_rfl) ?_
        simp only [List.take_succ_cons, List.take_zero, List.drop_succ_cons, List.drop_zero]
        repeat still_step
        refine wpStill_nil ?_
        go_upto_region 13 with fail
        go_quiet (fail)
        go_wp2_with fail
        go_ret2
        exact ⟨rfl, HBE.out.trans ((below_drewN ((below_drewN HB4.out _).setCell hFl _) _).mono HBE.out.size)⟩
      have HYES : Hid (okMgo p.reqs [] (us.take (k + 1)) = true) := Lib.hid (by
        rw [take_snoc_of HXK.out, okMgo_split, HOK.out]
        have e : okM p.reqs (us.take k) ⟨ua, kq, uc⟩ = true := (okM_iff _ _ _).2 ⟨by simp, by simpa using hkq, hu1, by simp only [Int.toNat_natCast]; rw [← HZ.out, HQD.out]; simp at t5; omega⟩
        simp [okMgo, e])
      have HNN : Hid (totR p.reqs - usT (us.take (k + 1)) = N - uc) := Lib.hid (by rw [take_snoc_of HXK.out, usT_snoc, HN.out]; simp only; omega)
      have hn3 := tot_bd HCR.out hlen HYES.out
      rw [HNN.out] at hn3
      obtain ⟨n3, _⟩ := hn3
      clear hB hBE2 HNO
      go_wp2_with fail
      go_quiet (fail)
      go_upto_region 12 with fail
      refine wp_region_tail 12 (by kernel_rfl) (by kernel_rfl) ?_
      simp only [List.take_succ_cons, List.take_zero, List.drop_succ_cons, List.drop_zero]
      repeat still_step
      refine wpStill_nil ?_
      go_upto_region 13 with fail
      go_quiet (fail)
      go_wp2_with fail
      go_roundw
      case rel => exact ⟨k + 1, by omega, by go_num, by rw [HNN.out], HSET.out _ HFA.out, HYES.out, below_drewN ((below_drewN HB4.out _).setCell hFl _) _⟩
      case measure => simp [intOf]; omega
    · obtain rfl : k = us.length := by omega
      have hEE := HEE.out
      rw [List.take_length] at hok
      rw [if_pos hok] at hEE
      obtain ⟨rfl, rfl⟩ := Prod.mk.inj hEE
      have hNE : N = totR p.reqs - usT us := by rw [HN.out, List.take_length]
      subst hNE
      have HBW := Lib.hid hBE2
      clear hEE HEE hfl hok hB hBE2 HFL HOK
      go_wp2_with fail
      go_ret2
      exact ⟨rfl, HBW.out⟩
end Go.Proofs.Ytgimpbcdgfkdmaa
