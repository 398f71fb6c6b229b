/- The walks of Missing and its reference. -/
import Derived.Test.YtgimpbcdgfkdmaaProE
import Derived.Deep.Cut
namespace Go.Proofs.Ytgimpbcdgfkdmaa
open Go.RowKit Go.Shelf
set_option linter.unusedSimpArgs false
set_option linter.unusedVariables false

theorem sumL_take {xs : List Int} {k : Nat} (h : k < xs.length) : sumL (xs.take (k + 1)) = sumL (xs.take k) + xs.getD k 0 := by
  rw [List.take_succ_eq_append_getElem h, sumL_snoc, List.getD_eq_getElem?_getD, List.getElem?_eq_getElem h]; rfl
theorem rest_mem {qs : List Rq} (hq : ∀ q ∈ qs, 1 ≤ q.credits ∧ q.credits ≤ 10000) {pre : List Us} (h : okMgo qs [] pre = true) : ∀ x ∈ restR qs pre, 0 ≤ x ∧ x ≤ 10000 := by
  intro x hx
  simp only [restR, List.mem_map, List.mem_range] at hx
  obtain ⟨k, hk, rfl⟩ := hx
  obtain ⟨a, b, _, _⟩ := rest_bd hq h hk
  exact ⟨a, b⟩

set_option maxRecDepth 100000 in
set_option maxHeartbeats 8000000 in
theorem Missing_any {P : Nat → Prop} (p : Pg) (s : Sl) (us : List Us) (D : Option Addr) (d : Nat) (w : World) (hr : Rqs w P s p.reqs) (hi : p.mean.i64) (hx : Reads w w.heap.size D 3 Us.enc us) (hl : us.length ≤ 9223372036854775807) :
    Calls Try.prog 13 #[pgV p s, .slice D us.length d] w fun e w' => e = .returned (.tuple #[.int .i64 (missP p us).1, .int .i64 (missP p us).2]) ∧ Below w.heap.size w w' := by
  have hn := hr.len
  have HR := Lib.hid hr
  have HX := Lib.hid hx
  have hC := Lib.hid (fun W (h : Below w.heap.size w W) => dgCheck_any p s W (hr.step h) hi)
  obtain ⟨A, n, c⟩ := s
  simp only at hn
  subst hn
  clear hr hx
  obtain ⟨E1, E2, hE⟩ : ∃ a b, missP p us = (a, b) := ⟨_, _, rfl⟩
  rw [hE]
  have HE := Lib.hid hE
  clear hE
  unfold pgV at hC ⊢
  simp only at hC ⊢
  by_cases h0 : goodP p = true
  rotate_left
  · rw [checkP_no h0] at hC
    have hE : missP p us = (0, 190) := by unfold missP; rw [checkP_no h0]; rfl
    rw [HE.out] at hE
    obtain ⟨rfl, rfl⟩ := Prod.mk.inj hE
    clear hE h0 HE
    go_enter Try.func13, Try.ntmps13
    go_wp2_with fail
    refine (hC.out _ ((Below.refl _ _).alloc (Nat.le_refl _) _)).mono ?_
    rintro e w2 ⟨rfl, hb2⟩
    have HBE : Hid (Below w.heap.size w w2) := Lib.hid (((Below.refl _ _).alloc (Nat.le_refl _) _).trans (hb2.mono (by simp)))
    clear hb2
    go_wp2_with fail
    go_ret2
    exact ⟨rfl, HBE.out⟩
  rw [checkP_ok h0] at hC
  have HG := Lib.hid h0
  obtain ⟨hcr, hlen, _, _⟩ := good_credits h0
  have HCR := Lib.hid hcr
  have HEE : Hid ((E1, E2) = if okMgo p.reqs [] us then (totR p.reqs - usT us, 0) else (0, 200)) := Lib.hid (by rw [← HE.out]; unfold missP; rw [checkP_ok h0]; rfl)
  have hmk := run_make_ints p.reqs.length (by omega)
  clear h0 hcr HE
  go_enter Try.func13, Try.ntmps13
  go_wp2_with fail
  refine (hC.out _ ((Below.refl _ _).alloc (Nat.le_refl _) _)).mono ?_
  rintro e w2 ⟨rfl, hb2⟩
  have hbx := (Bx.new w (pgC p ⟨A, p.reqs.length, c⟩) 26).step hb2
  have hbe : Below w.heap.size w w2 := ((Below.refl _ _).alloc (Nat.le_refl _) _).trans (hb2.mono (by simp))
  have p6 := hbx.1 6 _ rfl
  have pz := hbx.2.2
  have HBX := Lib.hid hbx
  have HBE := Lib.hid hbe
  clear hbx hbe hb2
  generalize hzs : ((List.replicate p.reqs.length (0 : Int)).map (Value.int .i64)).toArray = zs at hmk
  have HZS := Lib.hid hzs
  clear hzs
  go_wp2_with fail
  have hf0 : FlAt (w2.alloc (.cells zs 3)) w2.heap.size (fillR p.reqs 0) := by rw [fillR_zero, ← HZS.out]; exact FlAt.made _ _
  have hb3 : Below w2.heap.size w2 (w2.alloc (.cells zs 3)) := (Below.refl _ _).alloc (Nat.le_refl _) _
  obtain ⟨w3, hw3⟩ : ∃ X, X = w2.alloc (.cells zs 3) := ⟨_, rfl⟩
  rw [← hw3] at hf0 hb3 ⊢
  obtain ⟨F, hF⟩ : ∃ F, F = w2.heap.size := ⟨_, rfl⟩
  rw [← hF] at hf0 ⊢
  have hFl : w2.heap.size ≤ F := by omega
  clear hw3 hF hmk HZS
  have HF0 := Lib.hid hf0
  have HB3 := Lib.hid hb3
  have hz3 := hb3.size
  clear hf0 hb3
  go_loopw [25] (fun i wr => ∃ k : Nat, k ≤ p.reqs.length ∧ i = .int .i64 k ∧ FlAt wr F (fillR p.reqs k) ∧ Below w2.heap.size w2 wr) (fun i _ => p.reqs.length - (intOf i).toNat)
  case atStart => exact ⟨0, Nat.zero_le _, rfl, HF0.out, HB3.out⟩
  case round =>
    obtain ⟨k, hk, rfl, hfl, hB⟩ := hrel
    have hbx := HBX.out.step hB
    have p6 := hbx.1 6 _ rfl
    have pz := hbx.2.2
    have hBE2 : Below w.heap.size w wr := HBE.out.trans (hB.mono HBE.out.size)
    have hflt := hfl.lt
    have HB := Lib.hid hB
    by_cases hlt : k < p.reqs.length
    · obtain ⟨bb, off, q, nm, ns, f, ha, hbb, hxk, hq, c0, c1, c2, c3, c4, c5⟩ := (HR.out.step hBE2).at_ hlt
      simp only at ha
      subst ha
      have hb4 : Below w2.heap.size w2 (wr.setCell ⟨F, k, none⟩ (.int .i64 q.credits)) := hB.setCell hFl _
      have hf4 := hfl.set k q.credits
      rw [fillR_set p.reqs hxk] at hf4
      have f1 := hfl.cell (i := k) (by rw [fillR_len]; exact hlt)
      have f2 := hfl.free k
      have hset := Lib.hid (hf4.alloc (.cells #[.string nm, .int .i64 q.credits, .int .i64 q.grade, .bool q.home, .slice ns.a ns.n ns.c, .slice f.a f.n f.c] 57))
      have hbs := Lib.hid (hb4.alloc hb4.size (.cells #[.string nm, .int .i64 q.credits, .int .i64 q.grade, .bool q.home, .slice ns.a ns.n ns.c, .slice f.a f.n f.c] 57))
      clear hB hBE2 hbx hfl hb4 hf4 hxk hq
      go_wp2_with fail
      go_roundw
      case rel => exact ⟨k + 1, by omega, by go_num, hset.out, hbs.out⟩
      case measure => simp [intOf]; omega
    · obtain rfl : k = p.reqs.length := by omega
      have hfl2 : FlAt wr F (restR p.reqs []) := by rw [← fillR_all]; exact hfl
      have HFL := Lib.hid hfl2
      clear hfl hfl2 hB hBE2 hbx hlt
      go_wp2_with fail
      go_loopw [4, 38] (fun v4 i wr => ∃ k : Nat, k ≤ us.length ∧ i = .int .i64 k ∧ v4 = .int .i64 0 ∧ FlAt wr F (restR p.reqs (us.take k)) ∧ okMgo p.reqs [] (us.take k) = true ∧ Below w2.heap.size w2 wr) (fun _ i _ => us.length - (intOf i).toNat)
      case atStart => exact ⟨0, Nat.zero_le _, rfl, rfl, HFL.out, rfl, HB.out⟩
      case round =>
        clear p6 pz hk HFL HB
        obtain ⟨k, hk, rfl, rfl, hfl, hok, hB⟩ := hrel
        have HOK := Lib.hid hok
        have hBE2 : Below w.heap.size w wr := HBE.out.trans (hB.mono HBE.out.size)
        have hflt := hfl.lt
        have HB := Lib.hid hB
        have HFL := Lib.hid hfl
        by_cases hlt : k < us.length
        · obtain ⟨bd, od, u, rfl, hbd, hxk, hc⟩ := (HX.out.below hBE2).at_ hlt
          obtain ⟨ua, ur, uc⟩ := u
          have d0 := hc 0 _ rfl
          have d1 := hc 1 _ rfl
          have d2 := hc 2 _ rfl
          simp only [Nat.add_zero] at d0
          have hbd2 : bd < wr.heap.size := by have := hBE2.size; omega
          have HXK := Lib.hid hxk
          have HNO : Hid (okM p.reqs (us.take k) ⟨ua, ur, uc⟩ = false → (E1, E2) = (0, 200)) := Lib.hid (fun h => by
            rw [HEE.out, if_neg]
            have e := okMgo_split p.reqs (us.take k) (us.drop k) []
            rw [List.take_append_drop, take_drop_at HXK.out] at e
            rw [e]
            simp [okMgo, h])
          clear hc hxk hfl hok
          cases t1 : decide (ur < 0)
          rotate_left
          · obtain ⟨rfl, rfl⟩ := Prod.mk.inj (HNO.out (by cases h : okM p.reqs (us.take k) ⟨ua, ur, uc⟩; rfl; have := (okM_iff _ _ _).1 h; simp at t1 this; omega))
            have HBW := Lib.hid hBE2
            clear hB hBE2 HNO HEE
            go_wp2_with fail
            go_quiet (fail)
            go_wp2_with fail
            go_ret2
            exact ⟨rfl, below_drewN (HBW.out.alloc HBW.out.size _) _⟩
          obtain ⟨kq, rfl⟩ : ∃ m : Nat, ur = m := ⟨ur.toNat, by simp at t1; omega⟩
          clear t1
          have t1 : decide ((kq : Int) < 0) = false := by simp
          cases t2 : decide ((p.reqs.length : Int) ≤ (kq : Int))
          rotate_left
          · obtain ⟨rfl, rfl⟩ := Prod.mk.inj (HNO.out (by cases h : okM p.reqs (us.take k) ⟨ua, kq, uc⟩; rfl; have := (okM_iff _ _ _).1 h; simp at t2 this; omega))
            have t2' : decide (p.reqs.length ≤ kq) = true := by simp at t2 ⊢; omega
            have HBW := Lib.hid hBE2
            clear hB hBE2 HNO HEE
            go_wp2_with fail
            go_quiet (fail)
            go_wp2_with fail
            go_ret2
            exact ⟨rfl, below_drewN (HBW.out.alloc HBW.out.size _) _⟩
          have hkq : kq < p.reqs.length := by simp at t2; omega
          have t2' : decide (p.reqs.length ≤ kq) = false := by simp; omega
          have f1 := HFL.out.cell (i := kq) (by rw [restR_len]; exact hkq)
          have f2 := HFL.out.free kq
          have hbds := rest_bd HCR.out HOK.out hkq
          rw [restR_at _ _ hkq] at f1
          obtain ⟨z, hz⟩ : ∃ z, z = (p.reqs.getD kq default).credits - usR kq (us.take k) := ⟨_, rfl⟩
          rw [← hz] at f1 hbds
          have HZ := Lib.hid hz
          obtain ⟨z0, z1, _, _⟩ := hbds
          clear hz
          cases t3 : decide (uc < 1)
          rotate_left
          · obtain ⟨rfl, rfl⟩ := Prod.mk.inj (HNO.out (by cases h : okM p.reqs (us.take k) ⟨ua, kq, uc⟩; rfl; have := (okM_iff _ _ _).1 h; simp only [Int.toNat_natCast] at this; simp at t3; omega))
            have HBW := Lib.hid hBE2
            clear hB hBE2 HNO HEE
            go_wp2_with fail
            go_quiet (fail)
            go_wp2_with fail
            go_ret2
            exact ⟨rfl, below_drewN (HBW.out.alloc HBW.out.size _) _⟩
          cases t4 : decide (z < uc)
          rotate_left
          · obtain ⟨rfl, rfl⟩ := Prod.mk.inj (HNO.out (by cases h : okM p.reqs (us.take k) ⟨ua, kq, uc⟩; rfl; have := (okM_iff _ _ _).1 h; have hz := HZ.out; simp only [Int.toNat_natCast] at this; simp at t4; omega))
            have HBW := Lib.hid hBE2
            clear hB hBE2 HNO HEE
            go_wp2_with fail
            go_quiet (fail)
            go_wp2_with fail
            go_ret2
            exact ⟨rfl, below_drewN (HBW.out.alloc HBW.out.size _) _⟩
          have hu1 : 1 ≤ uc := by simp at t3; omega
          have hu2 : uc ≤ z := by simp at t4; omega
          have HYES : Hid (okMgo p.reqs [] (us.take (k + 1)) = true) := Lib.hid (by
            rw [take_snoc_of HXK.out, okMgo_split, HOK.out]
            have e : okM p.reqs (us.take k) ⟨ua, kq, uc⟩ = true := (okM_iff _ _ _).2 ⟨by simp, by simpa using hkq, hu1, by simp only [Int.toNat_natCast]; rw [← HZ.out]; exact hu2⟩
            simp [okMgo, e])
          have HSET : Hid (∀ W : World, FlAt W F (restR p.reqs (us.take k)) → FlAt (W.setCell ⟨F, kq, none⟩ (.int .i64 (z - uc))) F (restR p.reqs (us.take (k + 1)))) := Lib.hid (fun W h => by
            have := h.set kq (z - uc)
            rwa [HZ.out, restR_set p.reqs (us.take k) ⟨ua, kq, uc⟩ rfl hkq, ← HZ.out, ← take_snoc_of HXK.out] at this)
          have HFA := Lib.hid (HFL.out.alloc (.cells #[.int .i64 ua, .int .i64 kq, .int .i64 uc] 51))
          have HB4 := Lib.hid (hB.alloc hB.size (.cells #[.int .i64 ua, .int .i64 kq, .int .i64 uc] 51))
          clear hB hBE2 HNO HZ
          go_wp2_with fail
          go_quiet (fail)
          go_upto_region 15 with fail
          refine wp_region_tail 9 (by kernel_rfl) (by kernel_rfl) ?_
          simp only [List.take_succ_cons, List.take_zero, List.drop_succ_cons, List.drop_zero]
          repeat still_step
          refine wpStill_nil ?_
          go_wp2_with fail
          go_roundw
          case rel => exact ⟨k + 1, by omega, by go_num, rfl, HSET.out _ HFA.out, HYES.out, (below_drewN HB4.out _).setCell hFl _⟩
          case measure => simp [intOf]; omega
        · obtain rfl : k = us.length := by omega
          have hEE := HEE.out
          rw [List.take_length] at hok hfl
          rw [if_pos hok] at hEE
          obtain ⟨rfl, rfl⟩ := Prod.mk.inj hEE
          have HMEM := Lib.hid (rest_mem HCR.out hok)
          have hsum : sumL (restR p.reqs us) = totR p.reqs - usT us := by
            have := rest_total p.reqs us [] hok
            rw [List.nil_append, rest_nil_total] at this
            exact this
          obtain ⟨xs, hxs⟩ : ∃ xs, xs = restR p.reqs us := ⟨_, rfl⟩
          have hxl : xs.length = p.reqs.length := by rw [hxs, restR_len]
          rw [← hxs] at hfl HMEM hsum
          have HF := Lib.hid hfl
          have HBW := Lib.hid hBE2
          have HXL := Lib.hid hxl
          have HSUM := Lib.hid hsum
          clear hxs hxl hsum hEE HEE hfl hok hB hBE2 hlt HFL HOK HB
          go_wp2_with fail
          obtain ⟨wo, hwo⟩ : ∃ X, X = wr := ⟨_, rfl⟩
          subst hwo
          go_loopw [4, 79] (fun v i wr => ∃ k : Nat, k ≤ p.reqs.length ∧ i = .int .i64 k ∧ v = .int .i64 (sumL (xs.take k)) ∧ wr = wo) (fun _ i _ => p.reqs.length - (intOf i).toNat)
          case atStart => exact ⟨0, Nat.zero_le _, rfl, rfl, rfl⟩
          case round =>
            obtain ⟨k, hk, rfl, rfl, rfl⟩ := hrel
            obtain ⟨sa, sb⟩ := sumL_le (xs.take k) 10000 (fun x hx => HMEM.out x (List.mem_of_mem_take hx))
            have tl : (xs.take k).length ≤ k := List.length_take_le _ _
            obtain ⟨T, hT⟩ : ∃ T, T = sumL (xs.take k) := ⟨_, rfl⟩
            rw [← hT] at sa sb ⊢
            have htb : T ≤ 640000 := by omega
            have HT := Lib.hid hT
            clear hT sb tl
            have hflt := HF.out.lt
            by_cases hlt : k < p.reqs.length
            · have f1 := HF.out.cell (i := k) (by rw [HXL.out]; exact hlt)
              obtain ⟨z, hz⟩ : ∃ z, z = xs.getD k 0 := ⟨_, rfl⟩
              rw [← hz] at f1
              have HS : Hid (sumL (xs.take (k + 1)) = T + z) := Lib.hid (by rw [sumL_take (by rw [HXL.out]; exact hlt), ← HT.out, hz])
              have hzb := HMEM.out z (by rw [hz, List.getD_eq_getElem?_getD, List.getElem?_eq_getElem (by rw [HXL.out]; exact hlt)]; exact List.getElem_mem _)
              obtain ⟨zb1, zb2⟩ := hzb
              clear hz
              go_wp2_with fail
              go_roundw
              case rel => exact ⟨k + 1, by omega, by go_num, by rw [HS.out], by first | rfl | trivial⟩
              case measure => simp [intOf]; omega
            · obtain rfl : k = p.reqs.length := by omega
              have hTE : T = totR p.reqs - usT us := by rw [HT.out, ← HXL.out, List.take_length]; exact HSUM.out
              subst hTE
              go_wp2_with fail
              go_ret2
              exact ⟨rfl, HBW.out⟩

end Go.Proofs.Ytgimpbcdgfkdmaa
