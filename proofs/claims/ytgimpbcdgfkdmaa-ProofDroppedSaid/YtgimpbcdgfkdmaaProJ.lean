/- The walk of the reference's Allowed. -/
import Derived.Test.YtgimpbcdgfkdmaaProI
namespace Go.Proofs.Ytgimpbcdgfkdmaa
open Go.RowKit Go.Shelf
set_option linter.unusedSimpArgs false
set_option linter.unusedVariables false

set_option maxRecDepth 100000 in
set_option maxHeartbeats 8000000 in
theorem RAllowed_any {P : Nat → Prop} (p : Pg) (s : Sl) (l : List At) (B : Option Addr) (b : Nat) (us : List Us) (D : Option Addr) (d : Nat) (w : World) (hr : Rqs w P s p.reqs) (hi : p.mean.i64) (hla : Reads w w.heap.size B 5 At.enc l) (hx : Reads w w.heap.size D 3 Us.enc us) (hll : l.length ≤ 1000) (hl : us.length ≤ 100000) :
    Calls Try.prog 18 #[pgV p s, .slice B l.length b, .slice D us.length d] w fun e w' => e = .returned (.int .i64 (allowP p l us)) ∧ Below w.heap.size w w' := by
  have hn := hr.len
  have HR := Lib.hid hr
  have HX := Lib.hid hx
  have HLA := Lib.hid hla
  have hC := Lib.hid (fun W (h : Below w.heap.size w W) => Rasked_any p s l B b W (hr.step h) hi ((hla.below h).more h.size) (by omega))
  obtain ⟨A, n, c⟩ := s
  simp only at hn
  subst hn
  clear hr hx hla
  obtain ⟨E, hE⟩ : ∃ a, allowP p l us = a := ⟨_, rfl⟩
  rw [hE]
  have HE := Lib.hid hE
  clear hE
  unfold pgV at hC ⊢
  simp only at hC ⊢
  by_cases h0 : askedE p l = 0
  rotate_left
  · have hE : allowP p l us = askedE p l := by unfold allowP; rw [if_neg h0]
    rw [HE.out] at hE
    subst hE
    obtain ⟨E, hE⟩ : ∃ a, askedE p l = a := ⟨_, rfl⟩
    rw [hE] at hC h0 ⊢
    have e1 : (E == 0) = false := by simpa using h0
    have e2 : (E != 0) = true := by simpa using h0
    clear hE h0 HE
    go_enter Try.func18, Try.ntmps18
    go_wp2_with fail
    refine (hC.out _ ((Below.refl _ _).alloc (Nat.le_refl _) _)).mono ?_
    rintro e w2 ⟨rfl, hb2⟩
    have HBE : Hid (Below w.heap.size w w2) := Lib.hid (((Below.refl _ _).alloc (Nat.le_refl _) _).trans (hb2.mono (by simp)))
    clear hb2
    go_wp2_with fail
    go_ret
    exact ⟨rfl, HBE.out⟩
  rw [h0] at hC
  obtain ⟨hg, hga⟩ := asked_zero h0
  have HG := Lib.hid hg
  have HGA := Lib.hid hga
  obtain ⟨hcr, hlen, hu1, hu4⟩ := good_credits hg
  have HCR := Lib.hid hcr
  have HEE : Hid (E = if okAgo p l [] us then 0 else 200) := Lib.hid (by rw [← HE.out]; unfold allowP; rw [if_pos h0])
  clear h0 hcr HE hg hga
  have hmk1 := run_make_ints l.length (by omega)
  have hmk2 := run_make_ints p.reqs.length (by omega)
  generalize hzs1 : ((List.replicate l.length (0 : Int)).map (Value.int .i64)).toArray = zs1 at hmk1
  generalize hzs2 : ((List.replicate p.reqs.length (0 : Int)).map (Value.int .i64)).toArray = zs2 at hmk2
  have HZ1 := Lib.hid hzs1
  have HZ2 := Lib.hid hzs2
  clear hzs1 hzs2
  go_enter Try.func18, Try.ntmps18
  go_wp2_with fail
  refine (hC.out _ ((Below.refl _ _).alloc (Nat.le_refl _) _)).mono ?_
  rintro e w2 ⟨rfl, hb2⟩
  have hbx := (Bx.new w (pgC p ⟨A, p.reqs.length, c⟩) 26).step hb2
  have hbe : Below w.heap.size w w2 := ((Below.refl _ _).alloc (Nat.le_refl _) _).trans (hb2.mono (by simp))
  have p6 := hbx.1 6 _ rfl
  have pz := hbx.2.2
  have HBX := Lib.hid hbx
  have HBE := Lib.hid hbe
  clear hbx hbe hb2
  go_wp2_with fail
  have hf1 : FlAt ((w2.alloc (.cells zs1 3)).alloc (.cells zs2 3)) w2.heap.size (usedA l.length []) := by rw [usedA_nil, ← HZ1.out]; exact (FlAt.made _ _).alloc _
  have hf2 : FlAt ((w2.alloc (.cells zs1 3)).alloc (.cells zs2 3)) (w2.heap.size + 1) (usedR p.reqs []) := by
    rw [usedR_nil, ← HZ2.out]
    have := FlAt.made (w2.alloc (.cells zs1 3)) (List.replicate p.reqs.length (0 : Int))
    simpa using this
  have hb3 : Below w2.heap.size w2 ((w2.alloc (.cells zs1 3)).alloc (.cells zs2 3)) := ((Below.refl _ _).alloc (Nat.le_refl _) _).alloc (by simp) _
  obtain ⟨w3, hw3⟩ : ∃ X, X = (w2.alloc (.cells zs1 3)).alloc (.cells zs2 3) := ⟨_, rfl⟩
  rw [← hw3] at hf1 hf2 hb3 ⊢
  obtain ⟨FA, hFA⟩ : ∃ F, F = w2.heap.size := ⟨_, rfl⟩
  have hz2 : w.heap.size < FA := by omega
  have hz3 : w2.heap.size ≤ FA := by omega
  have hwA : w.heap.size ≠ FA := by omega
  rw [← hFA] at hf1 hf2 hb3 ⊢
  obtain ⟨FR, hFR⟩ : ∃ F, F = FA + 1 := ⟨_, rfl⟩
  have hRA : FR ≠ FA := by omega
  have hAR : FA ≠ FR := by omega
  have hFl : FA ≤ FR := by omega
  have hwR : w.heap.size ≠ FR := by omega
  rw [← hFR] at hf2 ⊢
  clear hw3 hFA hFR hmk1 hmk2 HZ1 HZ2 p6
  have HF1 := Lib.hid hf1
  have HF2 := Lib.hid hf2
  have HB3 := Lib.hid hb3
  clear hf1 hf2 hb3
  go_wp2_with fail
  go_loopw [10] (fun i wr => ∃ k : Nat, k ≤ us.length ∧ i = .int .i64 k ∧ FlAt wr FA (usedA l.length (us.take k)) ∧ FlAt wr FR (usedR p.reqs (us.take k)) ∧ okAgo p l [] (us.take k) = true ∧ Below FA w2 wr) (fun i _ => us.length - (intOf i).toNat)
  case atStart => exact ⟨0, Nat.zero_le _, rfl, HF1.out, HF2.out, rfl, HB3.out⟩
  case round =>
    clear HF1 HF2 HB3
    obtain ⟨k, hk, rfl, hf1, hf2, hok, hB⟩ := hrel
    have HF1 := Lib.hid hf1
    have HF2 := Lib.hid hf2
    have HOK := Lib.hid hok
    have hbx := HBX.out.step (hB.mono hz3)
    have HBP := Lib.hid hbx
    have hBE2 : Below w.heap.size w wr := HBE.out.trans ((hB.mono hz3).mono HBE.out.size)
    have HB := Lib.hid hB
    have HBW := Lib.hid hBE2
    have hF1t := hf1.lt
    have hF2t := hf2.lt
    have p6 := hbx.1 6 _ rfl
    have pzr := hbx.2.2
    clear hf1 hf2 hok hbx
    by_cases hlt : k < us.length
    · obtain ⟨bd, od, u, rfl, hbd, hxk, hc⟩ := HX.out.at_ hlt
      obtain ⟨ua, ur, uc⟩ := u
      have d0 := (hBE2.cell (p := ⟨bd, od + k * 3 + 0, none⟩) hbd).trans (hc 0 _ rfl)
      have d1 := (hBE2.cell (p := ⟨bd, od + k * 3 + 1, none⟩) hbd).trans (hc 1 _ rfl)
      have d2 := (hBE2.cell (p := ⟨bd, od + k * 3 + 2, none⟩) hbd).trans (hc 2 _ rfl)
      simp only [Nat.add_zero] at d0
      have hbd2 : bd < wr.heap.size := by have := hBE2.size; omega
      have HXK := Lib.hid hxk
      have hlt2 : decide ((k : Int) < (us.length : Int)) = true := by simpa using hlt
      have HNO : Hid (okA p l (us.take k) ⟨ua, ur, uc⟩ = false → E = 200) := Lib.hid (fun h => by
        rw [HEE.out, if_neg]
        have e := okAgo_split p l (us.take k) (us.drop k) []
        rw [List.take_append_drop, take_drop_at HXK.out] at e
        rw [e]
        simp [okAgo, h])
      clear hc hxk
      cases t1 : decide (ua < 0)
      rotate_left
      · obtain rfl : E = 200 := HNO.out (by cases h : okA p l (us.take k) ⟨ua, ur, uc⟩; rfl; exfalso; obtain ⟨⟨_, _, _, _⟩, ho, ⟨_, _⟩, he, _, _⟩ := (okA_iff _ _ _ _).1 h; simp_all; omega)
        clear HEE HNO hB hBE2
        go_wp2_with fail
        go_quiet (fail)
        go_wp2_with fail
        go_ret
        exact ⟨rfl, below_drewN (HBW.out.alloc HBW.out.size _) _⟩
      obtain ⟨ka, rfl⟩ : ∃ m : Nat, ua = m := ⟨ua.toNat, by simp at t1; omega⟩
      clear t1
      have t1 : decide ((ka : Int) < 0) = false := by simp
      cases t2 : decide (l.length ≤ ka)
      rotate_left
      · obtain rfl : E = 200 := HNO.out (by cases h : okA p l (us.take k) ⟨ka, ur, uc⟩; rfl; exfalso; obtain ⟨⟨_, _, _, _⟩, ho, ⟨_, _⟩, he, _, _⟩ := (okA_iff _ _ _ _).1 h; simp_all; omega)
        clear HEE HNO hB hBE2
        go_wp2_with fail
        go_quiet (fail)
        go_wp2_with fail
        go_ret
        exact ⟨rfl, below_drewN (HBW.out.alloc HBW.out.size _) _⟩
      have hka : ka < l.length := by simp at t2; omega
      cases t3 : decide (ur < 0)
      rotate_left
      · obtain rfl : E = 200 := HNO.out (by cases h : okA p l (us.take k) ⟨ka, ur, uc⟩; rfl; exfalso; obtain ⟨⟨_, _, _, _⟩, ho, ⟨_, _⟩, he, _, _⟩ := (okA_iff _ _ _ _).1 h; simp_all; omega)
        clear HEE HNO hB hBE2
        go_wp2_with fail
        go_quiet (fail)
        go_wp2_with fail
        go_ret
        exact ⟨rfl, below_drewN (HBW.out.alloc HBW.out.size _) _⟩
      obtain ⟨kq, rfl⟩ : ∃ m : Nat, ur = m := ⟨ur.toNat, by simp at t3; omega⟩
      clear t3
      have t3 : decide ((kq : Int) < 0) = false := by simp
      cases t4 : decide (p.reqs.length ≤ kq)
      rotate_left
      · obtain rfl : E = 200 := HNO.out (by cases h : okA p l (us.take k) ⟨ka, kq, uc⟩; rfl; exfalso; obtain ⟨⟨_, _, _, _⟩, ho, ⟨_, _⟩, he, _, _⟩ := (okA_iff _ _ _ _).1 h; simp_all; omega)
        clear HEE HNO hB hBE2
        go_wp2_with fail
        go_quiet (fail)
        go_wp2_with fail
        go_ret
        exact ⟨rfl, below_drewN (HBW.out.alloc HBW.out.size _) _⟩
      have hkq : kq < p.reqs.length := by simp at t4; omega
      obtain ⟨ba, oa, a, hBe, hba, hxa, hca⟩ := HLA.out.at_ hka
      subst hBe
      have hgood := HGA.out a (List.mem_of_getElem? hxa)
      obtain ⟨ac, am, ag, ap, ak⟩ := a
      have a0 := (hBE2.cell (p := ⟨ba, oa + ka * 5 + 0, none⟩) hba).trans (hca 0 _ rfl)
      have a1 := (hBE2.cell (p := ⟨ba, oa + ka * 5 + 1, none⟩) hba).trans (hca 1 _ rfl)
      have a2 := (hBE2.cell (p := ⟨ba, oa + ka * 5 + 2, none⟩) hba).trans (hca 2 _ rfl)
      have a3 := (hBE2.cell (p := ⟨ba, oa + ka * 5 + 3, none⟩) hba).trans (hca 3 _ rfl)
      have a4 := (hBE2.cell (p := ⟨ba, oa + ka * 5 + 4, none⟩) hba).trans (hca 4 _ rfl)
      simp only [Nat.add_zero] at a0
      have hba5 : ba < wr.heap.size := by have := hBE2.size; omega
      obtain ⟨bb, off, q, nm, ns, f, hAe, hbb, hxq, hqf, k0, k1, k2, k3, k4, k5⟩ := HR.out.at_ hkq
      simp only at hAe
      subst hAe
      have c0 := (hBE2.cell (p := ⟨bb, off + kq * 6, none⟩) hbb).trans k0
      have c1 := (hBE2.cell (p := ⟨bb, off + kq * 6 + 1, none⟩) hbb).trans k1
      have c2 := (hBE2.cell (p := ⟨bb, off + kq * 6 + 2, none⟩) hbb).trans k2
      have c3 := (hBE2.cell (p := ⟨bb, off + kq * 6 + 3, none⟩) hbb).trans k3
      have c4 := (hBE2.cell (p := ⟨bb, off + kq * 6 + 4, none⟩) hbb).trans k4
      have c5 := (hBE2.cell (p := ⟨bb, off + kq * 6 + 5, none⟩) hbb).trans k5
      have hbb5 : bb < wr.heap.size := by have := hBE2.size; omega
      have hld : l.getD ka default = ⟨ac, am, ag, ap, ak⟩ := getD_some hxa
      have hqd : p.reqs.getD kq default = q := getD_some hxq
      have HLD := Lib.hid hld
      have HQD := Lib.hid hqd
      have HQF := Lib.hid hqf
      have HGD := Lib.hid (good_at hgood)
      obtain ⟨hq1, hq2⟩ := HCR.out q (List.mem_of_getElem? hxq)
      have hfl := HR.out.frlen q (List.mem_of_getElem? hxq)
      have hbdA : bd ≠ FA := by omega
      have hbdR : bd ≠ FR := by omega
      have hbaA : ba ≠ FA := by omega
      have hbaR : ba ≠ FR := by omega
      have hbbA : bb ≠ FA := by omega
      have hbbR : bb ≠ FR := by omega
      clear hld hqd hqf hgood hca hxa hxq k0 k1 k2 k3 k4 k5
      cases t5 : decide (uc < 1)
      rotate_left
      · obtain rfl : E = 200 := HNO.out (by cases h : okA p l (us.take k) ⟨ka, kq, uc⟩; rfl; exfalso; obtain ⟨_, ho, h3, he, h5, h6⟩ := (okA_iff _ _ _ _).1 h; simp only [Int.toNat_natCast] at h3 he h5 h6; rw [HLD.out] at h3 he h5; rw [HQD.out] at he h6; (try simp only at h3); (try simp only at h5); simp only [decide_eq_true_eq] at t5; omega)
        clear HEE HNO
        clear hB hBE2
        go_wp2_with fail
        go_quiet (fail)
        go_wp2_with fail
        go_ret
        exact ⟨rfl, below_drewN (HBW.out.alloc HBW.out.size _) _⟩
      cases t6 : decide (ak < uc)
      rotate_left
      · obtain rfl : E = 200 := HNO.out (by cases h : okA p l (us.take k) ⟨ka, kq, uc⟩; rfl; exfalso; obtain ⟨_, ho, h3, he, h5, h6⟩ := (okA_iff _ _ _ _).1 h; simp only [Int.toNat_natCast] at h3 he h5 h6; rw [HLD.out] at h3 he h5; rw [HQD.out] at he h6; (try simp only at h3); (try simp only at h5); simp only [decide_eq_true_eq] at t6; omega)
        clear HEE HNO
        clear hB hBE2
        go_wp2_with fail
        go_quiet (fail)
        go_wp2_with fail
        go_ret
        exact ⟨rfl, below_drewN (HBW.out.alloc HBW.out.size _) _⟩
      obtain ⟨el, hel⟩ : ∃ b, b = elig q ⟨ac, am, ag, ap, ak⟩ := ⟨_, rfl⟩
      have HEL := Lib.hid hel
      clear hel
      go_upto_region 10 with fail
      obtain ⟨W4, hW4⟩ : ∃ X, X = wr.alloc (.cells #[.int .i64 ka, .int .i64 kq, .int .i64 uc] 51) := ⟨_, rfl⟩
      have hbu : Bx W4 wr.heap.size [.int .i64 ka, .int .i64 kq, .int .i64 uc] := by rw [hW4]; exact Bx.new ..
      have hb4 : Below wr.heap.size wr W4 := by rw [hW4]; exact (Below.refl _ _).alloc (Nat.le_refl _) _
      rw [← hW4]
      clear hW4 d0 d1 d2 p6 pzr
      have a0 := (hb4.cell (p := ⟨ba, oa + ka * 5, none⟩) hba5).trans a0
      have a1 := (hb4.cell (p := ⟨ba, oa + ka * 5 + 1, none⟩) hba5).trans a1
      have a2 := (hb4.cell (p := ⟨ba, oa + ka * 5 + 2, none⟩) hba5).trans a2
      have a3 := (hb4.cell (p := ⟨ba, oa + ka * 5 + 3, none⟩) hba5).trans a3
      have a4 := (hb4.cell (p := ⟨ba, oa + ka * 5 + 4, none⟩) hba5).trans a4
      have c0 := (hb4.cell (p := ⟨bb, off + kq * 6, none⟩) hbb5).trans c0
      have c1 := (hb4.cell (p := ⟨bb, off + kq * 6 + 1, none⟩) hbb5).trans c1
      have c2 := (hb4.cell (p := ⟨bb, off + kq * 6 + 2, none⟩) hbb5).trans c2
      have c3 := (hb4.cell (p := ⟨bb, off + kq * 6 + 3, none⟩) hbb5).trans c3
      have c4 := (hb4.cell (p := ⟨bb, off + kq * 6 + 4, none⟩) hbb5).trans c4
      have c5 := (hb4.cell (p := ⟨bb, off + kq * 6 + 5, none⟩) hbb5).trans c5
      have hz4 := hb4.size
      have hba4 : ba < W4.heap.size := by omega
      have hbb4 : bb < W4.heap.size := by omega
      have hbd4 : bd < W4.heap.size := by omega
      have u0 := hbu.1 0 _ rfl
      have u1 := hbu.1 1 _ rfl
      have u2 := hbu.1 2 _ rfl
      have uz := hbu.2.2
      have hbp := HBP.out.step hb4
      have p6 := hbp.1 6 _ rfl
      have pz4 := hbp.2.2
      have HBU := Lib.hid hbu
      have HBP4 := Lib.hid hbp
      have HB4 := Lib.hid hb4
      have hBE4 : Below w.heap.size w W4 := hBE2.trans (hb4.mono hBE2.size)
      have HBE4 := Lib.hid hBE4
      have S1 : Hid (∀ W, Below W4.heap.size W4 W → Calls Try.prog 30 #[.agg #[.string nm, .int .i64 q.credits, .int .i64 q.grade, .bool q.home, .slice ns.a ns.n ns.c, .slice f.a f.n f.c], .agg #[.int .i64 ac, .int .i64 am, .int .i64 ag, .int .i64 ap, .int .i64 ak]] W fun e w' => e = .returned (.bool el) ∧ Below W4.heap.size W4 w') := Lib.hid (fun W h => by
        rw [HEL.out]
        exact (Religible_any (P := P) q nm ns f ⟨ac, am, ag, ap, ak⟩ W ((HQF.out.step hBE4).step h) hfl).mono (fun e w' k => ⟨k.1, h.trans (k.2.mono h.size)⟩))
      clear hbu hbp hb4 hB hBE2 hBE4
      refine wp_region_below (by kernel_rfl) (by kernel_rfl) ?_
      repeat (first
        | go_big_quiet_skip
        | (go_big_quiet_want
           first
             | (apply quiet_val
                focus (
                  intro WC hWC
                  obtain ⟨hcc0, hff0⟩ := bcell hWC
                  go_simp
                  all_goals rfl
                  done)
                go_simp
                go_big_quiet_on)
             | (apply quiet_call
                focus (
                  intro WC hWC
                  go_simp
                  all_goals (first | rfl | exact ⟨rfl, rfl⟩)
                  done)
                focus (
                  intro WC hWC
                  with_reducible exact S1.out WC hWC
                  done)
                go_simp
                go_big_quiet_on)))
      refine wpQuiet_nil ?_
      intro W5 hW5
      have HT5 := Lib.hid t5
      have HT6 := Lib.hid t6
      have hz5 := hW5.size
      have HF1 := Lib.hid ((HF1.out.step HB4.out).step hW5)
      have HF2 := Lib.hid ((HF2.out.step HB4.out).step hW5)
      have HBU := Lib.hid (HBU.out.step hW5)
      have HBP5 := Lib.hid (HBP4.out.step hW5)
      have HBE5 := Lib.hid (HBE4.out.trans (hW5.mono HBE4.out.size))
      have HB5 := Lib.hid (HB.out.trans ((HB4.out.trans (hW5.mono HB4.out.size)).mono (Nat.le_of_lt hF1t)))
      have a4 := (hW5.cell (p := ⟨ba, oa + ka * 5 + 4, none⟩) hba4).trans a4
      have c1 := (hW5.cell (p := ⟨bb, off + kq * 6 + 1, none⟩) hbb4).trans c1
      have hba4 : ba < W5.heap.size := by omega
      have hbb4 : bb < W5.heap.size := by omega
      have hbd4 : bd < W5.heap.size := by omega
      have u0 := HBU.out.1 0 _ rfl
      have u1 := HBU.out.1 1 _ rfl
      have u2 := HBU.out.1 2 _ rfl
      have uz := HBU.out.2.2
      have p6 := HBP5.out.1 6 _ rfl
      have p2 := HBP5.out.1 2 _ rfl
      have pz4 := HBP5.out.2.2
      clear hW5 a0 a1 a2 a3 c0 c2 c3 c4 c5 S1 t1 t2 t3 t4 t5 t6
      cases el
      · obtain rfl : E = 200 := HNO.out (by cases h : okA p l (us.take k) ⟨ka, kq, uc⟩; rfl; exfalso; obtain ⟨_, ho, h3, he, h5, h6⟩ := (okA_iff _ _ _ _).1 h; simp only [Int.toNat_natCast] at h3 he h5 h6; rw [HLD.out] at h3 he h5; rw [HQD.out] at he h6; (try simp only at h3); (try simp only at h5); rw [← HEL.out] at he; cases he)
        clear HEE HNO
        go_wp2_with fail
        go_ret
        exact ⟨rfl, HBE5.out⟩
      have hprev : (decide (0 < k) = false ∧ ordOk (us.take k) ⟨ka, kq, uc⟩ = true) ∨ ∃ (j : Nat) (v : Us), (k : Int) - 1 = (j : Int) ∧ decide (0 < k) = true ∧ j < us.length ∧ us[j]? = some v ∧ ordOk (us.take k) ⟨ka, kq, uc⟩ = (decide (v.att < (ka : Int)) || (v.att == (ka : Int) && decide (v.req < (kq : Int)))) := by
        rcases k with _ | j
        · exact .inl ⟨by simp, rfl⟩
        · have hj : j < us.length := by omega
          exact .inr ⟨j, us[j], by omega, by simp, hj, List.getElem?_eq_getElem hj, ordOk_at (List.getElem?_eq_getElem hj)⟩
      have HPV := Lib.hid hprev
      clear hprev
      obtain ⟨ob, hob⟩ : ∃ x, x = ordOk (us.take k) ⟨ka, kq, uc⟩ := ⟨_, rfl⟩
      have HOB := Lib.hid hob
      rw [← hob] at HPV
      clear hob
      cases ob
      · rcases HPV.out with ⟨_, h⟩ | ⟨j, v, kj, hk0, hj, hvj, hv⟩
        · cases h
        obtain ⟨va, vr, vc⟩ := v
        obtain ⟨bd', od', v', hDD, hbd', hxj, hcj⟩ := HX.out.at_ hj
        obtain ⟨rfl, rfl⟩ : bd = bd' ∧ od = od' := by simpa using hDD
        rw [hvj] at hxj
        injection hxj with hxj
        subst hxj
        have e0 := (HBE5.out.cell (p := ⟨bd, od + j * 3 + 0, none⟩) hbd).trans (hcj 0 _ rfl)
        have e1 := (HBE5.out.cell (p := ⟨bd, od + j * 3 + 1, none⟩) hbd).trans (hcj 1 _ rfl)
        simp only [Nat.add_zero] at e0
        have hj0 : (0 : Int) ≤ (j : Int) := by omega
        have hj1 : (j : Int) < (us.length : Int) := by omega
        have hjw : IntKind.i64.wrap (j : Int) = (j : Int) := IntWalk.i64_in _ (by omega)
        have hjn : ((j : Int)).toNat = j := by simp
        have hw : decide ((ka : Int) < va) = true ∨ (decide ((ka : Int) < va) = false ∧ (va == (ka : Int)) = true ∧ decide ((kq : Int) ≤ vr) = true) := by
          simp at hv ⊢
          omega
        clear hcj hbd' hDD hvj hv HPV
        rcases hw with g1 | ⟨g1, g2, g3⟩
        all_goals
          obtain rfl : E = 200 := HNO.out (by cases h : okA p l (us.take k) ⟨ka, kq, uc⟩; rfl; exfalso; obtain ⟨_, ho, _⟩ := (okA_iff _ _ _ _).1 h; rw [← HOB.out] at ho; cases ho)
          clear HEE HNO
          go_wp2_with fail
          go_quiet (fail)
          go_wp2_with fail
          go_ret
          exact ⟨rfl, below_drewN HBE5.out _⟩
      go_upto_region 12 with fail
      go_cut [123] from 25 to 177 (fun v wx => v = .bool false ∧ ∃ n, wx = W5.drewN n)
      case first =>
        rcases HPV.out with ⟨hk0, _⟩ | ⟨j, v, kj, hk0, hj, hvj, hv⟩
        · go_quiet (fail)
          go_wp2_with fail
          go_meet
          exact ⟨rfl, _, rfl⟩
        · obtain ⟨va, vr, vc⟩ := v
          obtain ⟨bd', od', v', hDD, hbd', hxj, hcj⟩ := HX.out.at_ hj
          obtain ⟨rfl, rfl⟩ : bd = bd' ∧ od = od' := by simpa using hDD
          rw [hvj] at hxj
          injection hxj with hxj
          subst hxj
          have e0 := (HBE5.out.cell (p := ⟨bd, od + j * 3 + 0, none⟩) hbd).trans (hcj 0 _ rfl)
          have e1 := (HBE5.out.cell (p := ⟨bd, od + j * 3 + 1, none⟩) hbd).trans (hcj 1 _ rfl)
          simp only [Nat.add_zero] at e0
          have hj0 : (0 : Int) ≤ (j : Int) := by omega
          have hj1 : (j : Int) < (us.length : Int) := by omega
          have hjw : IntKind.i64.wrap (j : Int) = (j : Int) := IntWalk.i64_in _ (by omega)
          have hjn : ((j : Int)).toNat = j := by simp
          have hw : (decide ((ka : Int) < va) = false ∧ (va == (ka : Int)) = false) ∨ (decide ((ka : Int) < va) = false ∧ (va == (ka : Int)) = true ∧ decide ((kq : Int) ≤ vr) = false) := by
            simp at hv ⊢
            omega
          clear hcj hbd' hDD hvj hv HPV
          rcases hw with ⟨g1, g2⟩ | ⟨g1, g2, g3⟩
          all_goals
            go_quiet (fail)
            go_wp2_with fail
            go_meet
            exact ⟨rfl, _, rfl⟩
      case rest =>
        obtain ⟨W6, hwc⟩ : ∃ X, X = wc := ⟨_, rfl⟩
        subst hwc
        obtain ⟨rfl, n6, hW6⟩ := hcut
        have hb6 : Below W5.heap.size W5 W6 := by rw [hW6]; exact below_drewN (Below.refl _ _) _
        clear hW6
        have hz6 := hb6.size
        have HF1 := Lib.hid (HF1.out.step hb6)
        have HF2 := Lib.hid (HF2.out.step hb6)
        have HBU := Lib.hid (HBU.out.step hb6)
        have HBP6 := Lib.hid (HBP5.out.step hb6)
        have HBE6 := Lib.hid (HBE5.out.trans (hb6.mono HBE5.out.size))
        have HB6 := Lib.hid (HB5.out.trans (hb6.mono (by omega)))
        have a4 := (hb6.cell (p := ⟨ba, oa + ka * 5 + 4, none⟩) hba4).trans a4
        have c1 := (hb6.cell (p := ⟨bb, off + kq * 6 + 1, none⟩) hbb4).trans c1
        have hba4 : ba < W6.heap.size := by omega
        have hbb4 : bb < W6.heap.size := by omega
        have u0 := HBU.out.1 0 _ rfl
        have u1 := HBU.out.1 1 _ rfl
        have u2 := HBU.out.1 2 _ rfl
        have uz := HBU.out.2.2
        have p6 := HBP6.out.1 6 _ rfl
        have p2 := HBP6.out.1 2 _ rfl
        have pz4 := HBP6.out.2.2
        have huA : wr.heap.size ≠ FA := by omega
        have huR : wr.heap.size ≠ FR := by omega
        clear hb6 HPV
        have f1 := HF1.out.cell (i := ka) (by rw [usedA_len]; exact hka)
        have f1f := HF1.out.free ka
        have f1t := HF1.out.lt
        have f2 := HF2.out.cell (i := kq) (by rw [usedR_len]; exact hkq)
        have f2f := HF2.out.free kq
        have f2t := HF2.out.lt
        rw [usedA_at _ _ hka] at f1
        rw [usedR_at _ _ hkq] at f2
        have hcrd := okAgo_credits p l (fun a ha => (good_at (HGA.out a ha)).2.2.2.1) (us.take k) [] HOK.out
        have hza := usA_nonneg ka (us.take k) hcrd
        have hzr := usR_nonneg2 kq (us.take k) hcrd
        have htk : (us.take k).length ≤ k := List.length_take_le _ _
        obtain ⟨za, hza'⟩ : ∃ z, z = usA ka (us.take k) := ⟨_, rfl⟩
        obtain ⟨zr, hzr'⟩ : ∃ z, z = usR kq (us.take k) := ⟨_, rfl⟩
        rw [← hza'] at hza f1
        rw [← hzr'] at hzr f2
        have hza1 : 0 ≤ za := hza.1
        have hza2 : za ≤ 6000000 := by omega
        have hzr1 : 0 ≤ zr := hzr.1
        have hzr2 : zr ≤ 6000000 := by omega
        have huc1 : 1 ≤ uc := by have t5 := HT5.out; simp only [decide_eq_false_iff_not] at t5; omega
        have huc2 : uc ≤ 60 := by have t6 := HT6.out; simp only [decide_eq_false_iff_not] at t6; have := HGD.out.2.2.2.1; (try simp only at this); omega
        obtain ⟨_, _, hk0, hk1, _, _⟩ := HGD.out
        try simp only at hk0 hk1
        obtain ⟨hp0, hp1⟩ := mul_bd hk0 hk1 hu1 hu4
        have HZA := Lib.hid hza'
        have HZR := Lib.hid hzr'
        have HS1 : Hid (∀ W : World, FlAt W FA (usedA l.length (us.take k)) → FlAt (W.setCell ⟨FA, ka, none⟩ (.int .i64 (za + uc))) FA (usedA l.length (us.take (k + 1)))) := Lib.hid (fun W h => by
          have := h.set ka (za + uc)
          rwa [HZA.out, usedA_set l.length (us.take k) ⟨ka, kq, uc⟩ rfl hka, ← HZA.out, ← take_snoc_of HXK.out] at this)
        have HS2 : Hid (∀ W : World, FlAt W FR (usedR p.reqs (us.take k)) → FlAt (W.setCell ⟨FR, kq, none⟩ (.int .i64 (zr + uc))) FR (usedR p.reqs (us.take (k + 1)))) := Lib.hid (fun W h => by
          have := h.set kq (zr + uc)
          rwa [HZR.out, usedR_set p.reqs (us.take k) ⟨ka, kq, uc⟩ rfl hkq, ← HZR.out, ← take_snoc_of HXK.out] at this)
        clear hcrd hza hzr htk hza' hzr'
        have HBF : Hid (Below FA w2 ((W6.setCell ⟨FA, ka, none⟩ (.int .i64 (za + uc))).setCell ⟨FR, kq, none⟩ (.int .i64 (zr + uc)))) := Lib.hid ((HB6.out.setCell (Nat.le_refl _) _).setCell hFl _)
        have HBG : Hid (Below w.heap.size w ((W6.setCell ⟨FA, ka, none⟩ (.int .i64 (za + uc))).setCell ⟨FR, kq, none⟩ (.int .i64 (zr + uc)))) := Lib.hid ((HBE6.out.setCell (Nat.le_of_lt hz2) _).setCell (Nat.le_trans (Nat.le_of_lt hz2) hFl) _)
        cases t7 : decide (ak * p.uses < za + uc)
        rotate_left
        · obtain rfl : E = 200 := HNO.out (by cases h : okA p l (us.take k) ⟨ka, kq, uc⟩; rfl; exfalso; obtain ⟨_, ho, h3, he, h5, h6⟩ := (okA_iff _ _ _ _).1 h; simp only [Int.toNat_natCast] at h3 he h5 h6; rw [HLD.out] at h3 he h5; rw [HQD.out] at he h6; (try simp only at h3); (try simp only at h5); simp only [decide_eq_true_eq] at t7; have := HZA.out; omega)
          clear HEE HNO
          go_upto_region 14 with fail
          refine wp_region_tail 12 (by kernel_rfl) (by kernel_rfl) ?_
          simp only [List.take_succ_cons, List.take_zero, List.drop_succ_cons, List.drop_zero]
          repeat still_step
          refine wpStill_nil ?_
          go_upto_region 15 with fail
          refine wp_region_tail 12 (by kernel_rfl) (by kernel_rfl) ?_
          simp only [List.take_succ_cons, List.take_zero, List.drop_succ_cons, List.drop_zero]
          repeat still_step
          refine wpStill_nil ?_
          go_upto_region 16 with fail
          go_quiet (fail)
          go_wp2_with fail
          go_ret
          exact ⟨rfl, below_drewN HBG.out _⟩
        cases t8 : decide (q.credits < zr + uc)
        rotate_left
        · obtain rfl : E = 200 := HNO.out (by cases h : okA p l (us.take k) ⟨ka, kq, uc⟩; rfl; exfalso; obtain ⟨_, ho, h3, he, h5, h6⟩ := (okA_iff _ _ _ _).1 h; simp only [Int.toNat_natCast] at h3 he h5 h6; rw [HLD.out] at h3 he h5; rw [HQD.out] at he h6; (try simp only at h3); (try simp only at h5); simp only [decide_eq_true_eq] at t8; have := HZR.out; omega)
          clear HEE HNO
          go_upto_region 14 with fail
          refine wp_region_tail 12 (by kernel_rfl) (by kernel_rfl) ?_
          simp only [List.take_succ_cons, List.take_zero, List.drop_succ_cons, List.drop_zero]
          repeat still_step
          refine wpStill_nil ?_
          go_upto_region 15 with fail
          refine wp_region_tail 12 (by kernel_rfl) (by kernel_rfl) ?_
          simp only [List.take_succ_cons, List.take_zero, List.drop_succ_cons, List.drop_zero]
          repeat still_step
          refine wpStill_nil ?_
          go_upto_region 16 with fail
          go_quiet (fail)
          go_wp2_with fail
          go_ret
          exact ⟨rfl, below_drewN HBG.out _⟩
        have HYES : Hid (okAgo p l [] (us.take (k + 1)) = true) := Lib.hid (by
          rw [take_snoc_of HXK.out, okAgo_split, HOK.out]
          have e : okA p l (us.take k) ⟨ka, kq, uc⟩ = true := (okA_iff _ _ _ _).2 (by
            have t5 := HT5.out
            have t6 := HT6.out
            simp only [Int.toNat_natCast]
            rw [HLD.out, HQD.out, ← HZA.out, ← HZR.out]
            simp only [decide_eq_false_iff_not] at t5 t6 t7 t8
            exact ⟨⟨by simp, by simpa using hka, by simp, by simpa using hkq⟩, HOB.out.symm, ⟨by omega, by (try simp only); omega⟩, HEL.out.symm, by (try simp only); omega, by (try simp only); omega⟩)
          simp [okAgo, e])
        have HFA := Lib.hid ((HS1.out _ HF1.out).far hAR (.int .i64 (zr + uc)) : FlAt ((W6.setCell ⟨FA, ka, none⟩ (.int .i64 (za + uc))).setCell ⟨FR, kq, none⟩ (.int .i64 (zr + uc))) FA _)
        have HFR := Lib.hid (HS2.out _ (HF2.out.far hRA (.int .i64 (za + uc)) : FlAt (W6.setCell ⟨FA, ka, none⟩ (.int .i64 (za + uc))) FR _))
        clear HNO HS1 HS2
        go_upto_region 14 with fail
        refine wp_region_tail 12 (by kernel_rfl) (by kernel_rfl) ?_
        simp only [List.take_succ_cons, List.take_zero, List.drop_succ_cons, List.drop_zero]
        repeat still_step
        refine wpStill_nil ?_
        go_upto_region 15 with fail
        refine wp_region_tail 12 (by kernel_rfl) (by kernel_rfl) ?_
        simp only [List.take_succ_cons, List.take_zero, List.drop_succ_cons, List.drop_zero]
        repeat still_step
        refine wpStill_nil ?_
        go_upto_region 16 with fail
        go_quiet (fail)
        go_wp2_with fail
        go_roundw
        case rel => exact ⟨k + 1, by omega, by go_num, HFA.out, HFR.out, HYES.out, below_drewN HBF.out _⟩
        case measure => simp [intOf]; omega
    · obtain rfl : k = us.length := by omega
      obtain rfl : E = 0 := by
        rw [HEE.out, if_pos]
        have := HOK.out
        rwa [List.take_length] at this
      clear HEE hB hBE2
      go_wp2_with fail
      go_ret
      exact ⟨rfl, HBW.out⟩
end Go.Proofs.Ytgimpbcdgfkdmaa
