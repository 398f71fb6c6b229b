/- TopDegree, what its proof leans on: the texts ProI. -/
import Derived.Test.YtalmbigebjbaoaaGreatDoorM08
import Derived.Maps.Own
import Derived.Deep.DeepCutAuto
import Derived.IntWalk
namespace Go.Proofs.YtalmbigebjbaoaaGreatDoor
open Go.RowKit Go.Shelf
set_option linter.unusedSimpArgs false
set_option linter.unusedVariables false
theorem two_bx (w : World) (cs ds : List Value) (t t' : TypeId) : Bx ((w.alloc (.cells cs.toArray t)).alloc (.cells ds.toArray t')).drew w.heap.size cs ∧ Bx ((w.alloc (.cells cs.toArray t)).alloc (.cells ds.toArray t')).drew (w.heap.size + 1) ds ∧ Below w.heap.size w ((w.alloc (.cells cs.toArray t)).alloc (.cells ds.toArray t')).drew :=
 ⟨((Bx.new w cs t).alloc _ : _), (Bx.at_ (w.alloc (.cells cs.toArray t)) ds t' (w.heap.size + 1) (by simp) : _), (((Below.refl _ w).alloc (Nat.le_refl _) _).alloc (by simp) _).drew⟩
set_option maxRecDepth 100000 in
set_option maxHeartbeats 8000000 in
theorem Allowed_any {P : Nat → Prop} (p : Pg) (s : Sl) (l : List At) (B : Option Addr) (b : Nat) (us : List Us) (D : Option Addr) (d : Nat) (w : World) (hr : Rqs w P s p.reqs) (hi : p.mean.i64) (hla : Reads w w.heap.size B 5 At.enc l) (hx : Reads w w.heap.size D 3 Us.enc us) (hll : l.length ≤ 5000) (hl : us.length ≤ 100000) :
 Calls Tryz.prog 15 #[pgV p s, .slice B l.length b, .slice D us.length d] w fun e w' => e = .returned (.int .i64 (allowP p l us)) ∧ Below w.heap.size w w' := by
 have hn := hr.len
 have HR := Lib.hid hr
 have HX := Lib.hid hx
 have HLA := Lib.hid hla
 have hC := Lib.hid (fun W (h : Below w.heap.size w W) => asked_any p s l B b W (hr.step h) hi ((hla.below h).more h.size) (by omega))
 obtain ⟨A, n, c⟩ := s
 simp only at hn
 subst hn
 clear hr hx hla
 obtain ⟨E, hE⟩ : ∃ a, allowP p l us = a := ⟨_, rfl⟩
 rw [hE]
 have HE := Lib.hid hE
 clear hE
 unfold pgV at hC ⊢
 simp only at hC ⊢
 by_cases h0 : askedE p l = 0
 rotate_left
 ·have hE : allowP p l us = askedE p l := by unfold allowP; rw [if_neg h0]
  rw [HE.out] at hE
  subst hE
  obtain ⟨E, hE⟩ : ∃ a, askedE p l = a := ⟨_, rfl⟩
  rw [hE] at hC h0 ⊢
  have e1 : (E == 0) = false := by simpa using h0
  have e2 : (E != 0) = true := by simpa using h0
  clear hE h0 HE
  go_enter Tryz.func15, Tryz.ntmps15
  go_wp2_with fail
  go_step3
  go_wp2_with fail
  refine (hC.out _ ((Below.refl _ _).alloc (Nat.le_refl _) _)).mono ?_
  rintro e w2 ⟨rfl, hb2⟩
  have HBE : Hid (Below w.heap.size w w2) := Lib.hid (((Below.refl _ _).alloc (Nat.le_refl _) _).trans (hb2.mono (by simp)))
  clear hb2
  go_wp2_with fail
  rw [Exit.noGoto_ret]
  go_ret
  exact ⟨rfl, HBE.out⟩
 rw [h0] at hC
 obtain ⟨hg, hga⟩ := asked_zero h0
 have HG := Lib.hid hg
 have HGA := Lib.hid hga
 obtain ⟨hcr, hlen, hu1, hu4⟩ := good_credits hg
 have HCR := Lib.hid hcr
 have HEE : Hid (E = if okAgo p l [] us then 0 else 200) := Lib.hid (by rw [← HE.out]; unfold allowP; rw [if_pos h0])
 clear h0 hcr HE hg hga
 have hmm := @run_makeMap Tryz.prog
 go_enter Tryz.func15, Tryz.ntmps15
 go_wp2_with fail
 go_step3
 go_wp2_with fail
 refine (hC.out _ ((Below.refl _ _).alloc (Nat.le_refl _) _)).mono ?_
 rintro e w2 ⟨rfl, hb2⟩
 have hbx := (Bx.new w (pgC p ⟨A, p.reqs.length, c⟩) 44).step hb2
 have hbe : Below w.heap.size w w2 := ((Below.refl _ _).alloc (Nat.le_refl _) _).trans (hb2.mono (by simp))
 have pz := hbx.2.2
 have HBX := Lib.hid hbx
 have HBE := Lib.hid hbe
 clear hbx hbe hb2
 go_wp2_with fail
 have hm1 : MapIs ((w2.alloc (.map #[] 0)).alloc (.map #[] 0)) w2.heap.size [] := (MapIs.new w2 0).alloc _
 have hm2 : MapIs ((w2.alloc (.map #[] 0)).alloc (.map #[] 0)) (w2.heap.size + 1) [] := by simpa using MapIs.new (w2.alloc (.map #[] 0)) 0
 have hb3 : Below w2.heap.size w2 ((w2.alloc (.map #[] 0)).alloc (.map #[] 0)) := ((Below.refl _ _).alloc (Nat.le_refl _) _).alloc (by simp) _
 obtain ⟨w3, hw3⟩ : ∃ X, X = (w2.alloc (.map #[] 0)).alloc (.map #[] 0) := ⟨_, rfl⟩
 rw [← hw3] at hm1 hm2 hb3 ⊢
 obtain ⟨MA, hMA⟩ : ∃ F, F = w2.heap.size := ⟨_, rfl⟩
 have hz2 : w.heap.size < MA := by omega
 rw [← hMA] at hm1 hm2 hb3 ⊢
 have hz3 : w2.heap.size ≤ MA := by omega
 clear hw3 hMA hmm
 have HM1 := Lib.hid hm1
 have HM2 := Lib.hid hm2
 have HB3 := Lib.hid hb3
 clear hm1 hm2 hb3
 go_step3
 go_wp2_with fail
 go_loopw [9, 24] (fun v9 i wr => ∃ (k : Nat) (LA LR : List (Int × Value)), k ≤ us.length ∧ i = .int .i64 k ∧ v9 = .bool false ∧ MapIs wr MA LA ∧ MapIs wr (MA + 1) LR ∧ CntM LA (fun x => usA x (us.take k)) ∧ CntM LR (fun x => usR x (us.take k)) ∧ okAgo p l [] (us.take k) = true ∧ Below MA w2 wr) (fun _ i _ => us.length - (intOf i).toNat)
 case atStart => exact ⟨0, [], [], Nat.zero_le _, rfl, rfl, HM1.out, HM2.out, CntM.zero, CntM.zero, rfl, HB3.out⟩
 case round =>
  clear HM1 HM2 HB3
  obtain ⟨k, LA, LR, hk, rfl, rfl, hm1, hm2, hca, hcr, hok, hB⟩ := hrel
  have HM1 := Lib.hid hm1
  have HM2 := Lib.hid hm2
  have HCA := Lib.hid hca
  have HCR2 := Lib.hid hcr
  have HOK := Lib.hid hok
  have hbx := HBX.out.step (hB.mono hz3)
  have HBP := Lib.hid hbx
  have hBE2 : Below w.heap.size w wr := HBE.out.trans ((hB.mono hz3).mono HBE.out.size)
  have HB := Lib.hid hB
  have HBW := Lib.hid hBE2
  have p6 := hbx.1 6 _ rfl
  have p2 := hbx.1 2 _ rfl
  have pzr := hbx.2.2
  clear hm1 hm2 hca hcr hok hbx
  by_cases hlt : k < us.length
  ·obtain ⟨bd, od, u, rfl, hbd, hxk, hc⟩ := HX.out.at_ hlt
   obtain ⟨ua, ur, uc⟩ := u
   have d0 := (hBE2.cell (p := ⟨bd, od + k * 3 + 0, none⟩) hbd).trans (hc 0 _ rfl)
   have d1 := (hBE2.cell (p := ⟨bd, od + k * 3 + 1, none⟩) hbd).trans (hc 1 _ rfl)
   have d2 := (hBE2.cell (p := ⟨bd, od + k * 3 + 2, none⟩) hbd).trans (hc 2 _ rfl)
   simp only [Nat.add_zero] at d0
   have hbd2 : bd < wr.heap.size := by have := hBE2.size; omega
   have HXK := Lib.hid hxk
   have hlt2 : decide ((k : Int) < (us.length : Int)) = true := by simpa using hlt
   have HNO : Hid (okA p l (us.take k) ⟨ua, ur, uc⟩ = false → E = 200) := Lib.hid (fun h => by
    rw [HEE.out, if_neg]
    have e := okAgo_split p l (us.take k) (us.drop k) []
    rw [List.take_append_drop, take_drop_at HXK.out] at e
    rw [e]
    simp [okAgo, h])
   clear hc hxk
   cases t1 : decide (ua < 0)
   rotate_left
   ·obtain rfl : E = 200 := HNO.out (by cases h : okA p l (us.take k) ⟨ua, ur, uc⟩; rfl; exfalso; obtain ⟨⟨_, _, _, _⟩, ho, ⟨_, _⟩, he, _, _⟩ := (okA_iff _ _ _ _).1 h; simp_all; omega)
    clear HEE HNO hB hBE2
    go_wp2_with fail
    try rw [Exit.noGoto_ret]
    go_ret
    exact ⟨rfl, HBW.out.alloc HBW.out.size _⟩
   obtain ⟨ka, rfl⟩ : ∃ m : Nat, ua = m := ⟨ua.toNat, by simp at t1; omega⟩
   clear t1
   have t1 : decide ((ka : Int) < 0) = false := by simp
   cases t2 : decide (l.length ≤ ka)
   rotate_left
   ·obtain rfl : E = 200 := HNO.out (by cases h : okA p l (us.take k) ⟨ka, ur, uc⟩; rfl; exfalso; obtain ⟨⟨_, _, _, _⟩, ho, ⟨_, _⟩, he, _, _⟩ := (okA_iff _ _ _ _).1 h; simp_all; omega)
    clear HEE HNO hB hBE2
    go_wp2_with fail
    try rw [Exit.noGoto_ret]
    go_ret
    exact ⟨rfl, HBW.out.alloc HBW.out.size _⟩
   have hka : ka < l.length := by simp at t2; omega
   cases t3 : decide (ur < 0)
   rotate_left
   ·obtain rfl : E = 200 := HNO.out (by cases h : okA p l (us.take k) ⟨ka, ur, uc⟩; rfl; exfalso; obtain ⟨⟨_, _, _, _⟩, ho, ⟨_, _⟩, he, _, _⟩ := (okA_iff _ _ _ _).1 h; simp_all; omega)
    clear HEE HNO hB hBE2
    go_wp2_with fail
    try rw [Exit.noGoto_ret]
    go_ret
    exact ⟨rfl, HBW.out.alloc HBW.out.size _⟩
   obtain ⟨kq, rfl⟩ : ∃ m : Nat, ur = m := ⟨ur.toNat, by simp at t3; omega⟩
   clear t3
   have t3 : decide ((kq : Int) < 0) = false := by simp
   cases t4 : decide (p.reqs.length ≤ kq)
   rotate_left
   ·obtain rfl : E = 200 := HNO.out (by cases h : okA p l (us.take k) ⟨ka, kq, uc⟩; rfl; exfalso; obtain ⟨⟨_, _, _, _⟩, ho, ⟨_, _⟩, he, _, _⟩ := (okA_iff _ _ _ _).1 h; simp_all; omega)
    clear HEE HNO hB hBE2
    go_wp2_with fail
    try rw [Exit.noGoto_ret]
    go_ret
    exact ⟨rfl, HBW.out.alloc HBW.out.size _⟩
   have hkq : kq < p.reqs.length := by simp at t4; omega
   have hprev : (decide (0 < k) = false ∧ ordOk (us.take k) ⟨ka, kq, uc⟩ = true) ∨ ∃ (j : Nat) (v : Us), (k : Int) - 1 = (j : Int) ∧ decide (0 < k) = true ∧ j < us.length ∧ us[j]? = some v ∧ ordOk (us.take k) ⟨ka, kq, uc⟩ = (decide (v.att < (ka : Int)) || (v.att == (ka : Int) && decide (v.req < (kq : Int)))) := by
    rcases k with _ | j
    ·exact .inl ⟨by simp, rfl⟩
    ·have hj : j < us.length := by omega
     exact .inr ⟨j, us[j], by omega, by simp, hj, List.getElem?_eq_getElem hj, ordOk_at (List.getElem?_eq_getElem hj)⟩
   have HPV := Lib.hid hprev
   clear hprev
   obtain ⟨ob, hob⟩ : ∃ x, x = ordOk (us.take k) ⟨ka, kq, uc⟩ := ⟨_, rfl⟩
   have HOB := Lib.hid hob
   rw [← hob] at HPV
   clear hob
   cases ob
   ·rcases HPV.out with ⟨_, h⟩ | ⟨j, v, kj, hk0, hj, hvj, hv⟩
    ·cases h
    obtain ⟨va, vr, vc⟩ := v
    obtain ⟨bd', od', v', hDD, hbd', hxj, hcj⟩ := HX.out.at_ hj
    obtain ⟨rfl, rfl⟩ : bd = bd' ∧ od = od' := by simpa using hDD
    rw [hvj] at hxj
    injection hxj with hxj
    subst hxj
    have e0 := (hBE2.cell (p := ⟨bd, od + j * 3 + 0, none⟩) hbd).trans (hcj 0 _ rfl)
    have e1 := (hBE2.cell (p := ⟨bd, od + j * 3 + 1, none⟩) hbd).trans (hcj 1 _ rfl)
    simp only [Nat.add_zero] at e0
    have hw : decide ((ka : Int) < va) = true ∨ (decide ((ka : Int) < va) = false ∧ (va == (ka : Int)) = true ∧ decide ((kq : Int) ≤ vr) = true) := by
     simp at hv ⊢
     omega
    have hj0 : (0 : Int) ≤ (j : Int) := by omega
    have hj1 : (j : Int) < (us.length : Int) := by omega
    have hjw : IntKind.i64.wrap (j : Int) = (j : Int) := IntWalk.i64_in _ (by omega)
    have hjn : ((j : Int)).toNat = j := by simp
    clear hcj hbd' hDD hvj hv HPV
    rcases hw with g1 | ⟨g1, g2, g3⟩
    all_goals
     obtain rfl : E = 200 := HNO.out (by cases h : okA p l (us.take k) ⟨ka, kq, uc⟩; rfl; exfalso; obtain ⟨_, ho, _⟩ := (okA_iff _ _ _ _).1 h; rw [← HOB.out] at ho; cases ho)
     clear HEE HNO hB hBE2
     go_wp2_with fail
     go_quiet (fail)
     go_wp2_with fail
     try rw [Exit.noGoto_ret]
     go_ret
     exact ⟨rfl, below_drewN (HBW.out.alloc HBW.out.size _) _⟩
   go_upto_region 14 with fail
   obtain ⟨W4, hW4⟩ : ∃ X, X = wr.alloc (.cells #[.int .i64 ka, .int .i64 kq, .int .i64 uc] 109) := ⟨_, rfl⟩
   have hbu : Bx W4 wr.heap.size [.int .i64 ka, .int .i64 kq, .int .i64 uc] := by rw [hW4]; exact Bx.new ..
   have hb4 : Below wr.heap.size wr W4 := by rw [hW4]; exact (Below.refl _ _).alloc (Nat.le_refl _) _
   rw [← hW4]
   clear hW4 d0 d1 d2 p2 p6
   have u0 := hbu.1 0 _ rfl
   have u1 := hbu.1 1 _ rfl
   have uz := hbu.2.2
   have HBU := Lib.hid hbu
   have HB4 := Lib.hid hb4
   have hBE4 : Below w.heap.size w W4 := hBE2.trans (hb4.mono hBE2.size)
   clear hbu hb4
   go_cut [24, 47] from 24 to 143 (fun i v wx => i = .int .i64 k ∧ v = .bool false ∧ ∃ n, wx = W4.drewN n)
   case first =>
    rcases HPV.out with ⟨hk0, _⟩ | ⟨j, v, kj, hk0, hj, hvj, hv⟩
    ·clear hB hBE2 hBE4
     go_quiet (fail)
     go_wp2_with fail
     go_meet
     exact ⟨rfl, rfl, _, rfl⟩
    ·obtain ⟨va, vr, vc⟩ := v
     obtain ⟨bd', od', v', hDD, hbd', hxj, hcj⟩ := HX.out.at_ hj
     obtain ⟨rfl, rfl⟩ : bd = bd' ∧ od = od' := by simpa using hDD
     rw [hvj] at hxj
     injection hxj with hxj
     subst hxj
     have e0 := (hBE4.cell (p := ⟨bd, od + j * 3 + 0, none⟩) hbd).trans (hcj 0 _ rfl)
     have e1 := (hBE4.cell (p := ⟨bd, od + j * 3 + 1, none⟩) hbd).trans (hcj 1 _ rfl)
     simp only [Nat.add_zero] at e0
     have hw : (decide ((ka : Int) < va) = false ∧ (va == (ka : Int)) = false) ∨ (decide ((ka : Int) < va) = false ∧ (va == (ka : Int)) = true ∧ decide ((kq : Int) ≤ vr) = false) := by
      simp at hv ⊢
      omega
     have hj0 : (0 : Int) ≤ (j : Int) := by omega
     have hj1 : (j : Int) < (us.length : Int) := by omega
     have hjw : IntKind.i64.wrap (j : Int) = (j : Int) := IntWalk.i64_in _ (by omega)
     have hjn : ((j : Int)).toNat = j := by simp
     clear hcj hbd' hDD hvj hv HPV hB hBE2 hBE4
     rcases hw with ⟨g1, g2⟩ | ⟨g1, g2, g3⟩
     all_goals
      go_quiet (fail)
      go_wp2_with fail
      go_meet
      exact ⟨rfl, rfl, _, rfl⟩
   case rest =>
    obtain ⟨W5, hwc⟩ : ∃ X, X = wc := ⟨_, rfl⟩
    subst hwc
    obtain ⟨rfl, rfl, nq, hW5⟩ := hcut
    have hbu := (HBU.out).drewN nq
    have hb5 : Below wr.heap.size wr (W4.drewN nq) := below_drewN HB4.out nq
    rw [← hW5] at hbu hb5
    have hBE5 : Below w.heap.size w W5 := hBE2.trans (hb5.mono hBE2.size)
    have hbp := HBP.out.step hb5
    obtain ⟨ba, oa, a, hBe, hba, hxa, hca⟩ := HLA.out.at_ hka
    subst hBe
    have hgood := HGA.out a (List.mem_of_getElem? hxa)
    obtain ⟨ac, am, ag, ap, ak⟩ := a
    have a0 := (hBE5.cell (p := ⟨ba, oa + ka * 5 + 0, none⟩) hba).trans (hca 0 _ rfl)
    have a1 := (hBE5.cell (p := ⟨ba, oa + ka * 5 + 1, none⟩) hba).trans (hca 1 _ rfl)
    have a2 := (hBE5.cell (p := ⟨ba, oa + ka * 5 + 2, none⟩) hba).trans (hca 2 _ rfl)
    have a3 := (hBE5.cell (p := ⟨ba, oa + ka * 5 + 3, none⟩) hba).trans (hca 3 _ rfl)
    have a4 := (hBE5.cell (p := ⟨ba, oa + ka * 5 + 4, none⟩) hba).trans (hca 4 _ rfl)
    simp only [Nat.add_zero] at a0
    have hba5 : ba < W5.heap.size := by have := hBE5.size; omega
    obtain ⟨bb, off, q, nm, ns, f, hAe, hbb, hxq, hqf, c0, c1, c2, c3, c4, c5⟩ := (HR.out.step hBE5).at_ hkq
    simp only at hAe
    subst hAe
    have hld : l.getD ka default = ⟨ac, am, ag, ap, ak⟩ := getD_some hxa
    have hqd : p.reqs.getD kq default = q := getD_some hxq
    have HLD := Lib.hid hld
    have HQD := Lib.hid hqd
    have HQF := Lib.hid hqf
    have HGD := Lib.hid (good_at hgood)
    obtain ⟨hq1, hq2⟩ := HCR.out q (List.mem_of_getElem? hxq)
    have hfl := HR.out.frlen q (List.mem_of_getElem? hxq)
    have HBP5 := Lib.hid hbp
    have HBU5 := Lib.hid hbu
    have p6 := hbp.1 6 _ rfl
    have pz5 := hbp.2.2
    have u0 := hbu.1 0 _ rfl
    have u1 := hbu.1 1 _ rfl
    have uz := hbu.2.2
    have HB5 := Lib.hid hb5
    have HBE5 := Lib.hid hBE5
    clear hld hqd hqf hgood hbp hbu hb5 hBE5 hca hxa hxq hB hBE2 hBE4 hW5 pz pzr HPV
    go_upto_region 16 with fail
    go_cut [12, 13, 24] from 24 to 143 (fun va vq i wx => ∃ Ba Bq : Nat, i = .int .i64 k ∧ va = .pointer (some ⟨Ba, 0, none⟩) ∧ vq = .pointer (some ⟨Bq, 0, none⟩) ∧ Bx wx Ba [.int .i64 ac, .int .i64 am, .int .i64 ag, .int .i64 ap, .int .i64 ak] ∧ Bx wx Bq [.string nm, .int .i64 q.credits, .int .i64 q.grade, .bool q.home, .slice ns.a ns.n ns.c, .slice f.a f.n f.c] ∧ Below W5.heap.size W5 wx ∧ W5.heap.size ≤ Ba ∧ W5.heap.size ≤ Bq)
    case first =>
     go_region
     ·go_wp2_with fail
      go_meet
      obtain ⟨t1, t2, t3⟩ := two_bx W5 [.int .i64 ac, .int .i64 am, .int .i64 ag, .int .i64 ap, .int .i64 ak] [.string nm, .int .i64 q.credits, .int .i64 q.grade, .bool q.home, .slice ns.a ns.n ns.c, .slice f.a f.n f.c] 69 67
      exact ⟨_, _, rfl, rfl, rfl, t1, t2, t3, Nat.le_refl _, Nat.le_succ _⟩
     ·go_wp2_with fail
      go_meet
      obtain ⟨t1, t2, t3⟩ := two_bx W5 [.string nm, .int .i64 q.credits, .int .i64 q.grade, .bool q.home, .slice ns.a ns.n ns.c, .slice f.a f.n f.c] [.int .i64 ac, .int .i64 am, .int .i64 ag, .int .i64 ap, .int .i64 ak] 67 69
      exact ⟨_, _, rfl, rfl, rfl, t2, t1, t3, Nat.le_succ _, Nat.le_refl _⟩
    case rest =>
     obtain ⟨W6, hwc⟩ : ∃ X, X = wc := ⟨_, rfl⟩
     subst hwc
     obtain ⟨Ba, Bq, rfl, rfl, rfl, hba6, hbq6, hb6, hBa, hBq⟩ := hcut
     clear a0 a1 a2 a3 a4 c0 c1 c2 c3 c4 c5 p6 u0 u1 uz pz5 hba5 hba hbb
     have hsr : wr.heap.size ≤ W5.heap.size := HB5.out.size
     have hm1t := HM1.out.lt
     have hm2t := HM2.out.lt
     have HBT := Lib.hid (HB.out.trans ((HB5.out.trans (hb6.mono HB5.out.size)).mono (Nat.le_of_lt hm1t)))
     have HBEE := Lib.hid (HBE5.out.trans (hb6.mono HBE5.out.size))
     have HM1 := Lib.hid ((HM1.out.step HB5.out).step hb6)
     have HM2 := Lib.hid ((HM2.out.step HB5.out).step hb6)
     have hma6 := Nat.le_of_lt HM1.out.lt
     have HBP := Lib.hid (HBP5.out.step hb6)
     have HBU := Lib.hid (HBU5.out.step hb6)
     have HBA := Lib.hid hba6
     have HBQ := Lib.hid hbq6
     have HBT6 := Lib.hid hb6
     clear hba6 hbq6 hb6
     have u0 := HBU.out.1 0 _ rfl
     have u1 := HBU.out.1 1 _ rfl
     have u2 := HBU.out.1 2 _ rfl
     have uz := HBU.out.2.2
     have a0 := HBA.out.1 0 _ rfl
     have a1 := HBA.out.1 1 _ rfl
     have a2 := HBA.out.1 2 _ rfl
     have a3 := HBA.out.1 3 _ rfl
     have a4 := HBA.out.1 4 _ rfl
     have az := HBA.out.2.2
     have q0 := HBQ.out.1 0 _ rfl
     have q1 := HBQ.out.1 1 _ rfl
     have q2 := HBQ.out.1 2 _ rfl
     have q3 := HBQ.out.1 3 _ rfl
     have q4 := HBQ.out.1 4 _ rfl
     have q5 := HBQ.out.1 5 _ rfl
     have qz := HBQ.out.2.2
     have p2 := HBP.out.1 2 _ rfl
     have pz := HBP.out.2.2
     cases t5 : decide (uc < 1)
     rotate_left
     ·obtain rfl : E = 200 := HNO.out (by cases h : okA p l (us.take k) ⟨ka, kq, uc⟩; rfl; exfalso; obtain ⟨_, ho, h3, he, h5, h6⟩ := (okA_iff _ _ _ _).1 h; simp only [Int.toNat_natCast] at h3 he h5 h6; rw [HLD.out] at h3 he h5; rw [HQD.out] at he h6; (try simp only at h3); (try simp only at h5); simp only [decide_eq_true_eq] at t5; omega)
      clear HEE HNO
      go_wp2_with fail
      try rw [Exit.noGoto_ret]
      go_ret
      exact ⟨rfl, HBEE.out⟩
     cases t6 : decide (ak < uc)
     rotate_left
     ·obtain rfl : E = 200 := HNO.out (by cases h : okA p l (us.take k) ⟨ka, kq, uc⟩; rfl; exfalso; obtain ⟨_, ho, h3, he, h5, h6⟩ := (okA_iff _ _ _ _).1 h; simp only [Int.toNat_natCast] at h3 he h5 h6; rw [HLD.out] at h3 he h5; rw [HQD.out] at he h6; (try simp only at h3); (try simp only at h5); simp only [decide_eq_true_eq] at t6; omega)
      clear HEE HNO
      go_wp2_with fail
      try rw [Exit.noGoto_ret]
      go_ret
      exact ⟨rfl, HBEE.out⟩
     obtain ⟨el, hel⟩ : ∃ b, b = elig q ⟨ac, am, ag, ap, ak⟩ := ⟨_, rfl⟩
     have HEL := Lib.hid hel
     clear hel
     cases el
     ·obtain rfl : E = 200 := HNO.out (by cases h : okA p l (us.take k) ⟨ka, kq, uc⟩; rfl; exfalso; obtain ⟨_, ho, h3, he, h5, h6⟩ := (okA_iff _ _ _ _).1 h; simp only [Int.toNat_natCast] at h3 he h5 h6; rw [HLD.out] at h3 he h5; rw [HQD.out] at he h6; (try simp only at h3); (try simp only at h5); rw [← HEL.out] at he; cases he)
      clear HEE HNO
      go_wp2_with fail
      refine (eligible_any (P := P) q nm ns f ⟨ac, am, ag, ap, ak⟩ W6 ((HQF.out.step (HBT6.out))) hfl).mono ?_
      rw [← HEL.out]
      rintro e W7 ⟨rfl, hb7⟩
      clear u0 u1 u2 uz
      clear a0 a1 a2 a3 a4 az
      clear q0 q1 q2 q3 q4 q5 qz
      clear p2 pz
      have HBT := Lib.hid (HBT.out.trans (hb7.mono hma6))
      have HBEE := Lib.hid (HBEE.out.trans (hb7.mono HBEE.out.size))
      have HM1 := Lib.hid (HM1.out.step hb7)
      have HM2 := Lib.hid (HM2.out.step hb7)
      have HBP := Lib.hid (HBP.out.step hb7)
      have HBU := Lib.hid (HBU.out.step hb7)
      have HBA := Lib.hid (HBA.out.step hb7)
      have HBQ := Lib.hid (HBQ.out.step hb7)
      have hs7 := hb7.size
      clear hb7
      go_wp2_with fail
      try rw [Exit.noGoto_ret]
      go_ret
      exact ⟨rfl, HBEE.out⟩
     go_wp2_with fail
     refine (eligible_any (P := P) q nm ns f ⟨ac, am, ag, ap, ak⟩ W6 ((HQF.out.step (HBT6.out))) hfl).mono ?_
     rw [← HEL.out]
     rintro e W7 ⟨rfl, hb7⟩
     clear u0 u1 u2 uz
     clear a0 a1 a2 a3 a4 az
     clear q0 q1 q2 q3 q4 q5 qz
     clear p2 pz
     have HBT := Lib.hid (HBT.out.trans (hb7.mono hma6))
     have HBEE := Lib.hid (HBEE.out.trans (hb7.mono HBEE.out.size))
     have HM1 := Lib.hid (HM1.out.step hb7)
     have HM2 := Lib.hid (HM2.out.step hb7)
     have HBP := Lib.hid (HBP.out.step hb7)
     have HBU := Lib.hid (HBU.out.step hb7)
     have HBA := Lib.hid (HBA.out.step hb7)
     have HBQ := Lib.hid (HBQ.out.step hb7)
     have hs7 := hb7.size
     clear hb7
     have hcrd := okAgo_credits p l (fun a ha => (good_at (HGA.out a ha)).2.2.2.1) (us.take k) [] HOK.out
     have hza := usA_nonneg ka (us.take k) hcrd
     have hzr := usR_nonneg2 kq (us.take k) hcrd
     have htk : (us.take k).length ≤ k := List.length_take_le _ _
     obtain ⟨za, hza'⟩ : ∃ z, z = usA ka (us.take k) := ⟨_, rfl⟩
     obtain ⟨zr, hzr'⟩ : ∃ z, z = usR kq (us.take k) := ⟨_, rfl⟩
     rw [← hza'] at hza
     rw [← hzr'] at hzr
     have hza1 : 0 ≤ za := hza.1
     have hza2 : za ≤ 6000000 := by omega
     have hzr1 : 0 ≤ zr := hzr.1
     have hzr2 : zr ≤ 6000000 := by omega
     have huc1 : 1 ≤ uc := by simp only [decide_eq_false_iff_not] at t5; omega
     have huc2 : uc ≤ 60 := by simp only [decide_eq_false_iff_not] at t6; have := HGD.out.2.2.2.1; (try simp only at this); omega
     obtain ⟨_, _, hk0, hk1, _, _⟩ := HGD.out
     try simp only at hk0 hk1
     obtain ⟨hp0, hp1⟩ := mul_bd hk0 hk1 hu1 hu4
     have HM1a := HM1
     have lkA := look_cnt HM1.out HCA.out (ka : Int)
     rw [← hza'] at lkA
     obtain ⟨W8, hrun1, hm1', hgr1, hsz1⟩ := upd_map HM1.out (ka : Int) (.int .i64 (za + uc))
     have HM2 := Lib.hid (HM2.out.grown hgr1 (by simp))
     have lkR := look_cnt HM2.out HCR2.out (kq : Int)
     rw [← hzr'] at lkR
     obtain ⟨W9, hrun2, hm2', hgr2, hsz2⟩ := upd_map HM2.out (kq : Int) (.int .i64 (zr + uc))
     have HM1 := Lib.hid (hm1'.grown hgr2 (by simp))
     have HM2 := Lib.hid hm2'
     have HCAn : Hid (CntM (updL (ka : Int) (.int .i64 (za + uc)) LA) (fun x => usA x (us.take (k + 1)))) := Lib.hid ((HCA.out.upd (ka : Int) (za + uc)).ext (fun x => by
      rw [take_snoc_of HXK.out, usA_snoc]
      by_cases e : (ka : Int) = x
      ·subst e; simp [hza']
      ·simp [e]))
     have HCRn : Hid (CntM (updL (kq : Int) (.int .i64 (zr + uc)) LR) (fun x => usR x (us.take (k + 1)))) := Lib.hid ((HCR2.out.upd (kq : Int) (zr + uc)).ext (fun x => by
      rw [take_snoc_of HXK.out, usR_snoc]
      by_cases e : (kq : Int) = x
      ·subst e; simp [hzr']
      ·simp [e]))
     have lkA2 := look_cnt HM1.out (HCA.out.upd (ka : Int) (za + uc)) (ka : Int)
     have lkR2 := look_cnt HM2.out (HCR2.out.upd (kq : Int) (zr + uc)) (kq : Int)
     simp only [if_true] at lkA2 lkR2
     have HBT := Lib.hid ((HBT.out.grown hgr1 (Nat.le_of_lt HM1a.out.lt) (fun b e => by cases e; exact Nat.le_refl _)).grown hgr2 (by rw [hsz1]; exact Nat.le_of_lt HM1a.out.lt) (fun b e => by cases e; exact Nat.le_succ _))
     have HBEE := Lib.hid ((HBEE.out.grown hgr1 HBEE.out.size (fun b e => by cases e; omega)).grown hgr2 (by rw [hsz1]; exact HBEE.out.size) (fun b e => by cases e; omega))
     have HBU8 := Lib.hid (HBU.out.far hgr1 (fun e => by cases e; omega))
     have HBU9 := Lib.hid (HBU8.out.far hgr2 (fun e => by injection e with e; omega))
     have HBA9 := Lib.hid ((HBA.out.far hgr1 (fun e => by cases e; omega)).far hgr2 (fun e => by injection e with e; omega))
     have HBQ9 := Lib.hid ((HBQ.out.far hgr1 (fun e => by cases e; omega)).far hgr2 (fun e => by injection e with e; omega))
     have HBP9 := Lib.hid ((HBP.out.far hgr1 (fun e => by cases e; omega)).far hgr2 (fun e => by injection e with e; omega))
     have HZA := Lib.hid hza'
     have HZR := Lib.hid hzr'
     clear hm1' hm2' hcrd hza hzr htk hza' hzr' hgr1 hgr2
     have u0 := HBU.out.1 0 _ rfl
     have u1 := HBU.out.1 1 _ rfl
     have u2 := HBU.out.1 2 _ rfl
     have uz := HBU.out.2.2
     have v0 := HBU8.out.1 0 _ rfl
     have v1 := HBU8.out.1 1 _ rfl
     have v2 := HBU8.out.1 2 _ rfl
     have vz := HBU8.out.2.2
     have x0 := HBU9.out.1 0 _ rfl
     have x1 := HBU9.out.1 1 _ rfl
     have x2 := HBU9.out.1 2 _ rfl
     have xz := HBU9.out.2.2
     have y4 := HBA9.out.1 4 _ rfl
     have yz := HBA9.out.2.2
     have r1 := HBQ9.out.1 1 _ rfl
     have rz := HBQ9.out.2.2
     have p2 := HBP9.out.1 2 _ rfl
     have pz := HBP9.out.2.2
     cases t7 : decide (ak * p.uses < za + uc)
     rotate_left
     ·obtain rfl : E = 200 := HNO.out (by cases h : okA p l (us.take k) ⟨ka, kq, uc⟩; rfl; exfalso; obtain ⟨_, ho, h3, he, h5, h6⟩ := (okA_iff _ _ _ _).1 h; simp only [Int.toNat_natCast] at h3 he h5 h6; rw [HLD.out] at h3 he h5; rw [HQD.out] at he h6; (try simp only at h3); (try simp only at h5); simp only [decide_eq_true_eq] at t7; have := HZA.out; omega)
      clear HEE HNO
      go_wp2_with fail
      try rw [Exit.noGoto_ret]
      go_ret
      exact ⟨rfl, HBEE.out⟩
     cases t8 : decide (q.credits < zr + uc)
     rotate_left
     ·obtain rfl : E = 200 := HNO.out (by cases h : okA p l (us.take k) ⟨ka, kq, uc⟩; rfl; exfalso; obtain ⟨_, ho, h3, he, h5, h6⟩ := (okA_iff _ _ _ _).1 h; simp only [Int.toNat_natCast] at h3 he h5 h6; rw [HLD.out] at h3 he h5; rw [HQD.out] at he h6; (try simp only at h3); (try simp only at h5); simp only [decide_eq_true_eq] at t8; have := HZR.out; omega)
      clear HEE HNO
      go_wp2_with fail
      try rw [Exit.noGoto_ret]
      go_ret
      exact ⟨rfl, HBEE.out⟩
     have HYES : Hid (okAgo p l [] (us.take (k + 1)) = true) := Lib.hid (by
      rw [take_snoc_of HXK.out, okAgo_split, HOK.out]
      have e : okA p l (us.take k) ⟨ka, kq, uc⟩ = true := (okA_iff _ _ _ _).2 (by
       simp only [Int.toNat_natCast]
       rw [HLD.out, HQD.out, ← HZA.out, ← HZR.out]
       simp only [decide_eq_false_iff_not] at t5 t6 t7 t8
       exact ⟨⟨by simp, by simpa using hka, by simp, by simpa using hkq⟩, HOB.out.symm, ⟨by omega, by (try simp only); omega⟩, HEL.out.symm, by (try simp only); omega, by (try simp only); omega⟩)
      simp [okAgo, e])
     clear HNO
     go_wp2_with fail
     go_roundw
     case rel => exact ⟨k + 1, _, _, by omega, by go_num, rfl, HM1.out, HM2.out, HCAn.out, HCRn.out, HYES.out, HBT.out⟩
     case measure => simp [intOf]; omega
  ·obtain rfl : k = us.length := by omega
   obtain rfl : E = 0 := by
    rw [HEE.out, if_pos]
    have := HOK.out
    rwa [List.take_length] at this
   clear HEE hB hBE2
   go_wp2_with fail
   try rw [Exit.noGoto_ret]
   go_ret
   exact ⟨rfl, HBW.out⟩
end Go.Proofs.YtalmbigebjbaoaaGreatDoor
