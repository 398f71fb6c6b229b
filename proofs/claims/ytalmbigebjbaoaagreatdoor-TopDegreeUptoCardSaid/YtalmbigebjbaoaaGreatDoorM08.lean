/- TopDegree, what its proof leans on: the texts ProF, ProG, ProH. -/
import Derived.Test.YtalmbigebjbaoaaGreatDoorM07
import Derived.Deep.Cut
import Derived.Test.YtalmbigebjbaoaaGreatDoorM01
namespace Go.Proofs.YtalmbigebjbaoaaGreatDoor
open Go.RowKit Go.Shelf
set_option linter.unusedSimpArgs false
set_option linter.unusedVariables false
theorem sumL_take {xs : List Int} {k : Nat} (h : k < xs.length) : sumL (xs.take (k + 1)) = sumL (xs.take k) + xs.getD k 0 := by
 rw [List.take_succ_eq_append_getElem h, sumL_snoc, List.getD_eq_getElem?_getD, List.getElem?_eq_getElem h]; rfl
theorem rest_mem {qs : List Rq} (hq : ∀ q ∈ qs, 1 ≤ q.credits ∧ q.credits ≤ 10000) {pre : List Us} (h : okMgo qs [] pre = true) : ∀ x ∈ restR qs pre, 0 ≤ x ∧ x ≤ 10000 := by
 intro x hx
 simp only [restR, List.mem_map, List.mem_range] at hx
 obtain ⟨k, hk, rfl⟩ := hx
 obtain ⟨a, b, _, _⟩ := rest_bd hq h hk
 exact ⟨a, b⟩
set_option maxRecDepth 100000 in
set_option maxHeartbeats 8000000 in
theorem Missing_any {P : Nat → Prop} (p : Pg) (s : Sl) (us : List Us) (D : Option Addr) (d : Nat) (w : World) (hr : Rqs w P s p.reqs) (hi : p.mean.i64) (hx : Reads w w.heap.size D 3 Us.enc us) (hl : us.length ≤ 9223372036854775807) :
 Calls Tryz.prog 16 #[pgV p s, .slice D us.length d] w fun e w' => e = .returned (.tuple #[.int .i64 (missP p us).1, .int .i64 (missP p us).2]) ∧ Below w.heap.size w w' := by
 have hn := hr.len
 have HR := Lib.hid hr
 have HX := Lib.hid hx
 have hC := Lib.hid (fun W (h : Below w.heap.size w W) => dgCheck_any p s W (hr.step h) hi)
 obtain ⟨A, n, c⟩ := s
 simp only at hn
 subst hn
 clear hr hx
 obtain ⟨E1, E2, hE⟩ : ∃ a b, missP p us = (a, b) := ⟨_, _, rfl⟩
 rw [hE]
 have HE := Lib.hid hE
 clear hE
 unfold pgV at hC ⊢
 simp only at hC ⊢
 by_cases h0 : goodP p = true
 rotate_left
 ·rw [checkP_no h0] at hC
  have hE : missP p us = (0, 190) := by unfold missP; rw [checkP_no h0]; rfl
  rw [HE.out] at hE
  obtain ⟨rfl, rfl⟩ := Prod.mk.inj hE
  clear hE h0 HE
  go_enter Tryz.func16, Tryz.ntmps16
  go_wp2_with fail
  refine (hC.out _ ((Below.refl _ _).alloc (Nat.le_refl _) _)).mono ?_
  rintro e w2 ⟨rfl, hb2⟩
  have HBE : Hid (Below w.heap.size w w2) := Lib.hid (((Below.refl _ _).alloc (Nat.le_refl _) _).trans (hb2.mono (by simp)))
  clear hb2
  go_wp2_with fail
  go_ret2
  exact ⟨rfl, HBE.out⟩
 rw [checkP_ok h0] at hC
 have HG := Lib.hid h0
 obtain ⟨hcr, hlen, _, _⟩ := good_credits h0
 have HCR := Lib.hid hcr
 have HEE : Hid ((E1, E2) = if okMgo p.reqs [] us then (totR p.reqs - usT us, 0) else (0, 200)) := Lib.hid (by rw [← HE.out]; unfold missP; rw [checkP_ok h0]; rfl)
 have hmk := run_make_ints p.reqs.length (by omega)
 clear h0 hcr HE
 go_enter Tryz.func16, Tryz.ntmps16
 go_wp2_with fail
 refine (hC.out _ ((Below.refl _ _).alloc (Nat.le_refl _) _)).mono ?_
 rintro e w2 ⟨rfl, hb2⟩
 have hbx := (Bx.new w (pgC p ⟨A, p.reqs.length, c⟩) 44).step hb2
 have hbe : Below w.heap.size w w2 := ((Below.refl _ _).alloc (Nat.le_refl _) _).trans (hb2.mono (by simp))
 have p6 := hbx.1 6 _ rfl
 have pz := hbx.2.2
 have HBX := Lib.hid hbx
 have HBE := Lib.hid hbe
 clear hbx hbe hb2
 generalize hzs : ((List.replicate p.reqs.length (0 : Int)).map (Value.int .i64)).toArray = zs at hmk
 have HZS := Lib.hid hzs
 clear hzs
 go_wp2_with fail
 have hf0 : FlAt (w2.alloc (.cells zs 3)) w2.heap.size (fillR p.reqs 0) := by rw [fillR_zero, ← HZS.out]; exact FlAt.made _ _
 have hb3 : Below w2.heap.size w2 (w2.alloc (.cells zs 3)) := (Below.refl _ _).alloc (Nat.le_refl _) _
 obtain ⟨w3, hw3⟩ : ∃ X, X = w2.alloc (.cells zs 3) := ⟨_, rfl⟩
 rw [← hw3] at hf0 hb3 ⊢
 obtain ⟨F, hF⟩ : ∃ F, F = w2.heap.size := ⟨_, rfl⟩
 rw [← hF] at hf0 ⊢
 have hFl : w2.heap.size ≤ F := by omega
 clear hw3 hF hmk HZS
 have HF0 := Lib.hid hf0
 have HB3 := Lib.hid hb3
 have hz3 := hb3.size
 clear hf0 hb3
 go_loopw [25] (fun i wr => ∃ k : Nat, k ≤ p.reqs.length ∧ i = .int .i64 k ∧ FlAt wr F (fillR p.reqs k) ∧ Below w2.heap.size w2 wr) (fun i _ => p.reqs.length - (intOf i).toNat)
 case atStart => exact ⟨0, Nat.zero_le _, rfl, HF0.out, HB3.out⟩
 case round =>
  obtain ⟨k, hk, rfl, hfl, hB⟩ := hrel
  have hbx := HBX.out.step hB
  have p6 := hbx.1 6 _ rfl
  have pz := hbx.2.2
  have hBE2 : Below w.heap.size w wr := HBE.out.trans (hB.mono HBE.out.size)
  have hflt := hfl.lt
  have HB := Lib.hid hB
  by_cases hlt : k < p.reqs.length
  ·obtain ⟨bb, off, q, nm, ns, f, ha, hbb, hxk, hq, c0, c1, c2, c3, c4, c5⟩ := (HR.out.step hBE2).at_ hlt
   simp only at ha
   subst ha
   have hb4 : Below w2.heap.size w2 (wr.setCell ⟨F, k, none⟩ (.int .i64 q.credits)) := hB.setCell hFl _
   have hf4 := hfl.set k q.credits
   rw [fillR_set p.reqs hxk] at hf4
   have f1 := hfl.cell (i := k) (by rw [fillR_len]; exact hlt)
   have f2 := hfl.free k
   have hset := Lib.hid (hf4.alloc (.cells #[.string nm, .int .i64 q.credits, .int .i64 q.grade, .bool q.home, .slice ns.a ns.n ns.c, .slice f.a f.n f.c] 67))
   have hbs := Lib.hid (hb4.alloc hb4.size (.cells #[.string nm, .int .i64 q.credits, .int .i64 q.grade, .bool q.home, .slice ns.a ns.n ns.c, .slice f.a f.n f.c] 67))
   clear hB hBE2 hbx hfl hb4 hf4 hxk hq
   go_wp2_with fail
   go_roundw
   case rel => exact ⟨k + 1, by omega, by go_num, hset.out, hbs.out⟩
   case measure => simp [intOf]; omega
  ·obtain rfl : k = p.reqs.length := by omega
   have hfl2 : FlAt wr F (restR p.reqs []) := by rw [← fillR_all]; exact hfl
   have HFL := Lib.hid hfl2
   clear hfl hfl2 hB hBE2 hbx hlt
   go_wp2_with fail
   go_loopw [4, 38] (fun v4 i wr => ∃ k : Nat, k ≤ us.length ∧ i = .int .i64 k ∧ v4 = .int .i64 0 ∧ FlAt wr F (restR p.reqs (us.take k)) ∧ okMgo p.reqs [] (us.take k) = true ∧ Below w2.heap.size w2 wr) (fun _ i _ => us.length - (intOf i).toNat)
   case atStart => exact ⟨0, Nat.zero_le _, rfl, rfl, HFL.out, rfl, HB.out⟩
   case round =>
    clear p6 pz hk HFL HB
    obtain ⟨k, hk, rfl, rfl, hfl, hok, hB⟩ := hrel
    have HOK := Lib.hid hok
    have hBE2 : Below w.heap.size w wr := HBE.out.trans (hB.mono HBE.out.size)
    have hflt := hfl.lt
    have HB := Lib.hid hB
    have HFL := Lib.hid hfl
    by_cases hlt : k < us.length
    ·obtain ⟨bd, od, u, rfl, hbd, hxk, hc⟩ := (HX.out.below hBE2).at_ hlt
     obtain ⟨ua, ur, uc⟩ := u
     have d0 := hc 0 _ rfl
     have d1 := hc 1 _ rfl
     have d2 := hc 2 _ rfl
     simp only [Nat.add_zero] at d0
     have hbd2 : bd < wr.heap.size := by have := hBE2.size; omega
     have HXK := Lib.hid hxk
     have HNO : Hid (okM p.reqs (us.take k) ⟨ua, ur, uc⟩ = false → (E1, E2) = (0, 200)) := Lib.hid (fun h => by
      rw [HEE.out, if_neg]
      have e := okMgo_split p.reqs (us.take k) (us.drop k) []
      rw [List.take_append_drop, take_drop_at HXK.out] at e
      rw [e]
      simp [okMgo, h])
     clear hc hxk hfl hok
     cases t1 : decide (ur < 0)
     rotate_left
     ·obtain ⟨rfl, rfl⟩ := Prod.mk.inj (HNO.out (by cases h : okM p.reqs (us.take k) ⟨ua, ur, uc⟩; rfl; have := (okM_iff _ _ _).1 h; simp at t1 this; omega))
      have HBW := Lib.hid hBE2
      clear hB hBE2 HNO HEE
      go_wp2_with fail
      go_quiet (fail)
      go_wp2_with fail
      go_ret2
      exact ⟨rfl, below_drewN (HBW.out.alloc HBW.out.size _) _⟩
     obtain ⟨kq, rfl⟩ : ∃ m : Nat, ur = m := ⟨ur.toNat, by simp at t1; omega⟩
     clear t1
     have t1 : decide ((kq : Int) < 0) = false := by simp
     cases t2 : decide ((p.reqs.length : Int) ≤ (kq : Int))
     rotate_left
     ·obtain ⟨rfl, rfl⟩ := Prod.mk.inj (HNO.out (by cases h : okM p.reqs (us.take k) ⟨ua, kq, uc⟩; rfl; have := (okM_iff _ _ _).1 h; simp at t2 this; omega))
      have t2' : decide (p.reqs.length ≤ kq) = true := by simp at t2 ⊢; omega
      have HBW := Lib.hid hBE2
      clear hB hBE2 HNO HEE
      go_wp2_with fail
      go_quiet (fail)
      go_wp2_with fail
      go_ret2
      exact ⟨rfl, below_drewN (HBW.out.alloc HBW.out.size _) _⟩
     have hkq : kq < p.reqs.length := by simp at t2; omega
     have t2' : decide (p.reqs.length ≤ kq) = false := by simp; omega
     have f1 := HFL.out.cell (i := kq) (by rw [restR_len]; exact hkq)
     have f2 := HFL.out.free kq
     have hbds := rest_bd HCR.out HOK.out hkq
     rw [restR_at _ _ hkq] at f1
     obtain ⟨z, hz⟩ : ∃ z, z = (p.reqs.getD kq default).credits - usR kq (us.take k) := ⟨_, rfl⟩
     rw [← hz] at f1 hbds
     have HZ := Lib.hid hz
     obtain ⟨z0, z1, _, _⟩ := hbds
     clear hz
     cases t3 : decide (uc < 1)
     rotate_left
     ·obtain ⟨rfl, rfl⟩ := Prod.mk.inj (HNO.out (by cases h : okM p.reqs (us.take k) ⟨ua, kq, uc⟩; rfl; have := (okM_iff _ _ _).1 h; simp only [Int.toNat_natCast] at this; simp at t3; omega))
      have HBW := Lib.hid hBE2
      clear hB hBE2 HNO HEE
      go_wp2_with fail
      go_quiet (fail)
      go_wp2_with fail
      go_ret2
      exact ⟨rfl, below_drewN (HBW.out.alloc HBW.out.size _) _⟩
     cases t4 : decide (z < uc)
     rotate_left
     ·obtain ⟨rfl, rfl⟩ := Prod.mk.inj (HNO.out (by cases h : okM p.reqs (us.take k) ⟨ua, kq, uc⟩; rfl; have := (okM_iff _ _ _).1 h; have hz := HZ.out; simp only [Int.toNat_natCast] at this; simp at t4; omega))
      have HBW := Lib.hid hBE2
      clear hB hBE2 HNO HEE
      go_wp2_with fail
      go_quiet (fail)
      go_wp2_with fail
      go_ret2
      exact ⟨rfl, below_drewN (HBW.out.alloc HBW.out.size _) _⟩
     have hu1 : 1 ≤ uc := by simp at t3; omega
     have hu2 : uc ≤ z := by simp at t4; omega
     have HYES : Hid (okMgo p.reqs [] (us.take (k + 1)) = true) := Lib.hid (by
      rw [take_snoc_of HXK.out, okMgo_split, HOK.out]
      have e : okM p.reqs (us.take k) ⟨ua, kq, uc⟩ = true := (okM_iff _ _ _).2 ⟨by simp, by simpa using hkq, hu1, by simp only [Int.toNat_natCast]; rw [← HZ.out]; exact hu2⟩
      simp [okMgo, e])
     have HSET : Hid (∀ W : World, FlAt W F (restR p.reqs (us.take k)) → FlAt (W.setCell ⟨F, kq, none⟩ (.int .i64 (z - uc))) F (restR p.reqs (us.take (k + 1)))) := Lib.hid (fun W h => by
      have := h.set kq (z - uc)
      rwa [HZ.out, restR_set p.reqs (us.take k) ⟨ua, kq, uc⟩ rfl hkq, ← HZ.out, ← take_snoc_of HXK.out] at this)
     have HFA := Lib.hid (HFL.out.alloc (.cells #[.int .i64 ua, .int .i64 kq, .int .i64 uc] 109))
     have HB4 := Lib.hid (hB.alloc hB.size (.cells #[.int .i64 ua, .int .i64 kq, .int .i64 uc] 109))
     clear hB hBE2 HNO HZ
     go_wp2_with fail
     go_quiet (fail)
     go_upto_region 15 with fail
     refine wp_region_tail 9 (by kernel_rfl) (by kernel_rfl) ?_
     simp only [List.take_succ_cons, List.take_zero, List.drop_succ_cons, List.drop_zero]
     repeat still_step
     refine wpStill_nil ?_
     go_wp2_with fail
     go_roundw
     case rel => exact ⟨k + 1, by omega, by go_num, rfl, HSET.out _ HFA.out, HYES.out, (below_drewN HB4.out _).setCell hFl _⟩
     case measure => simp [intOf]; omega
    ·obtain rfl : k = us.length := by omega
     have hEE := HEE.out
     rw [List.take_length] at hok hfl
     rw [if_pos hok] at hEE
     obtain ⟨rfl, rfl⟩ := Prod.mk.inj hEE
     have HMEM := Lib.hid (rest_mem HCR.out hok)
     have hsum : sumL (restR p.reqs us) = totR p.reqs - usT us := by
      have := rest_total p.reqs us [] hok
      rw [List.nil_append, rest_nil_total] at this
      exact this
     obtain ⟨xs, hxs⟩ : ∃ xs, xs = restR p.reqs us := ⟨_, rfl⟩
     have hxl : xs.length = p.reqs.length := by rw [hxs, restR_len]
     rw [← hxs] at hfl HMEM hsum
     have HF := Lib.hid hfl
     have HBW := Lib.hid hBE2
     have HXL := Lib.hid hxl
     have HSUM := Lib.hid hsum
     clear hxs hxl hsum hEE HEE hfl hok hB hBE2 hlt HFL HOK HB
     go_wp2_with fail
     obtain ⟨wo, hwo⟩ : ∃ X, X = wr := ⟨_, rfl⟩
     subst hwo
     go_loopw [4, 79] (fun v i wr => ∃ k : Nat, k ≤ p.reqs.length ∧ i = .int .i64 k ∧ v = .int .i64 (sumL (xs.take k)) ∧ wr = wo) (fun _ i _ => p.reqs.length - (intOf i).toNat)
     case atStart => exact ⟨0, Nat.zero_le _, rfl, rfl, rfl⟩
     case round =>
      obtain ⟨k, hk, rfl, rfl, rfl⟩ := hrel
      obtain ⟨sa, sb⟩ := sumL_le (xs.take k) 10000 (fun x hx => HMEM.out x (List.mem_of_mem_take hx))
      have tl : (xs.take k).length ≤ k := List.length_take_le _ _
      obtain ⟨T, hT⟩ : ∃ T, T = sumL (xs.take k) := ⟨_, rfl⟩
      rw [← hT] at sa sb ⊢
      have htb : T ≤ 640000 := by omega
      have HT := Lib.hid hT
      clear hT sb tl
      have hflt := HF.out.lt
      by_cases hlt : k < p.reqs.length
      ·have f1 := HF.out.cell (i := k) (by rw [HXL.out]; exact hlt)
       obtain ⟨z, hz⟩ : ∃ z, z = xs.getD k 0 := ⟨_, rfl⟩
       rw [← hz] at f1
       have HS : Hid (sumL (xs.take (k + 1)) = T + z) := Lib.hid (by rw [sumL_take (by rw [HXL.out]; exact hlt), ← HT.out, hz])
       have hzb := HMEM.out z (by rw [hz, List.getD_eq_getElem?_getD, List.getElem?_eq_getElem (by rw [HXL.out]; exact hlt)]; exact List.getElem_mem _)
       obtain ⟨zb1, zb2⟩ := hzb
       clear hz
       go_wp2_with fail
       go_roundw
       case rel => exact ⟨k + 1, by omega, by go_num, by rw [HS.out], by first | rfl | trivial⟩
       case measure => simp [intOf]; omega
      ·obtain rfl : k = p.reqs.length := by omega
       have hTE : T = totR p.reqs - usT us := by rw [HT.out, ← HXL.out, List.take_length]; exact HSUM.out
       subst hTE
       go_wp2_with fail
       go_ret2
       exact ⟨rfl, HBW.out⟩
theorem tot_bd {qs : List Rq} (hq : ∀ q ∈ qs, 1 ≤ q.credits ∧ q.credits ≤ 10000) (hl : qs.length ≤ 64) {us : List Us} (h : okMgo qs [] us = true) : 0 ≤ totR qs - usT us ∧ totR qs - usT us ≤ 640000 := by
 have h1 := rest_total qs us [] h
 rw [List.nil_append, rest_nil_total] at h1
 rw [← h1]
 obtain ⟨a, b⟩ := sumL_le _ 10000 (rest_mem hq h)
 rw [restR_len] at b
 omega
def ordOk (pre : List Us) (u : Us) : Bool :=
 match pre.getLast? with
 | none => true
 | some v => decide (v.att < u.att) || (v.att == u.att && decide (v.req < u.req))
def okA (p : Pg) (l : List At) (pre : List Us) (u : Us) : Bool :=
 decide (0 ≤ u.att ∧ u.att < (l.length : Int) ∧ 0 ≤ u.req ∧ u.req < (p.reqs.length : Int)) && (ordOk pre u && (decide (1 ≤ u.credits ∧ u.credits ≤ (l.getD u.att.toNat default).credits) && (elig (p.reqs.getD u.req.toNat default) (l.getD u.att.toNat default) &&
  decide (usA u.att pre + u.credits ≤ (l.getD u.att.toNat default).credits * p.uses ∧ usR u.req pre + u.credits ≤ (p.reqs.getD u.req.toNat default).credits))))
theorem okA_iff (p : Pg) (l : List At) (pre : List Us) (u : Us) : okA p l pre u = true ↔ (0 ≤ u.att ∧ u.att < (l.length : Int) ∧ 0 ≤ u.req ∧ u.req < (p.reqs.length : Int)) ∧ ordOk pre u = true ∧ (1 ≤ u.credits ∧ u.credits ≤ (l.getD u.att.toNat default).credits) ∧
 elig (p.reqs.getD u.req.toNat default) (l.getD u.att.toNat default) = true ∧ usA u.att pre + u.credits ≤ (l.getD u.att.toNat default).credits * p.uses ∧ usR u.req pre + u.credits ≤ (p.reqs.getD u.req.toNat default).credits := by
 simp only [okA, Bool.and_eq_true, decide_eq_true_eq]
def okAgo (p : Pg) (l : List At) : List Us → List Us → Bool
 | _, [] => true
 | pre, u :: us => okA p l pre u && okAgo p l (pre ++ [u]) us
theorem okAgo_split (p : Pg) (l : List At) : ∀ (a b pre : List Us), okAgo p l pre (a ++ b) = (okAgo p l pre a && okAgo p l (pre ++ a) b)
 | [], b, pre => by simp [okAgo]
 | u :: a, b, pre => by simp only [List.cons_append, okAgo, okAgo_split p l a b (pre ++ [u]), List.append_assoc, Bool.and_assoc, List.nil_append]
def allowP (p : Pg) (l : List At) (us : List Us) : Int := if askedE p l = 0 then (if okAgo p l [] us then 0 else 200) else askedE p l
theorem okAgo_credits (p : Pg) (l : List At) (hl : ∀ a ∈ l, a.credits ≤ 60) : ∀ (us pre : List Us), okAgo p l pre us = true → ∀ u ∈ us, 1 ≤ u.credits ∧ u.credits ≤ 60
 | [], _, _ => by simp
 | u :: us, pre, h => by
   simp only [okAgo, Bool.and_eq_true] at h
   intro v hv
   rcases List.mem_cons.1 hv with rfl | hv
   ·obtain ⟨⟨h1, h2, _⟩, _, ⟨h3, h4⟩, _⟩ := (okA_iff _ _ _ _).1 h.1
    refine ⟨h3, Int.le_trans h4 ?_⟩
    obtain ⟨k, hk⟩ : ∃ k : Nat, v.att = k := ⟨v.att.toNat, by omega⟩
    rw [hk, Int.toNat_natCast, List.getD_eq_getElem?_getD, List.getElem?_eq_getElem (by omega)]
    exact hl _ (List.getElem_mem _)
   ·exact okAgo_credits p l hl us _ h.2 v hv
theorem usA_nonneg (k : Int) : ∀ l : List Us, (∀ u ∈ l, 1 ≤ u.credits ∧ u.credits ≤ 60) → 0 ≤ usA k l ∧ usA k l ≤ 60 * (l.length : Int)
 | [], _ => by simp [usA]
 | u :: l, h => by
   obtain ⟨h1, h3⟩ := usA_nonneg k l (fun v hv => h v (List.mem_cons_of_mem _ hv))
   have h2 := h u (List.mem_cons_self ..)
   simp only [usA, List.length_cons]; split <;> omega
theorem usR_nonneg2 (k : Int) : ∀ l : List Us, (∀ u ∈ l, 1 ≤ u.credits ∧ u.credits ≤ 60) → 0 ≤ usR k l ∧ usR k l ≤ 60 * (l.length : Int)
 | [], _ => by simp [usR]
 | u :: l, h => by
   obtain ⟨h1, h3⟩ := usR_nonneg2 k l (fun v hv => h v (List.mem_cons_of_mem _ hv))
   have h2 := h u (List.mem_cons_self ..)
   simp only [usR, List.length_cons]; split <;> omega
theorem ordOk_at {us : List Us} {k : Nat} {v u : Us} (h : us[k]? = some v) : ordOk (us.take (k + 1)) u = (decide (v.att < u.att) || (v.att == u.att && decide (v.req < u.req))) := by
 unfold ordOk
 rw [take_snoc_of h, List.getLast?_append]
 rfl
theorem asked_zero {p : Pg} {l : List At} (h : askedE p l = 0) : goodP p = true ∧ ∀ a ∈ l, a.good = true := by
 unfold askedE at h
 split at h
 ·rename_i hc
  refine ⟨goodP_of hc, fun a ha => ?_⟩
  unfold sumsA at h
  split at h
  ·simp at h
  ·rename_i hn
   simp only [Bool.not_eq_true] at hn
   have := List.any_eq_false.1 hn a ha
   simpa using this
 ·contradiction
theorem mul_bd {a b : Int} (h0 : 0 ≤ a) (h1 : a ≤ 60) (h2 : 1 ≤ b) (h3 : b ≤ 4) : 0 ≤ a * b ∧ a * b ≤ 240 := by
 have h4 : a.natAbs ≤ 60 := by omega
 have h5 : b.natAbs ≤ 4 := by omega
 have h6 : (a * b).natAbs ≤ 60 * 4 := by rw [Int.natAbs_mul]; exact Nat.mul_le_mul h4 h5
 have h7 : 0 ≤ a * b := Int.mul_nonneg h0 (by omega)
 omega
def CntM (L : List (Int × Value)) (f : Int → Int) : Prop := ∀ x, (lookL x L).getD (.int .i64 0) = .int .i64 (f x)
theorem CntM.zero : CntM [] (fun _ => 0) := fun _ => rfl
theorem CntM.upd {L : List (Int × Value)} {f : Int → Int} (h : CntM L f) (k n : Int) : CntM (updL k (.int .i64 n) L) (fun x => if k = x then n else f x) := fun x => by
 by_cases e : k = x
 ·subst e; rw [lookL_upd]; simp
 ·rw [lookL_upd_ne (fun h => e h.symm)]; simpa [e] using h x
theorem CntM.ext {L : List (Int × Value)} {f g : Int → Int} (h : CntM L f) (e : ∀ x, f x = g x) : CntM L g := fun x => by rw [h x, e x]
theorem zeroInt (w : World) : (zeroValue 3).run Tryz.prog w = .ok (.int .i64 0) w := by kernel_rfl
theorem look_cnt {W : World} {r : Nat} {L : List (Int × Value)} {f : Int → Int} (h : MapIs W r L) (hf : CntM L f) (k : Int) :
 (Instr.lookup 107 (.map (some r)) (.int .i64 k) false).run Tryz.prog W = .ok (.int .i64 (f k)) W := by
 rw [(run_lookup_ints (P := Tryz.prog) Tryz.underlying107 Tryz.underlying3 h (zeroInt W) k).1, hf k]
theorem upd_map {W : World} {r : Nat} {l : List (Int × Value)} (h : MapIs W r l) (k : Int) (v : Value) :
 ∃ w', (Instr.mapUpdate 107 (.map (some r)) (.int .i64 k) v).run Tryz.prog W = .ok () w' ∧ MapIs w' r (updL k v l) ∧ W.grownBy w' (some r) ∧ w'.heap.size = W.heap.size :=
 run_mapUpdate_ints (P := Tryz.prog) Tryz.underlying107 Tryz.underlying3 h k v
theorem MapIs.grown {W W' : World} {r : Nat} {l : List (Int × Value)} (h : MapIs W r l) {row : Option Nat} (hg : W.grownBy W' row) (hr : row ≠ some r) : MapIs W' r l := by
 obtain ⟨es, c, h1, h2⟩ := h
 exact ⟨es, c, (hg.block r (Array.getElem?_eq_some_iff.1 h1).1 (fun e => hr e.symm)).trans h1, h2⟩
theorem MapIs.step {W W' : World} {r : Nat} {l : List (Int × Value)} (h : MapIs W r l) (hb : Below W.heap.size W W') : MapIs W' r l := h.below hb h.lt
theorem Bx.far {W W' : World} {b : Nat} {cs : List Value} (h : Bx W b cs) {row : Option Nat} (hg : W.grownBy W' row) (hr : row ≠ some b) : Bx W' b cs := by
 have hk := hg.block b h.2.2 (fun e => hr e.symm)
 exact ⟨fun i v e => (World.cell?_of_block (a := ⟨b, i, none⟩) hk).trans (h.1 i v e), fun i => (World.frozen?_of_block (a := ⟨b, i, none⟩) hk).trans (h.2.1 i), Nat.lt_of_lt_of_le h.2.2 hg.size⟩
theorem Bx.drewN {W : World} {b : Nat} {cs : List Value} (h : Bx W b cs) (n : Nat) : Bx (W.drewN n) b cs := h
theorem Bx.alloc {W : World} {b : Nat} {cs : List Value} (h : Bx W b cs) (o : Obj) : Bx (W.alloc o) b cs := h.step ((Below.refl _ _).alloc (Nat.le_refl _) _)
end Go.Proofs.YtalmbigebjbaoaaGreatDoor
