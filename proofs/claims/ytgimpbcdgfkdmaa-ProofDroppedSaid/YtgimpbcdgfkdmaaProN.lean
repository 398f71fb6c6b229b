/- The reference's Bound. -/
import Derived.Test.YtgimpbcdgfkdmaaProM
import Derived.Deep.DeepCutAuto
import Derived.RegionTactic
import Derived.BigRegion
import Derived.IntWalk
namespace Go.Proofs.Ytgimpbcdgfkdmaa
open Go.RowKit Go.Shelf
set_option linter.unusedSimpArgs false
set_option linter.unusedVariables false

theorem acc_pre {p : Pg} {l : List At} {cs : List Bool} (hg : goodP p = true) (hga : ∀ a ∈ l, a.good = true) (hll : l.length ≤ 1000) {xs : List Int} (h : ∃ t, xs ++ t = accL p l cs) : 0 ≤ sumL xs ∧ sumL xs ≤ 650640000 := by
  obtain ⟨t, ht⟩ := h
  have hmem : ∀ y ∈ xs, 0 ≤ y ∧ y ≤ 10000 := fun y hy => acc_mem cs hg hga y (by rw [← ht]; exact List.mem_append_left _ hy)
  have hlp : xs.length ≤ 65064 := by have h1 := congrArg List.length ht; have h2 := acc_len p l cs hll (good_credits hg).2.1; simp at h1; omega
  obtain ⟨s1, s2⟩ := sumL_le xs 10000 hmem
  omega
theorem sumL_app (a b : List Int) : sumL (a ++ b) = sumL a + sumL b := by
  induction a with
  | nil => simp [sumL]
  | cons x l ih => simp only [List.cons_append, sumL, ih]; omega

set_option maxRecDepth 100000 in
set_option maxHeartbeats 8000000 in
theorem RBound_any {P : Nat → Prop} (p : Pg) (s : Sl) (l : List At) (B : Option Addr) (b : Nat) (cs : List Bool) (C : Option Addr) (cc : Nat) (w : World) (hr : Rqs w P s p.reqs) (hi : p.mean.i64) (hla : SlR w P 5 At.enc ⟨B, l.length, b⟩ l) (hcs : SlR w P 1 boolE ⟨C, cs.length, cc⟩ cs) (hll : l.length ≤ 1000) :
    Calls Try.prog 16 #[pgV p s, .slice B l.length b, .slice C cs.length cc] w fun e w' => e = .returned (.tuple #[.int .i64 (boundP p l cs).1, .int .i64 (boundP p l cs).2]) ∧ Below w.heap.size w w' := by
  have hcsl : cs.length ≤ 9223372036854775807 := maxLen_le (Nat.le_trans hcs.2.1 hcs.2.2.1)
  have hccl : cs.length ≤ cc := hcs.2.1
  have hn := hr.len
  have HR := Lib.hid hr
  have HLA := Lib.hid hla
  have HCS := Lib.hid hcs
  have hC := Lib.hid (fun W (h : Below w.heap.size w W) => Rasked_any p s l B b W (hr.step h) hi (hla.reads.below h |>.more h.size) (by omega))
  obtain ⟨A, n, c⟩ := s
  simp only at hn
  subst hn
  clear hr hla hcs
  obtain ⟨E1, E2, hE⟩ : ∃ a b, boundP p l cs = (a, b) := ⟨_, _, rfl⟩
  rw [hE]
  have HE := Lib.hid hE
  clear hE
  unfold pgV at hC ⊢
  simp only at hC ⊢
  by_cases h0 : askedE p l = 0
  rotate_left
  · have hE : boundP p l cs = (0, askedE p l) := by unfold boundP; rw [if_neg h0]
    rw [HE.out] at hE
    obtain ⟨rfl, rfl⟩ := Prod.mk.inj hE
    clear hE
    obtain ⟨E, hE⟩ : ∃ a, askedE p l = a := ⟨_, rfl⟩
    rw [hE] at hC h0 ⊢
    have e1 : (E == 0) = false := by simpa using h0
    have e2 : (E != 0) = true := by simpa using h0
    clear hE h0 HE
    go_enter Try.func16, Try.ntmps16
    go_wp2_with fail
    refine (hC.out _ ((Below.refl _ _).alloc (Nat.le_refl _) _)).mono ?_
    rintro e w2 ⟨rfl, hb2⟩
    have hbp := (Bx.new w (pgC p ⟨A, p.reqs.length, c⟩) 26).step hb2
    have HBE : Hid (Below w.heap.size w w2) := Lib.hid (((Below.refl _ _).alloc (Nat.le_refl _) _).trans (hb2.mono (by simp)))
    have p6 := hbp.1 6 _ rfl
    have pz := hbp.2.2
    have HBX := Lib.hid hbp
    clear hb2 hbp
    go_wp2_with fail
    go_ret2
    exact ⟨rfl, HBE.out⟩
  rw [h0] at hC
  obtain ⟨hg, hga⟩ := asked_zero h0
  have HG := Lib.hid hg
  have HGA := Lib.hid hga
  obtain ⟨hcr, hlen, hu1, hu4⟩ := good_credits hg
  have HEE : Hid ((E1, E2) = if okCut p l cs then (max 0 (totR p.reqs - sumL (accL p l cs)), 0) else (0, 200)) := Lib.hid (by rw [← HE.out]; unfold boundP; rw [if_pos h0])
  clear h0 HE hg hga hcr
  cases c1 : ((cs.length : Int) != 2 + (l.length : Int) + (p.reqs.length : Int))
  rotate_left
  · obtain ⟨rfl, rfl⟩ := Prod.mk.inj (show (E1, E2) = (0, 200) by rw [HEE.out, if_neg (by simp [okCut]; simp at c1; omega)])
    clear HEE
    go_enter Try.func16, Try.ntmps16
    go_wp2_with fail
    refine (hC.out _ ((Below.refl _ _).alloc (Nat.le_refl _) _)).mono ?_
    rintro e w2 ⟨rfl, hb2⟩
    have hbp := (Bx.new w (pgC p ⟨A, p.reqs.length, c⟩) 26).step hb2
    have HBE : Hid (Below w.heap.size w w2) := Lib.hid (((Below.refl _ _).alloc (Nat.le_refl _) _).trans (hb2.mono (by simp)))
    have p6 := hbp.1 6 _ rfl
    have pz := hbp.2.2
    have HBX := Lib.hid hbp
    clear hb2 hbp
    go_wp2_with fail
    go_ret2
    exact ⟨rfl, HBE.out⟩
  have hcl : cs.length = 2 + l.length + p.reqs.length := by simp at c1; omega
  obtain ⟨bc, oc, hCe, hbc, hcell⟩ := HCS.out.reads (by omega)
  subst hCe
  have hce : ∀ j, j < cs.length → w.cell? ⟨bc, oc + j, none⟩ = some (.bool (cs.getD j false)) := fun j hj => by
    have := hcell j cs[j] 0 _ (List.getElem?_eq_getElem hj) rfl
    simp only [Nat.mul_one, Nat.add_zero] at this
    rw [this, List.getD_eq_getElem?_getD, List.getElem?_eq_getElem hj]
    rfl
  have d0 := hce 0 (by omega)
  have d1 := hce (1 + l.length + p.reqs.length) (by omega)
  simp only [Nat.add_zero] at d0
  obtain ⟨b0, hb0⟩ : ∃ x, x = cs.getD 0 false := ⟨_, rfl⟩
  obtain ⟨b1, hb1⟩ : ∃ x, x = cs.getD (1 + l.length + p.reqs.length) false := ⟨_, rfl⟩
  have hok : okCut p l cs = (b0 && !b1) := by unfold okCut; rw [← hb0, ← hb1, decide_eq_true hcl]; rfl
  rw [← hb0] at d0
  rw [← hb1] at d1
  rw [hok] at HEE
  have HCE := Lib.hid hce
  have HCL := Lib.hid hcl
  have hti : (1 + (l.length : Int) + (p.reqs.length : Int)).toNat = 1 + l.length + p.reqs.length := by omega
  have hti0 : (0 : Int) ≤ 1 + (l.length : Int) + (p.reqs.length : Int) := by omega
  have hti1 : 1 + (l.length : Int) + (p.reqs.length : Int) < (cs.length : Int) := by omega
  have hcpos : (0 : Int) < (cs.length : Int) := by omega
  have hcposn : 0 < cs.length := by omega
  clear hb0 hb1 hok hce hcell hcl
  cases b0
  · obtain ⟨rfl, rfl⟩ := Prod.mk.inj (show (E1, E2) = (0, 200) by rw [HEE.out, if_neg (by simp)])
    clear HEE
    go_enter Try.func16, Try.ntmps16
    go_wp2_with fail
    refine (hC.out _ ((Below.refl _ _).alloc (Nat.le_refl _) _)).mono ?_
    rintro e w2 ⟨rfl, hb2⟩
    have hbp := (Bx.new w (pgC p ⟨A, p.reqs.length, c⟩) 26).step hb2
    have HBE : Hid (Below w.heap.size w w2) := Lib.hid (((Below.refl _ _).alloc (Nat.le_refl _) _).trans (hb2.mono (by simp)))
    have p6 := hbp.1 6 _ rfl
    have pz := hbp.2.2
    have HBX := Lib.hid hbp
    clear hb2 hbp
    have d0 := (HBE.out.cell (p := ⟨bc, oc, none⟩) hbc).trans d0
    have d1 := (HBE.out.cell (p := ⟨bc, oc + (1 + l.length + p.reqs.length), none⟩) hbc).trans d1
    have hbc2 : bc < w2.heap.size := by have := HBE.out.size; omega
    go_wp2_with fail
    go_ret2
    exact ⟨rfl, HBE.out⟩
  cases b1
  rotate_left
  · obtain ⟨rfl, rfl⟩ := Prod.mk.inj (show (E1, E2) = (0, 200) by rw [HEE.out, if_neg (by simp)])
    clear HEE
    go_enter Try.func16, Try.ntmps16
    go_wp2_with fail
    refine (hC.out _ ((Below.refl _ _).alloc (Nat.le_refl _) _)).mono ?_
    rintro e w2 ⟨rfl, hb2⟩
    have hbp := (Bx.new w (pgC p ⟨A, p.reqs.length, c⟩) 26).step hb2
    have HBE : Hid (Below w.heap.size w w2) := Lib.hid (((Below.refl _ _).alloc (Nat.le_refl _) _).trans (hb2.mono (by simp)))
    have p6 := hbp.1 6 _ rfl
    have pz := hbp.2.2
    have HBX := Lib.hid hbp
    clear hb2 hbp
    have d0 := (HBE.out.cell (p := ⟨bc, oc, none⟩) hbc).trans d0
    have d1 := (HBE.out.cell (p := ⟨bc, oc + (1 + l.length + p.reqs.length), none⟩) hbc).trans d1
    have hbc2 : bc < w2.heap.size := by have := HBE.out.size; omega
    go_wp2_with fail
    go_ret2
    exact ⟨rfl, HBE.out⟩
  obtain ⟨rfl, rfl⟩ := Prod.mk.inj (show (E1, E2) = (max 0 (totR p.reqs - sumL (accL p l cs)), 0) by rw [HEE.out]; rfl)
  clear HEE
  have hT := Lib.hid (fun W (h : Below w.heap.size w W) => Rtotal_any p ⟨A, p.reqs.length, c⟩ W (HR.out.step h) HG.out)
  unfold pgV at hT
  simp only at hT
  have hTb := totR_bd p.reqs (good_credits HG.out).1
  obtain ⟨T, hTT⟩ : ∃ T, T = totR p.reqs := ⟨_, rfl⟩
  rw [← hTT] at hT hTb
  have hT0 : 0 ≤ T := hTb.1
  have hT1 : T ≤ 640000 := by omega
  have HTT := Lib.hid hTT
  clear hTT hTb
  go_enter Try.func16, Try.ntmps16
  go_wp2_with fail
  refine (hC.out _ ((Below.refl _ _).alloc (Nat.le_refl _) _)).mono ?_
  rintro e w2 ⟨rfl, hb2⟩
  have hbp := (Bx.new w (pgC p ⟨A, p.reqs.length, c⟩) 26).step hb2
  have HBE : Hid (Below w.heap.size w w2) := Lib.hid (((Below.refl _ _).alloc (Nat.le_refl _) _).trans (hb2.mono (by simp)))
  have p6 := hbp.1 6 _ rfl
  have pz := hbp.2.2
  have HBX := Lib.hid hbp
  clear hb2 hbp
  have d0 := (HBE.out.cell (p := ⟨bc, oc, none⟩) hbc).trans d0
  have d1 := (HBE.out.cell (p := ⟨bc, oc + (1 + l.length + p.reqs.length), none⟩) hbc).trans d1
  have hbc2 : bc < w2.heap.size := by have := HBE.out.size; omega
  go_wp2_with fail
  clear d0 d1 p6 pz hti hti0 hti1 c1
  go_loopw [11, 12] (fun v i' wr => ∃ i : Nat, i ≤ l.length ∧ i' = .int .i64 i ∧ v = .int .i64 (sumL ((List.range i).flatMap (rowL p l cs))) ∧ Below w2.heap.size w2 wr) (fun _ i' _ => l.length - (intOf i').toNat)
  case atStart => exact ⟨0, Nat.zero_le _, rfl, rfl, Below.refl _ _⟩
  case round =>
    obtain ⟨i, hi, rfl, rfl, hB⟩ := hrel
    have hbx := HBX.out.step hB
    have p2 := hbx.1 2 _ rfl
    have p6 := hbx.1 6 _ rfl
    have pz := hbx.2.2
    have hBE2 : Below w.heap.size w wr := HBE.out.trans (hB.mono HBE.out.size)
    have HB := Lib.hid hB
    have hbc3 : bc < wr.heap.size := by have := hB.size; omega
    have hpre := acc_pre HG.out HGA.out hll (show ∃ t, (List.range i).flatMap (rowL p l cs) ++ t = accL p l cs from by
      obtain ⟨t, ht⟩ := flat_range_pre (rowL p l cs) hi
      exact ⟨t ++ (List.range p.reqs.length).flatMap (colL p l cs), by unfold accL; rw [← ht]; simp only [List.append_assoc]⟩)
    obtain ⟨S, hS⟩ : ∃ S, S = sumL ((List.range i).flatMap (rowL p l cs)) := ⟨_, rfl⟩
    rw [← hS] at hpre ⊢
    have HS := Lib.hid hS
    obtain ⟨s0, s1⟩ := hpre
    clear hS hbx
    by_cases hlt : i < l.length
    · obtain ⟨ba, oa, a, hBe, hba, hxa, hca⟩ := HLA.out.reads.at_ hlt
      subst hBe
      have hgood := HGA.out a (List.mem_of_getElem? hxa)
      obtain ⟨ac, am, ag, ap, ak⟩ := a
      have a0 := (hBE2.cell (p := ⟨ba, oa + i * 5 + 0, none⟩) hba).trans (hca 0 _ rfl)
      have a1 := (hBE2.cell (p := ⟨ba, oa + i * 5 + 1, none⟩) hba).trans (hca 1 _ rfl)
      have a2 := (hBE2.cell (p := ⟨ba, oa + i * 5 + 2, none⟩) hba).trans (hca 2 _ rfl)
      have a3 := (hBE2.cell (p := ⟨ba, oa + i * 5 + 3, none⟩) hba).trans (hca 3 _ rfl)
      have a4 := (hBE2.cell (p := ⟨ba, oa + i * 5 + 4, none⟩) hba).trans (hca 4 _ rfl)
      simp only [Nat.add_zero] at a0
      have hba2 : ba < wr.heap.size := by have := hBE2.size; omega
      have hld : l.getD i default = ⟨ac, am, ag, ap, ak⟩ := getD_some hxa
      have HLD := Lib.hid hld
      have cA := (hBE2.cell (p := ⟨bc, oc + (1 + i), none⟩) hbc).trans (HCE.out (1 + i) (by have := HCL.out; omega))
      have hti : (1 + (i : Int)).toNat = 1 + i := by omega
      have hti2 : 1 + i < cs.length := by have := HCL.out; omega
      have hti3 : 1 + (i : Int) < (cs.length : Int) := by omega
      obtain ⟨sa, hsa⟩ : ∃ b, b = sideA cs i := ⟨_, rfl⟩
      rw [show cs.getD (1 + i) false = sa from hsa.symm] at cA
      have HSA := Lib.hid hsa
      obtain ⟨_, _, hk0, hk1, _, _⟩ := good_at hgood
      try simp only at hk0 hk1
      obtain ⟨hp0, hp1⟩ := mul_bd hk0 hk1 hu1 hu4
      have HBW := Lib.hid hBE2
      have HCAl := Lib.hid hca
      clear hld hsa hca hxa hgood hB hBE2
      cases sa
      · have HROW : Hid (rowL p l cs i = [ak * p.uses]) := Lib.hid (by unfold rowL; rw [← HSA.out, HLD.out]; rfl)
        go_wp2_with fail
        go_quiet (fail)
        go_wp2_with fail
        go_roundw
        case rel => exact ⟨i + 1, by omega, by go_num, by rw [flat_range, HROW.out, sumL_snoc, HS.out], below_drewN HB.out _⟩
        case measure => simp [intOf]; omega
      · have HROW : Hid (rowL p l cs i = (List.range p.reqs.length).flatMap (cellL p l cs i)) := Lib.hid (by unfold rowL; rw [← HSA.out]; rfl)
        go_wp2_with fail
        clear p2 p6 pz cA hti hti2 hti3 a0 a1 a2 a3 a4
        obtain ⟨wo, hwo⟩ : ∃ X, X = wr := ⟨_, rfl⟩
        subst hwo
        go_loopw [11, 13] (fun v k' wr => ∃ k : Nat, k ≤ p.reqs.length ∧ k' = .int .i64 k ∧ v = .int .i64 (sumL ((List.range i).flatMap (rowL p l cs) ++ (List.range k).flatMap (cellL p l cs i))) ∧ Below wo.heap.size wo wr) (fun _ k' _ => p.reqs.length - (intOf k').toNat)
        case atStart => exact ⟨0, Nat.zero_le _, rfl, by rw [HS.out]; simp, Below.refl _ _⟩
        case round =>
          obtain ⟨k, hk, rfl, rfl, hB2⟩ := hrel
          have hBw : Below w2.heap.size w2 wr := HB.out.trans (hB2.mono HB.out.size)
          have hbx := HBX.out.step hBw
          have p6 := hbx.1 6 _ rfl
          have pz := hbx.2.2
          have hBE2 : Below w.heap.size w wr := HBE.out.trans (hBw.mono HBE.out.size)
          have HB2 := Lib.hid hB2
          have hbc4 : bc < wr.heap.size := by have := hB2.size; omega
          have hba4 : ba < wr.heap.size := by have := hB2.size; omega
          have hprk : ∃ t, (List.range i).flatMap (rowL p l cs) ++ (List.range k).flatMap (cellL p l cs i) ++ t = accL p l cs := by
            obtain ⟨t, ht⟩ := acc_row (p := p) (cs := cs) hlt
            obtain ⟨u, hu⟩ := flat_range_pre (cellL p l cs i) hk
            rw [HROW.out, ← hu] at ht
            exact ⟨u ++ t, by rw [← ht]; simp only [List.append_assoc]⟩
          obtain ⟨q0, q1⟩ := acc_pre HG.out HGA.out hll hprk
          obtain ⟨S2, hS2⟩ : ∃ S, S = sumL ((List.range i).flatMap (rowL p l cs) ++ (List.range k).flatMap (cellL p l cs i)) := ⟨_, rfl⟩
          rw [← hS2] at q0 q1 ⊢
          have HS2 := Lib.hid hS2
          clear hS2 hprk hbx
          by_cases hlk : k < p.reqs.length
          · obtain ⟨bb, off, q, nm, ns, f, hAe, hbb, hxq, hqf, c0, c1, c2, c3, c4, c5⟩ := (HR.out.step hBE2).at_ hlk
            simp only at hAe
            subst hAe
            have a0 := (hBE2.cell (p := ⟨ba, oa + i * 5 + 0, none⟩) hba).trans (HCAl.out 0 _ rfl)
            have a1 := (hBE2.cell (p := ⟨ba, oa + i * 5 + 1, none⟩) hba).trans (HCAl.out 1 _ rfl)
            have a2 := (hBE2.cell (p := ⟨ba, oa + i * 5 + 2, none⟩) hba).trans (HCAl.out 2 _ rfl)
            have a3 := (hBE2.cell (p := ⟨ba, oa + i * 5 + 3, none⟩) hba).trans (HCAl.out 3 _ rfl)
            have a4 := (hBE2.cell (p := ⟨ba, oa + i * 5 + 4, none⟩) hba).trans (HCAl.out 4 _ rfl)
            simp only [Nat.add_zero] at a0
            have hqd : p.reqs.getD k default = q := getD_some hxq
            have hfl := HR.out.frlen q (List.mem_of_getElem? hxq)
            have cR := (hBE2.cell (p := ⟨bc, oc + (1 + l.length + k), none⟩) hbc).trans (HCE.out (1 + l.length + k) (by have := HCL.out; omega))
            have hti : (1 + (l.length : Int) + (k : Int)).toNat = 1 + l.length + k := by omega
            have hti0 : (0 : Int) ≤ 1 + (l.length : Int) + (k : Int) := by omega
            have hti3 : 1 + (l.length : Int) + (k : Int) < (cs.length : Int) := by have := HCL.out; omega
            obtain ⟨sr, hsr⟩ : ∃ b, b = sideR l cs k := ⟨_, rfl⟩
            rw [show cs.getD (1 + l.length + k) false = sr from hsr.symm] at cR
            obtain ⟨el, hel⟩ : ∃ b, b = elig q ⟨ac, am, ag, ap, ak⟩ := ⟨_, rfl⟩
            have HCELL : Hid (cellL p l cs i k = if !sr && el then [ak] else []) := Lib.hid (by unfold cellL; rw [← hsr, hqd, HLD.out, ← hel])
            have HEL := Lib.hid hel
            have HQF := Lib.hid hqf
            have hlk2 : decide ((k : Int) < (p.reqs.length : Int)) = true := by simpa using hlk
            clear hqd hsr hel hqf hxq hBw hBE2
            cases sr
            rotate_left
            · go_upto_region 17 with fail
              have hw1 : IntKind.i64.wrap (1 + (l.length : Int)) = 1 + (l.length : Int) := IntWalk.i64_in _ (by omega)
              have hw2 : IntKind.i64.wrap (1 + (l.length : Int) + (k : Int)) = 1 + (l.length : Int) + (k : Int) := IntWalk.i64_in _ (by omega)
              refine wp_region_below (by kernel_rfl) (by kernel_rfl) ?_
              repeat (first
                | go_big_quiet_skip
                | (go_big_quiet_want
                   first
                     | (apply quiet_val
                        focus (
                          intro WC hWC
                          obtain ⟨hcc0, hff0⟩ := bcell hWC
                          go_simp
                          all_goals rfl
                          done)
                        go_simp
                        go_big_quiet_on)))
              refine wpQuiet_nil ?_
              intro W5 hW5
              clear hw1 hw2
              have HB5 := Lib.hid (HB2.out.trans (hW5.mono HB2.out.size))
              clear hW5 a0 a1 a2 a3 a4 cR c0 c1 c2 c3 c4 c5 p6 pz
              go_wp2_with fail
              go_roundw
              case rel => exact ⟨k + 1, by omega, by go_num, by rw [flat_range, HCELL.out, HS2.out]; simp, HB5.out⟩
              case measure => simp [intOf]; omega
            · have S1 : Hid (∀ W, Below wr.heap.size wr W → Calls Try.prog 30 #[.agg #[.string nm, .int .i64 q.credits, .int .i64 q.grade, .bool q.home, .slice ns.a ns.n ns.c, .slice f.a f.n f.c], .agg #[.int .i64 ac, .int .i64 am, .int .i64 ag, .int .i64 ap, .int .i64 ak]] W fun e w' => e = .returned (.bool el) ∧ Below wr.heap.size wr w') := Lib.hid (fun W h => by
                rw [HEL.out]
                exact (Religible_any (P := P) q nm ns f ⟨ac, am, ag, ap, ak⟩ W (HQF.out.step h) hfl).mono (fun e w' k => ⟨k.1, h.trans (k.2.mono h.size)⟩))
              go_upto_region 17 with fail
              have hw1 : IntKind.i64.wrap (1 + (l.length : Int)) = 1 + (l.length : Int) := IntWalk.i64_in _ (by omega)
              have hw2 : IntKind.i64.wrap (1 + (l.length : Int) + (k : Int)) = 1 + (l.length : Int) + (k : Int) := IntWalk.i64_in _ (by omega)
              refine wp_region_below (by kernel_rfl) (by kernel_rfl) ?_
              repeat (first
                | go_big_quiet_skip
                | (go_big_quiet_want
                   first
                     | (apply quiet_val
                        focus (
                          intro WC hWC
                          obtain ⟨hcc0, hff0⟩ := bcell hWC
                          go_simp
                          all_goals rfl
                          done)
                        go_simp
                        go_big_quiet_on)
                     | (apply quiet_call
                        focus (
                          intro WC hWC
                          go_simp
                          all_goals (first | rfl | exact ⟨rfl, rfl⟩)
                          done)
                        focus (
                          intro WC hWC
                          with_reducible exact S1.out WC hWC
                          done)
                        go_simp
                        go_big_quiet_on)))
              refine wpQuiet_nil ?_
              intro W5 hW5
              clear hw1 hw2
              have HB5 := Lib.hid (HB2.out.trans (hW5.mono HB2.out.size))
              have a4' := (hW5.cell (p := ⟨ba, oa + i * 5 + 4, none⟩) hba4).trans a4
              have hba5 : ba < W5.heap.size := by have := hW5.size; omega
              clear hW5 a0 a1 a2 a3 a4 S1 cR c0 c1 c2 c3 c4 c5 p6 pz
              cases el
              · go_wp2_with fail
                go_roundw
                case rel => exact ⟨k + 1, by omega, by go_num, by rw [flat_range, HCELL.out, HS2.out]; simp, HB5.out⟩
                case measure => simp [intOf]; omega
              · go_wp2_with fail
                go_roundw
                case rel => exact ⟨k + 1, by omega, by go_num, by rw [flat_range, HCELL.out, ← List.append_assoc, sumL_app, ← HS2.out]; simp [sumL], HB5.out⟩
                case measure => simp [intOf]; omega
          · obtain rfl : k = p.reqs.length := by omega
            have HBF := Lib.hid (HB.out.trans (HB2.out.mono HB.out.size))
            clear hBw hB2 hBE2
            go_wp2_with fail
            go_roundw
            case rel => exact ⟨i + 1, by omega, by go_num, by rw [flat_range, HROW.out, HS2.out], HBF.out⟩
            case measure => simp [intOf]; omega
    · obtain rfl : i = l.length := by omega
      clear hB hBE2 p2
      go_wp2_with fail
      have HB1 := HB
      go_loopw [11, 14] (fun v k' wr => ∃ k : Nat, k ≤ p.reqs.length ∧ k' = .int .i64 k ∧ v = .int .i64 (sumL ((List.range l.length).flatMap (rowL p l cs) ++ (List.range k).flatMap (colL p l cs))) ∧ Below w2.heap.size w2 wr) (fun _ k' _ => p.reqs.length - (intOf k').toNat)
      case atStart => exact ⟨0, Nat.zero_le _, rfl, by rw [HS.out]; simp, HB1.out⟩
      case round =>
        clear p6 pz HB1 HB hbc3 hlt hi
        obtain ⟨k, hk, rfl, rfl, hBw⟩ := hrel
        have hbx := HBX.out.step hBw
        have p0 := hbx.1 0 _ rfl
        have p1 := hbx.1 1 _ rfl
        have p2 := hbx.1 2 _ rfl
        have p3 := hbx.1 3 _ rfl
        have p4 := hbx.1 4 _ rfl
        have p5 := hbx.1 5 _ rfl
        have p6 := hbx.1 6 _ rfl
        have pz := hbx.2.2
        have hBE2 : Below w.heap.size w wr := HBE.out.trans (hBw.mono HBE.out.size)
        have HB2 := Lib.hid hBw
        have hbc4 : bc < wr.heap.size := by have := hBw.size; omega
        have hprk : ∃ t, (List.range l.length).flatMap (rowL p l cs) ++ (List.range k).flatMap (colL p l cs) ++ t = accL p l cs := by
          obtain ⟨u, hu⟩ := flat_range_pre (colL p l cs) hk
          exact ⟨u, by unfold accL; rw [← hu]; simp only [List.append_assoc]⟩
        obtain ⟨q0, q1⟩ := acc_pre HG.out HGA.out hll hprk
        obtain ⟨S2, hS2⟩ : ∃ S, S = sumL ((List.range l.length).flatMap (rowL p l cs) ++ (List.range k).flatMap (colL p l cs)) := ⟨_, rfl⟩
        rw [← hS2] at q0 q1 ⊢
        have HS2 := Lib.hid hS2
        clear hS2 hprk hbx
        by_cases hlk : k < p.reqs.length
        · obtain ⟨bb, off, q, nm, ns, f, hAe, hbb, hxq, hqf, c0, c1, c2, c3, c4, c5⟩ := (HR.out.step hBE2).at_ hlk
          simp only at hAe
          subst hAe
          have hqd : p.reqs.getD k default = q := getD_some hxq
          obtain ⟨hq1, hq2⟩ := (good_credits HG.out).1 q (List.mem_of_getElem? hxq)
          have cR := (hBE2.cell (p := ⟨bc, oc + (1 + l.length + k), none⟩) hbc).trans (HCE.out (1 + l.length + k) (by have := HCL.out; omega))
          have hti : (1 + (l.length : Int) + (k : Int)).toNat = 1 + l.length + k := by omega
          have hti0 : (0 : Int) ≤ 1 + (l.length : Int) + (k : Int) := by omega
          have hti3 : 1 + (l.length : Int) + (k : Int) < (cs.length : Int) := by have := HCL.out; omega
          obtain ⟨sr, hsr⟩ : ∃ b, b = sideR l cs k := ⟨_, rfl⟩
          rw [show cs.getD (1 + l.length + k) false = sr from hsr.symm] at cR
          have HCOL : Hid (colL p l cs k = if sr then [q.credits] else []) := Lib.hid (by unfold colL; rw [← hsr, hqd])
          clear hqd hsr hqf hxq hBw hBE2 p0 p1 p2 p3 p4 p5 c0 c2 c3 c4 c5
          cases sr
          · go_wp2_with fail
            go_roundw
            case rel => exact ⟨k + 1, by omega, by go_num, by rw [flat_range, HCOL.out, HS2.out]; simp, HB2.out⟩
            case measure => simp [intOf]; omega
          · go_wp2_with fail
            go_roundw
            case rel => exact ⟨k + 1, by omega, by go_num, by rw [flat_range, HCOL.out, ← List.append_assoc, sumL_app, ← HS2.out]; simp [sumL], HB2.out⟩
            case measure => simp [intOf]; omega
        · obtain rfl : k = p.reqs.length := by omega
          have HBF := Lib.hid hBE2
          have hSE : Hid (T - S2 = totR p.reqs - sumL (accL p l cs)) := Lib.hid (by rw [HTT.out, HS2.out]; rfl)
          clear hBw hBE2
          go_wp2_with fail
          refine (hT.out _ HBF.out).mono ?_
          rintro e w9 ⟨rfl, hb9⟩
          have HBG := Lib.hid (HBF.out.trans (hb9.mono HBF.out.size))
          clear hb9
          go_wp2_with fail
          all_goals go_ret2
          all_goals refine ⟨?_, HBG.out⟩
          all_goals first
            | (rw [← hSE.out, show max 0 (T - S2) = T - S2 by omega]; rfl)
            | (rw [← hSE.out, show max 0 (T - S2) = 0 by omega]; rfl)
end Go.Proofs.Ytgimpbcdgfkdmaa
