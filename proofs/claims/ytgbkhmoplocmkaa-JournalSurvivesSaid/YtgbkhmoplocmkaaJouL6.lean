/- JournalSurvives (printed by gen_jouL6.py) -/
import Derived.Test.YtgbkhmoplocmkaaJouLC
import Derived.Test.YtgbkhmoplocmkaaJouTV
import Derived.Test.YtgbkhmoplocmkaaJouL
import Derived.Test.YtgbkhmoplocmkaaJouM
import Derived.Test.YtgbkhmoplocmkaaJouS
import Derived.BigQuiet
import Derived.OpenShut
namespace Go.Proofs.Ytgbkhmoplocmkaa
open Go.RowKit Go.Shelf
set_option linter.unusedSimpArgs false
set_option linter.unusedVariables false
set_option maxRecDepth 20000

set_option maxRecDepth 100000 in
set_option maxHeartbeats 16000000 in
theorem Survives_walk (s0 : Int) (hs0 : 0 ≤ s0 ∧ s0 < 256) (A : Option Addr) (c : Nat) (cs : List Cr) (N : Nat) (hN : N ≤ 9223372036854775696) (w : World) (hsc : SlR w everyB 3 Cr.enc ⟨A, cs.length, c⟩ cs) (hok : ∀ x ∈ cs, CrOk w N x) :
    Calls Try.prog 9 #[.int .u8 s0, .slice A cs.length c] w fun e w' => e = .returned (.bool true) ∧ Below w.heap.size w w' := by
  obtain ⟨n, hn⟩ : ∃ n : Nat, n = s0.toNat % 30 + 1 := ⟨_, rfl⟩
  have hn1 : 1 ≤ n := by omega
  have hn30 : n ≤ 30 := by omega
  have hrem : s0 % 30 + 1 = (n : Int) := by omega
  have hsl := hsc.le
  have HSC := Lib.hid hsc
  have HOK := Lib.hid hok
  have HNN := Lib.hid hN
  have HREM := Lib.hid hrem
  have HN1 := Lib.hid hn1
  have HN30 := Lib.hid hn30
  have HS0 := Lib.hid hs0
  have hways : (decide ((8 : Int) < (cs.length : Int)) = true ∧ decide (8 < cs.length) = true) ∨ (decide ((8 : Int) < (cs.length : Int)) = false ∧ decide (8 < cs.length) = false ∧ Hid (cs.length ≤ 8)) := by
    by_cases h : cs.length ≤ 8
    · exact .inr ⟨decide_eq_false (by omega), decide_eq_false (by omega), Lib.hid h⟩
    · exact .inl ⟨decide_eq_true (by omega), decide_eq_true (by omega)⟩
  clear hsc hok hN hrem hn1 hn30 hn
  have ba : Hid (Below w.heap.size w w) := Lib.hid (Below.refl _ _)
  go_enter Try.func9, Try.ntmps9
  go_wp2_with fail
  refine (sane_any _).mono ?_
  rintro e w1 ⟨rfl, hb1⟩
  have HB1 := Lib.hid hb1
  clear hb1
  rcases hways with ⟨t1, t2⟩ | ⟨t1, t2, H8⟩
  · go_wp2_with fail
    go_ret
    exact ⟨rfl, HB1.out⟩
  go_wp2_with fail
  refine (New_any _ (by have := HS0.out; omega) _).mono ?_
  rw [show s0 % 30 + 1 = (n : Int) from HREM.out, newK_eq HN1.out (by have := HN30.out; omega)]
  unfold dkV
  rintro e w2 ⟨⟨sv, pv, rfl, hd2⟩, hb2⟩
  have hB2 := HB1.out.trans (hb2.mono HB1.out.size)
  have HB2 := Lib.hid hB2
  have HD2 := Lib.hid hd2
  clear hb2 hd2 hB2 HB1
  simp only [newK]
  go_upto_region 6 with fail
  obtain ⟨B, hB⟩ : ∃ B, B = w2.heap.size := ⟨_, rfl⟩
  obtain ⟨W3, hW3⟩ : ∃ X, X = (w2.alloc (.cells #[.slice sv.a sv.n sv.c, .slice pv.a pv.n pv.c, .int .i64 (-1), .bool false] 25)) := ⟨_, rfl⟩
  rw [← hW3, ← hB]
  have hb3 : Below w2.heap.size w2 W3 := by rw [hW3]; exact (Below.refl _ _).alloc (Nat.le_refl _) _
  have HM3 : Hid (SvM w B W3 sv pv ⟨none, 0, 0⟩ (newK n)) := Lib.hid (by
    refine ⟨by rw [hW3, hB]; exact Box4.new .., (HD2.out.mono2 (fun b _ hl => by rw [hB]; exact Nat.ne_of_lt hl)).step hb3, by rw [newK_recs]; exact Se.nil_ _ _, by rw [hB]; exact HB2.out.size, HB2.out.trans (hb3.mono HB2.out.size)⟩)
  have HSV : Hid (Sv n 0 (newK n)) := Lib.hid (Sv.new_ HN1.out (by have := HN30.out; omega))
  clear hb3 hW3 hB HD2 HB2
  go_wp2_with fail
  go_loopw [40, 7] (fun t40 t7 wr => ∃ (i : Nat) (sk sv pv : Sl) (d : Dk), i ≤ cs.length ∧ t40 = .int .i64 i ∧ t7 = .slice sk.a sk.n sk.c ∧ Sv n i d ∧ SvM w B wr sv pv sk d) (fun t40 _ _ => cs.length - (intOf t40).toNat)
  case atStart => exact ⟨0, ⟨none, 0, 0⟩, sv, pv, newK n, Nat.zero_le _, rfl, rfl, HSV.out, HM3.out⟩
  case round =>
    obtain ⟨i, sk, sv, pv, d, hi, rfl, rfl, hsv, hm⟩ := hrel
    obtain ⟨W1, hW1⟩ : ∃ X, X = wr := ⟨_, rfl⟩
    subst hW1
    have HM := Lib.hid hm
    have HV := Lib.hid hsv
    have hBW := Lib.hid hm.bw
    clear hm hsv HM3 HSV
    obtain ⟨ks, hks⟩ : ∃ x, x = recsJ d.secs := ⟨_, rfl⟩
    have HKS := Lib.hid hks
    obtain ⟨SA, sn, SC⟩ := sk
    have hsn : sn = ks.length := by rw [hks]; exact HM.out.kk.len
    subst hsn
    clear hks
    by_cases hlt : i < cs.length
    · obtain ⟨b, off, x, hA, hbA, hx, hc⟩ := ((HSC.out.step HM.out.bw).reads).at_ (k := i) hlt
      simp only at hA
      subst hA
      have e0 := hc 0 _ rfl
      have e1 := hc 1 _ rfl
      have e2 := hc 2 _ rfl
      simp only [Nat.add_zero] at e0
      obtain ⟨hl8, rs, hrs, hrn, hrN⟩ := HOK.out x (List.mem_of_getElem? hx)
      have hrsl := hrs.len
      obtain ⟨⟨RA, rn, RC⟩, st, lf⟩ := x
      simp only at hrsl hl8 hrs e0 e1 e2
      subst hrsl
      have HRS := Lib.hid hrs
      have HL8 := Lib.hid hl8
      have HRB : Hid (∀ b ∈ rs, Byt b ∧ b.length ≤ 9223372036854775696) := Lib.hid (fun b hb => by
        obtain ⟨k, hk, rfl⟩ := List.getElem_of_mem hb
        obtain ⟨_, _, v, bs, _, _, e3, hby, _⟩ := hrs.at_ hk
        rw [List.getElem?_eq_getElem hk] at e3
        cases e3
        exact ⟨hby.2, Nat.le_trans (hrN _ hb) HNN.out⟩)
      have HIC := Lib.hid hlt
      have hop := HV.out.open_
      have HJ0 := HV.out.jin
      rw [← HKS.out] at hop HJ0
      have HOP := Lib.hid hop
      have HJI : Hid (∀ j, JIn n (addJ ⟨ks, n, ks.length⟩ (rs.take j))) := Lib.hid (fun j => (addJ_in (rs.take j) HJ0 (fun b hb => HRB.out b (List.mem_of_mem_take hb))).1)
      have hrsle := hrs.le
      clear hrs hrn hrN hl8 hx hc hop HJ0 HOK
      go_upto_region 12 with fail
      obtain ⟨C, hC⟩ : ∃ C, C = W1.heap.size := ⟨_, rfl⟩
      obtain ⟨W2, hW2⟩ : ∃ X, X = (W1.alloc (.cells #[.slice RA rs.length RC, .bool st, .int .u8 lf] 55)) := ⟨_, rfl⟩
      rw [← hW2, ← hC]
      have hb2 : Below W1.heap.size W1 W2 := by rw [hW2]; exact (Below.refl _ _).alloc (Nat.le_refl _) _
      have HC2 : Hid (Box3 W2 C (.slice RA rs.length RC) (.bool st) (.int .u8 lf)) := Lib.hid (by rw [hW2, hC]; exact Box3.new ..)
      have HM2 := Lib.hid (HM.out.step hb2)
      have HBC : Hid (B < C) := Lib.hid (by rw [hC]; exact HM.out.bd.z)
      clear e0 e1 e2 hbA hb2 hW2 hC HM
      obtain ⟨d0, d1, d2, d3, df0, df1, df2, df3, dz⟩ := HM2.out.bd
      obtain ⟨c0, c1, c2, cf0, cf1, cf2, cz⟩ := HC2.out
      go_wp2_with fail
      refine (few_any (P := fun b => b ≠ B) (Q := everyB) d sv pv ⟨RA, rs.length, RC⟩ rs _ HM2.out.dd (HRS.out.step HM2.out.bw)).mono ?_
      rintro e w3 ⟨rfl, hb3⟩
      have HM3 := Lib.hid (HM2.out.step hb3)
      have HC3 := Lib.hid (HC2.out.step hb3)
      clear hb3 d0 d1 d2 d3 df0 df1 df2 df3 dz c0 c1 c2 cf0 cf1 cf2 cz HM2 HC2
      obtain ⟨bf, hbf⟩ : ∃ bf, bf = fewB d rs := ⟨_, rfl⟩
      rw [← hbf]
      clear hbf
      cases bf
      · go_wp2_with fail
        go_ret
        exact ⟨rfl, HM3.out.bw⟩
      obtain ⟨d0, d1, d2, d3, df0, df1, df2, df3, dz⟩ := HM3.out.bd
      obtain ⟨c0, c1, c2, cf0, cf1, cf2, cz⟩ := HC3.out
      go_wp2_with fail
      have hopn := Open_any (P := fun b => b ≠ B) d sv pv w3 HM3.out.dd
      rw [HOP.out] at hopn
      unfold jlV dkV at hopn
      simp only at hopn
      refine hopn.mono ?_
      rintro e w4 ⟨⟨r, rfl, hr⟩, hb4⟩
      have HM4 := Lib.hid (HM3.out.step hb4)
      have HC4 := Lib.hid (HC3.out.step hb4)
      have hrl := hr.len
      obtain ⟨r0, rn, r1⟩ := r
      simp only at hrl
      subst hrl
      have HR4 := Lib.hid hr
      have hz34 : w3.heap.size ≤ w4.heap.size := hb4.size
      have HZB : Hid (B < w3.heap.size) := Lib.hid HM3.out.bd.z
      clear hb4 hr d0 d1 d2 d3 df0 df1 df2 df3 dz c0 c1 c2 cf0 cf1 cf2 cz HM3 HC3 hopn
      simp only
      go_upto_region 15 with fail
      obtain ⟨J, hJ⟩ : ∃ J, J = w4.heap.size := ⟨_, rfl⟩
      obtain ⟨W5, hW5⟩ : ∃ X, X = (w4.alloc (.cells #[.slice r0 ks.length r1, .int .i64 n, .int .i64 ks.length] 29)) := ⟨_, rfl⟩
      rw [← hW5, ← hJ]
      have hb5 : Below w4.heap.size w4 W5 := by rw [hW5]; exact (Below.refl _ _).alloc (Nat.le_refl _) _
      have HN5 : Hid (SvN w B C J W5 sv pv ⟨SA, ks.length, SC⟩ ⟨r0, ks.length, r1⟩ d ks ⟨ks, n, ks.length⟩ (.slice RA rs.length RC) (.bool st) (.int .u8 lf)) := Lib.hid (by
        refine (HM4.out.step hb5).enter (HC4.out.step hb5) (by rw [hW5, hJ]; exact Box3.new ..) HBC.out (by rw [hJ]; exact HC4.out.z) ((HM4.out.dd.mono2 (fun b h1 h2 => ⟨h1, by rw [hJ]; exact Nat.ne_of_lt h2⟩)).step hb5) ?_ ((HR4.out.mono2 (fun b h1 h2 => ⟨by have := HZB.out; omega, by rw [hJ]; exact Nat.ne_of_lt h2⟩)).step hb5)
        have hk := HM4.out.kk
        rw [← HKS.out] at hk
        exact (hk.mono2 (fun b h1 h2 => ⟨h1, by rw [hJ]; exact Nat.ne_of_lt h2⟩)).step hb5)
      clear hb5 hW5 hJ HM4 HC4 HR4 hz34
      obtain ⟨d0, d1, d2, d3, df0, df1, df2, df3, dz⟩ := HN5.out.bd
      obtain ⟨c0, c1, c2, cf0, cf1, cf2, cz⟩ := HN5.out.bc
      obtain ⟨l0, l1, l2, lf0, lf1, lf2, lz⟩ := HN5.out.bl
      go_wp2_with fail
      refine (SameRecords_any (P := (fun b => b ≠ B ∧ b ≠ J)) (Q := (fun b => b ≠ B ∧ b ≠ J)) ks ks ⟨r0, ks.length, r1⟩ ⟨SA, ks.length, SC⟩ _ HN5.out.ll HN5.out.kk).mono ?_
      rw [decide_eq_true rfl]
      rintro e w6 ⟨rfl, hb6⟩
      have HN6 := Lib.hid (HN5.out.step hb6)
      clear hb6 HN5
      clear d0 d1 d2 d3 df0 df1 df2 df3 dz c0 c1 c2 cf0 cf1 cf2 cz l0 l1 l2 lf0 lf1 lf2 lz
      obtain ⟨d0, d1, d2, d3, df0, df1, df2, df3, dz⟩ := HN6.out.bd
      obtain ⟨c0, c1, c2, cf0, cf1, cf2, cz⟩ := HN6.out.bc
      obtain ⟨l0, l1, l2, lf0, lf1, lf2, lz⟩ := HN6.out.bl
      go_wp2_with fail
      clear d0 d1 d2 d3 df0 df1 df2 df3 dz c0 c1 c2 cf0 cf1 cf2 cz l0 l1 l2 lf0 lf1 lf2 lz
      go_loopw [74] (fun t74 wr => ∃ (j : Nat) (r : Sl) (lc : Jl), j ≤ rs.length ∧ t74 = .int .i64 j ∧ lc = addJ ⟨ks, n, ks.length⟩ (rs.take j) ∧ SvN w B C J wr sv pv ⟨SA, ks.length, SC⟩ r d ks lc (.slice RA rs.length RC) (.bool st) (.int .u8 lf)) (fun t74 _ => rs.length - (intOf t74).toNat)
      case atStart => exact ⟨0, ⟨r0, ks.length, r1⟩, ⟨ks, n, ks.length⟩, Nat.zero_le _, rfl, rfl, HN6.out⟩
      case round =>
        obtain ⟨j, r, lc, hj, rfl, hlc, hm⟩ := hrel
        obtain ⟨W1, hW1⟩ : ∃ X, X = wr := ⟨_, rfl⟩
        subst hW1
        have HLC := Lib.hid hlc
        have HN := Lib.hid hm
        clear hlc hm HN6
        by_cases hjt : j < rs.length
        · have hrs2 : Se W1 (fun b => b ≠ B ∧ b ≠ J) ⟨RA, rs.length, RC⟩ rs := (HRS.out.mono2 (fun b _ hl => ⟨by have := HN.out.lo; omega, by have := HN.out.lo; have := HN.out.o1; have := HN.out.o2; omega⟩)).step HN.out.bw
          obtain ⟨bA, oA, v, s, hA, hbA, hsk, hby, hcv⟩ := hrs2.at_ hjt
          simp only at hA
          subst hA
          have HBY := Lib.hid hby
          have HSK := Lib.hid hsk
          clear hby hsk hrs2
          have hjc : JIn n lc := by rw [HLC.out]; exact HJI.out j
          have hsb := HRB.out s (List.mem_of_getElem? HSK.out)
          have hln := hjc.few
          have hap := JAppend_any (P := (fun b => b ≠ B ∧ b ≠ J)) lc r v s W1 HN.out.ll HBY.out (by have := HN30.out; omega) (fun h => hjc.short hsb.1 hsb.2 (by have := HN30.out; omega) h)
          rcases hjc.append hsb.1 hsb.2 with ⟨ha, _, _⟩ | ⟨ha, _⟩
          · have HLN : Hid (⟨lc.recs ++ [s], lc.many, lc.synced⟩ = addJ ⟨ks, n, ks.length⟩ (rs.take (j + 1))) := Lib.hid (by rw [addJ_snoc _ rs HSK.out, ← HLC.out, ha]; rfl)
            rw [ha] at hap
            unfold jlV at hap
            simp only at hap
            clear ha hjc hsb hln
            obtain ⟨d0, d1, d2, d3, df0, df1, df2, df3, dz⟩ := HN.out.bd
            obtain ⟨c0, c1, c2, cf0, cf1, cf2, cz⟩ := HN.out.bc
            obtain ⟨l0, l1, l2, lf0, lf1, lf2, lz⟩ := HN.out.bl
            go_wp2_with fail
            refine hap.mono ?_
            rintro e W2 ⟨⟨r2, rfl, hr2⟩, hb2⟩
            clear hap hcv hbA
            clear d0 d1 d2 d3 df0 df1 df2 df3 dz c0 c1 c2 cf0 cf1 cf2 cz l0 l1 l2 lf0 lf1 lf2 lz
            have HN2 := Lib.hid (HN.out.step hb2)
            have hz2 := hb2.size
            go_upto_region 21 with fail
            obtain ⟨W3, hW3⟩ : ∃ X, X = (W2.alloc (.cells #[.slice r2.a r2.n r2.c, .int .i64 lc.many, .int .i64 lc.synced] 29)) := ⟨_, rfl⟩
            rw [← hW3]
            have hb3 : Below W2.heap.size W2 W3 := by rw [hW3]; exact (Below.refl _ _).alloc (Nat.le_refl _) _
            have hx7 : Box3 W3 W2.heap.size (.slice r2.a r2.n r2.c) (.int .i64 lc.many) (.int .i64 lc.synced) := by rw [hW3]; exact Box3.new ..
            have HN3 := Lib.hid (HN2.out.step hb3)
            have HR2 : Hid (Se W3 (fun b => b ≠ B ∧ b ≠ J) r2 (lc.recs ++ [s])) := Lib.hid ((hr2.mono (fun b hb => HN.out.nw hb)).step hb3)
            clear hW3 hb3 hr2 hb2 HN2
            obtain ⟨y0, y1, y2, yf0, yf1, yf2, yz⟩ := hx7
            obtain ⟨d0, d1, d2, d3, df0, df1, df2, df3, dz⟩ := HN3.out.bd
            obtain ⟨c0, c1, c2, cf0, cf1, cf2, cz⟩ := HN3.out.bc
            obtain ⟨l0, l1, l2, lf0, lf1, lf2, lz⟩ := HN3.out.bl
            go_wp2_with fail
            go_roundw
            case rel => exact ⟨j + 1, r2, ⟨lc.recs ++ [s], lc.many, lc.synced⟩, hjt, by go_num, HLN.out, HN3.out.putL (l' := ⟨lc.recs ++ [s], lc.many, lc.synced⟩) HR2.out⟩
            case measure => simp [intOf]; omega
          · have HLN : Hid (lc = addJ ⟨ks, n, ks.length⟩ (rs.take (j + 1))) := Lib.hid (by rw [addJ_snoc _ rs HSK.out, ← HLC.out, ha]; rfl)
            rw [ha] at hap
            unfold jlV at hap
            simp only [Jl.zero] at hap
            clear ha hjc hsb hln
            obtain ⟨d0, d1, d2, d3, df0, df1, df2, df3, dz⟩ := HN.out.bd
            obtain ⟨c0, c1, c2, cf0, cf1, cf2, cz⟩ := HN.out.bc
            obtain ⟨l0, l1, l2, lf0, lf1, lf2, lz⟩ := HN.out.bl
            go_wp2_with fail
            refine hap.mono ?_
            rintro e W2 ⟨⟨r2, rfl, hr2⟩, hb2⟩
            clear hap hcv hbA
            clear d0 d1 d2 d3 df0 df1 df2 df3 dz c0 c1 c2 cf0 cf1 cf2 cz l0 l1 l2 lf0 lf1 lf2 lz
            have hz2 := hb2.size
            go_upto_region 21 with fail
            obtain ⟨W3, hW3⟩ : ∃ X, X = (W2.alloc (.cells #[.slice r2.a r2.n r2.c, .int .i64 0, .int .i64 0] 29)) := ⟨_, rfl⟩
            rw [← hW3]
            have hb3 : Below W1.heap.size W1 W3 := by rw [hW3]; exact hb2.alloc hb2.size _
            have HN3 := Lib.hid (HN.out.step hb3)
            clear hW3 hb3 hr2 hb2
            go_wp2_with fail
            go_roundw
            case rel => exact ⟨j + 1, r, lc, hjt, by go_num, HLN.out, HN3.out⟩
            case measure => simp [intOf]; omega
        · obtain rfl : j = rs.length := by omega
          have hlc2 : lc = addJ (openJ d).1 rs := by rw [HOP.out, HLC.out, List.take_length]
          have HIN := HIC.out
          have hsr := fun (x : Int) (hx : -1 ≤ x ∧ x ≤ 65536) => sv_round HV.out HRB.out (by have := H8.out; omega) hx hlc2
          have h0 := hsr (-1) (by decide)
          rw [← HKS.out] at h0
          obtain ⟨hjl, hsy, hmn, hkl, _⟩ := h0
          have HSR := Lib.hid hsr
          clear hsr hlc2
          obtain ⟨lr, lm, ls⟩ := lc
          simp only at hsy hmn hkl
          subst hsy hmn
          have hln := HN.out.ll.len
          simp only at hln
          obtain ⟨r0, rn, r1⟩ := r
          simp only at hln
          subst hln
          have hki : decide ((lr.length : Int) < (ks.length : Int)) = false := decide_eq_false (by omega)
          have hkn : decide (lr.length < ks.length) = false := decide_eq_false (by omega)
          have HKL := Lib.hid hkl
          clear hjl hkl
          obtain ⟨d0, d1, d2, d3, df0, df1, df2, df3, dz⟩ := HN.out.bd
          obtain ⟨c0, c1, c2, cf0, cf1, cf2, cz⟩ := HN.out.bc
          obtain ⟨l0, l1, l2, lf0, lf1, lf2, lz⟩ := HN.out.bl
          cases st
          · obtain ⟨-, -, -, -, d', hv2, hy⟩ := HSR.out (-1) (by decide)
            rw [← HV.out.shape, ← HKS.out] at hy
            obtain ⟨e1, e2, -⟩ := hy.resolve_right (fun h => absurd h.1 (by decide))
            have HE2 := Lib.hid e2
            have HV2 := Lib.hid hv2
            clear e2 hv2 hy
            clear d0 d1 d2 d3 df0 df1 df2 df3 dz c0 c1 c2 cf0 cf1 cf2 cz l0 l1 l2 lf0 lf1 lf2 lz
            have hs := JSync_any (P := (fun b => b ≠ B ∧ b ≠ J)) ⟨lr, n, ks.length⟩ d ⟨r0, lr.length, r1⟩ sv pv W1 HN.out.ll HN.out.dd
            unfold SyncP at hs
            rw [e1] at hs
            unfold jlV dkV at hs
            simp only at hs
            obtain ⟨d0, d1, d2, d3, df0, df1, df2, df3, dz⟩ := HN.out.bd
            obtain ⟨c0, c1, c2, cf0, cf1, cf2, cz⟩ := HN.out.bc
            obtain ⟨l0, l1, l2, lf0, lf1, lf2, lz⟩ := HN.out.bl
            go_wp2_with fail
            refine hs.mono ?_
            rintro e W2 ⟨⟨r5, s6, p6, rfl, hr5, hd6⟩, hb2⟩
            clear d0 d1 d2 d3 df0 df1 df2 df3 dz c0 c1 c2 cf0 cf1 cf2 cz l0 l1 l2 lf0 lf1 lf2 lz
            clear hs
            have hrn5 := hr5.len
            obtain ⟨u0, un, u1⟩ := r5
            simp only at hrn5
            subst hrn5
            have HN2 := Lib.hid (HN.out.step hb2)
            have hr5b := hr5.mono (fun b hb => HN.out.nw hb)
            have hd6b := hd6.mono (fun b hb => HN.out.nw hb)
            clear hr5 hd6 hb2
            go_upto_region 31 with fail
            obtain ⟨W3, hW3⟩ : ∃ X, X = ((W2.alloc (.cells #[.slice u0 lr.length u1, .int .i64 n, .int .i64 lr.length] 29)).alloc (.cells #[.slice s6.a s6.n s6.c, .slice p6.a p6.n p6.c, .int .i64 d'.left, .bool d'.stopped] 25)) := ⟨_, rfl⟩
            rw [← hW3]
            have hb3 : Below W2.heap.size W2 W3 := by rw [hW3]; exact ((Below.refl _ _).alloc (Nat.le_refl _) _).alloc (by simp) _
            have HX16 : Hid (Box3 W3 W2.heap.size (.slice u0 lr.length u1) (.int .i64 n) (.int .i64 lr.length)) := Lib.hid (by rw [hW3]; exact (Box3.new ..).step ((Below.refl _ _).alloc (Nat.le_refl _) _))
            have HX17 : Hid (Box4 W3 (W2.heap.size + 1) (.slice s6.a s6.n s6.c) (.slice p6.a p6.n p6.c) (.int .i64 d'.left) (.bool d'.stopped)) := Lib.hid (by rw [hW3]; exact Box4.at_ _ _ _ _ _ _ _ (by simp))
            have HN3 := Lib.hid (HN2.out.step hb3)
            have HR5 := Lib.hid (hr5b.step hb3)
            have HD5 := Lib.hid (hd6b.step hb3)
            clear hb3 hW3 hr5b hd6b HN2
            obtain ⟨x0, x1, x2, xf0, xf1, xf2, xz⟩ := HX16.out
            obtain ⟨d0, d1, d2, d3, df0, df1, df2, df3, dz⟩ := HN3.out.bd
            obtain ⟨c0, c1, c2, cf0, cf1, cf2, cz⟩ := HN3.out.bc
            obtain ⟨l0, l1, l2, lf0, lf1, lf2, lz⟩ := HN3.out.bl
            go_wp2_with fail
            refine (SameRecords_any (P := (fun b => b ≠ B ∧ b ≠ J)) (Q := (fun b => b ≠ B ∧ b ≠ J)) lr lr ⟨u0, lr.length, u1⟩ ⟨r0, lr.length, r1⟩ _ HR5.out HN3.out.ll).mono ?_
            rw [decide_eq_true rfl]
            rintro e W4 ⟨rfl, hb4⟩
            clear d0 d1 d2 d3 df0 df1 df2 df3 dz c0 c1 c2 cf0 cf1 cf2 cz l0 l1 l2 lf0 lf1 lf2 lz
            clear x0 x1 x2 xf0 xf1 xf2 xz
            have HN4 := Lib.hid (HN3.out.step hb4)
            have HX18 := Lib.hid (HX17.out.step hb4)
            have HD6 := Lib.hid (HD5.out.step hb4)
            clear hb4 HN3 HX16 HX17 HR5 HD5
            obtain ⟨y0, y1, y2, y3, yf0, yf1, yf2, yf3, yz⟩ := HX18.out
            obtain ⟨d0, d1, d2, d3, df0, df1, df2, df3, dz⟩ := HN4.out.bd
            obtain ⟨c0, c1, c2, cf0, cf1, cf2, cz⟩ := HN4.out.bc
            obtain ⟨l0, l1, l2, lf0, lf1, lf2, lz⟩ := HN4.out.bl
            go_wp2_with fail
            have hrs := Restart_any (P := (fun b => b ≠ B ∧ b ≠ J)) d' s6 p6 W4 HD6.out
            unfold dkV at hrs
            refine hrs.mono ?_
            rintro e W5 ⟨⟨s7, p7, rfl, hd7⟩, hb7⟩
            have HN7 := Lib.hid (HN4.out.step hb7)
            have HK7 := Lib.hid (HN4.out.ll.step hb7)
            have HD7 : Hid (Di W5 (fun b => b ≠ B ∧ b ≠ J) s7 p7 (restartD d')) := Lib.hid (hd7.mono (fun b hb => HN4.out.nw hb))
            clear hrs hb7 hd7
            clear d0 d1 d2 d3 df0 df1 df2 df3 dz c0 c1 c2 cf0 cf1 cf2 cz l0 l1 l2 lf0 lf1 lf2 lz
            clear y0 y1 y2 y3 yf0 yf1 yf2 yf3 yz
            obtain ⟨d0, d1, d2, d3, df0, df1, df2, df3, dz⟩ := HN7.out.bd
            obtain ⟨c0, c1, c2, cf0, cf1, cf2, cz⟩ := HN7.out.bc
            obtain ⟨l0, l1, l2, lf0, lf1, lf2, lz⟩ := HN7.out.bl
            go_wp2_with fail
            go_roundw
            case rel => exact ⟨i + 1, ⟨r0, lr.length, r1⟩, s7, p7, restartD d', HIC.out, by go_num, rfl, HV2.out, HN7.out.next HD7.out (by show Se _ _ _ (recsJ d'.secs); rw [HE2.out]; exact HK7.out)⟩
            case measure => have := HIC.out; simp [intOf]; omega
          · go_wp2_with fail
            obtain ⟨x, hx⟩ : ∃ x, x = wrap64 (lf.tmod 40) := ⟨_, rfl⟩
            have hx0 : 0 ≤ x ∧ x ≤ 39 := by
              have h8 := HL8.out
              have h9 : lf.tmod 40 = lf % 40 := Int.tmod_eq_emod_of_nonneg h8.1
              rw [hx, h9, IntWalk.wrap64_in _ ⟨by omega, by omega⟩]
              omega
            have hstp := Stop_any (P := (fun b => b ≠ B ∧ b ≠ J)) d sv pv x W1 HN.out.dd
            rw [HV.out.stop hx0.1 (by omega)] at hstp
            unfold dkV at hstp
            simp only at hstp
            clear d0 d1 d2 d3 df0 df1 df2 df3 dz c0 c1 c2 cf0 cf1 cf2 cz l0 l1 l2 lf0 lf1 lf2 lz
            rw [hx] at hstp
            refine hstp.mono ?_
            rintro e W5 ⟨⟨s5, p5, rfl, hd5⟩, hb5⟩
            have HX0 := Lib.hid hx0
            rw [← hx] at hd5
            have HXX := Lib.hid hx
            clear hx hstp
            have HN5 := Lib.hid (HN.out.step hb5)
            have HD5 : Hid (Di W5 (fun b => b ≠ B ∧ b ≠ J) s5 p5 ⟨d.secs, [], x, false⟩) := Lib.hid (hd5.mono (fun b hb => HN.out.nw hb))
            clear hd5 hb5 hx0
            obtain ⟨d0, d1, d2, d3, df0, df1, df2, df3, dz⟩ := HN5.out.bd
            obtain ⟨c0, c1, c2, cf0, cf1, cf2, cz⟩ := HN5.out.bc
            obtain ⟨l0, l1, l2, lf0, lf1, lf2, lz⟩ := HN5.out.bl
            go_upto_region 28 with fail
            obtain ⟨W6, hW6⟩ : ∃ X, X = put4 W5 B (.slice s5.a s5.n s5.c) (.slice p5.a p5.n p5.c) (.int .i64 (wrap64 (lf.tmod 40))) (.bool false) := ⟨_, rfl⟩
            have HN6 : Hid (SvN w B C J W6 s5 p5 ⟨SA, ks.length, SC⟩ ⟨r0, lr.length, r1⟩ ⟨d.secs, [], x, false⟩ ks ⟨lr, n, ks.length⟩ (.slice RA rs.length RC) (.bool true) (.int .u8 lf)) := Lib.hid (by rw [hW6, ← HXX.out]; exact HN5.out.putD HD5.out)
            unfold put4 at hW6
            rw [← hW6]
            clear hW6 HN5 HD5
            clear d0 d1 d2 d3 df0 df1 df2 df3 dz c0 c1 c2 cf0 cf1 cf2 cz l0 l1 l2 lf0 lf1 lf2 lz
            obtain ⟨-, -, -, -, d', hv2, hy⟩ := HSR.out x (by have := HX0.out; omega)
            rw [← HKS.out] at hy
            have HV2 := Lib.hid hv2
            clear hv2
            obtain ⟨sv, hsv⟩ : ∃ y, y = s5 := ⟨_, rfl⟩
            obtain ⟨pv, hpv⟩ : ∃ y, y = p5 := ⟨_, rfl⟩
            subst hsv hpv
            rcases hy with ⟨e1, e2, -⟩ | ⟨-, e1, m, hm1, hm2, e2⟩
            · have HE2 := Lib.hid e2
              clear e2
              have hs := JSync_any (P := (fun b => b ≠ B ∧ b ≠ J)) ⟨lr, n, ks.length⟩ ⟨d.secs, [], x, false⟩ ⟨r0, lr.length, r1⟩ sv pv W6 HN6.out.ll HN6.out.dd
              unfold SyncP at hs
              rw [e1] at hs
              unfold jlV dkV at hs
              simp only at hs
              obtain ⟨d0, d1, d2, d3, df0, df1, df2, df3, dz⟩ := HN6.out.bd
              obtain ⟨c0, c1, c2, cf0, cf1, cf2, cz⟩ := HN6.out.bc
              obtain ⟨l0, l1, l2, lf0, lf1, lf2, lz⟩ := HN6.out.bl
              go_wp2_with fail
              refine hs.mono ?_
              rintro e W2 ⟨⟨r5, s6, p6, rfl, hr5, hd6⟩, hb2⟩
              clear d0 d1 d2 d3 df0 df1 df2 df3 dz c0 c1 c2 cf0 cf1 cf2 cz l0 l1 l2 lf0 lf1 lf2 lz
              clear hs
              have hrn5 := hr5.len
              obtain ⟨u0, un, u1⟩ := r5
              simp only at hrn5
              subst hrn5
              have HN2 := Lib.hid (HN6.out.step hb2)
              have hr5b := hr5.mono (fun b hb => HN6.out.nw hb)
              have hd6b := hd6.mono (fun b hb => HN6.out.nw hb)
              clear hr5 hd6 hb2
              go_upto_region 31 with fail
              obtain ⟨W3, hW3⟩ : ∃ X, X = ((W2.alloc (.cells #[.slice u0 lr.length u1, .int .i64 n, .int .i64 lr.length] 29)).alloc (.cells #[.slice s6.a s6.n s6.c, .slice p6.a p6.n p6.c, .int .i64 d'.left, .bool d'.stopped] 25)) := ⟨_, rfl⟩
              rw [← hW3]
              have hb3 : Below W2.heap.size W2 W3 := by rw [hW3]; exact ((Below.refl _ _).alloc (Nat.le_refl _) _).alloc (by simp) _
              have HX16 : Hid (Box3 W3 W2.heap.size (.slice u0 lr.length u1) (.int .i64 n) (.int .i64 lr.length)) := Lib.hid (by rw [hW3]; exact (Box3.new ..).step ((Below.refl _ _).alloc (Nat.le_refl _) _))
              have HX17 : Hid (Box4 W3 (W2.heap.size + 1) (.slice s6.a s6.n s6.c) (.slice p6.a p6.n p6.c) (.int .i64 d'.left) (.bool d'.stopped)) := Lib.hid (by rw [hW3]; exact Box4.at_ _ _ _ _ _ _ _ (by simp))
              have HN3 := Lib.hid (HN2.out.step hb3)
              have HR5 := Lib.hid (hr5b.step hb3)
              have HD5 := Lib.hid (hd6b.step hb3)
              clear hb3 hW3 hr5b hd6b HN2
              obtain ⟨x0, x1, x2, xf0, xf1, xf2, xz⟩ := HX16.out
              obtain ⟨d0, d1, d2, d3, df0, df1, df2, df3, dz⟩ := HN3.out.bd
              obtain ⟨c0, c1, c2, cf0, cf1, cf2, cz⟩ := HN3.out.bc
              obtain ⟨l0, l1, l2, lf0, lf1, lf2, lz⟩ := HN3.out.bl
              go_wp2_with fail
              refine (SameRecords_any (P := (fun b => b ≠ B ∧ b ≠ J)) (Q := (fun b => b ≠ B ∧ b ≠ J)) lr lr ⟨u0, lr.length, u1⟩ ⟨r0, lr.length, r1⟩ _ HR5.out HN3.out.ll).mono ?_
              rw [decide_eq_true rfl]
              rintro e W4 ⟨rfl, hb4⟩
              clear d0 d1 d2 d3 df0 df1 df2 df3 dz c0 c1 c2 cf0 cf1 cf2 cz l0 l1 l2 lf0 lf1 lf2 lz
              clear x0 x1 x2 xf0 xf1 xf2 xz
              have HN4 := Lib.hid (HN3.out.step hb4)
              have HX18 := Lib.hid (HX17.out.step hb4)
              have HD6 := Lib.hid (HD5.out.step hb4)
              clear hb4 HN3 HX16 HX17 HR5 HD5
              obtain ⟨y0, y1, y2, y3, yf0, yf1, yf2, yf3, yz⟩ := HX18.out
              obtain ⟨d0, d1, d2, d3, df0, df1, df2, df3, dz⟩ := HN4.out.bd
              obtain ⟨c0, c1, c2, cf0, cf1, cf2, cz⟩ := HN4.out.bc
              obtain ⟨l0, l1, l2, lf0, lf1, lf2, lz⟩ := HN4.out.bl
              go_wp2_with fail
              have hrs := Restart_any (P := (fun b => b ≠ B ∧ b ≠ J)) d' s6 p6 W4 HD6.out
              unfold dkV at hrs
              refine hrs.mono ?_
              rintro e W5 ⟨⟨s7, p7, rfl, hd7⟩, hb7⟩
              have HN7 := Lib.hid (HN4.out.step hb7)
              have HK7 := Lib.hid (HN4.out.ll.step hb7)
              have HD7 : Hid (Di W5 (fun b => b ≠ B ∧ b ≠ J) s7 p7 (restartD d')) := Lib.hid (hd7.mono (fun b hb => HN4.out.nw hb))
              clear hrs hb7 hd7
              clear d0 d1 d2 d3 df0 df1 df2 df3 dz c0 c1 c2 cf0 cf1 cf2 cz l0 l1 l2 lf0 lf1 lf2 lz
              clear y0 y1 y2 y3 yf0 yf1 yf2 yf3 yz
              obtain ⟨d0, d1, d2, d3, df0, df1, df2, df3, dz⟩ := HN7.out.bd
              obtain ⟨c0, c1, c2, cf0, cf1, cf2, cz⟩ := HN7.out.bc
              obtain ⟨l0, l1, l2, lf0, lf1, lf2, lz⟩ := HN7.out.bl
              go_wp2_with fail
              go_roundw
              case rel => exact ⟨i + 1, ⟨r0, lr.length, r1⟩, s7, p7, restartD d', HIC.out, by go_num, rfl, HV2.out, HN7.out.next HD7.out (by show Se _ _ _ (recsJ d'.secs); rw [HE2.out]; exact HK7.out)⟩
              case measure => have := HIC.out; simp [intOf]; omega
            · obtain ⟨zn, hzn⟩ : ∃ q, q = m := ⟨_, rfl⟩
              subst hzn
              have HE2 := Lib.hid e2
              have HTL : Hid ((lr.take zn).length = zn) := Lib.hid (by rw [List.length_take]; omega)
              have HZ1 : Hid (decide ((zn : Int) < (ks.length : Int)) = false ∧ decide (zn < ks.length) = false) := Lib.hid ⟨decide_eq_false (by omega), decide_eq_false (by omega)⟩
              have HZ2 : Hid (decide ((lr.length : Int) < (zn : Int)) = false ∧ decide (lr.length < zn) = false) := Lib.hid ⟨decide_eq_false (by omega), decide_eq_false (by omega)⟩
              have HZ3 := Lib.hid hm2
              clear e2 hm1 hm2
              have hs := JSync_any (P := (fun b => b ≠ B ∧ b ≠ J)) ⟨lr, n, ks.length⟩ ⟨d.secs, [], x, false⟩ ⟨r0, lr.length, r1⟩ sv pv W6 HN6.out.ll HN6.out.dd
              unfold SyncP at hs
              rw [e1] at hs
              unfold jlV dkV at hs
              simp only [Jl.zero] at hs
              obtain ⟨d0, d1, d2, d3, df0, df1, df2, df3, dz⟩ := HN6.out.bd
              obtain ⟨c0, c1, c2, cf0, cf1, cf2, cz⟩ := HN6.out.bc
              obtain ⟨l0, l1, l2, lf0, lf1, lf2, lz⟩ := HN6.out.bl
              go_wp2_with fail
              refine hs.mono ?_
              rintro e W2 ⟨⟨r5, s6, p6, rfl, hr5, hd6⟩, hb2⟩
              clear d0 d1 d2 d3 df0 df1 df2 df3 dz c0 c1 c2 cf0 cf1 cf2 cz l0 l1 l2 lf0 lf1 lf2 lz
              clear hs
              have HN2 := Lib.hid (HN6.out.step hb2)
              have hd6b := hd6.mono (fun b hb => HN6.out.nw hb)
              clear hr5 hd6 hb2
              go_upto_region 31 with fail
              obtain ⟨W3, hW3⟩ : ∃ X, X = ((W2.alloc (.cells #[.slice r5.a r5.n r5.c, .int .i64 0, .int .i64 0] 29)).alloc (.cells #[.slice s6.a s6.n s6.c, .slice p6.a p6.n p6.c, .int .i64 d'.left, .bool d'.stopped] 25)) := ⟨_, rfl⟩
              rw [← hW3]
              have hb3 : Below W2.heap.size W2 W3 := by rw [hW3]; exact ((Below.refl _ _).alloc (Nat.le_refl _) _).alloc (by simp) _
              have HX17 : Hid (Box4 W3 (W2.heap.size + 1) (.slice s6.a s6.n s6.c) (.slice p6.a p6.n p6.c) (.int .i64 d'.left) (.bool d'.stopped)) := Lib.hid (by rw [hW3]; exact Box4.at_ _ _ _ _ _ _ _ (by simp))
              have HN3 := Lib.hid (HN2.out.step hb3)
              have HD5 := Lib.hid (hd6b.step hb3)
              clear hb3 hW3 hd6b HN2
              obtain ⟨y0, y1, y2, y3, yf0, yf1, yf2, yf3, yz⟩ := HX17.out
              go_wp2_with fail
              have hrs := Restart_any (P := (fun b => b ≠ B ∧ b ≠ J)) d' s6 p6 W3 HD5.out
              unfold dkV at hrs
              refine hrs.mono ?_
              rintro e W4 ⟨⟨s7, p7, rfl, hd7⟩, hb4⟩
              have HN4 := Lib.hid (HN3.out.step hb4)
              have HX18 := Lib.hid (HX17.out.step hb4)
              have HD6 := Lib.hid (HD5.out.step hb4)
              have HD7 : Hid (Di W4 (fun b => b ≠ B ∧ b ≠ J) s7 p7 (restartD d')) := Lib.hid (hd7.mono (fun b hb => HN3.out.nw hb))
              clear hrs hb4 hd7 y0 y1 y2 y3 yf0 yf1 yf2 yf3 yz HX17 HD5 HN3
              go_wp2_with fail
              have hopn := Open_any (P := (fun b => b ≠ B ∧ b ≠ J)) (restartD d') s7 p7 W4 HD7.out
              rw [HV2.out.open_] at hopn
              unfold jlV dkV at hopn
              simp only at hopn
              rw [show recsJ (restartD d').secs = lr.take zn from HE2.out] at hopn
              rw [HTL.out] at hopn
              refine hopn.mono ?_
              rintro e W5 ⟨⟨z, rfl, hz5⟩, hb5⟩
              have hzn := hz5.len
              obtain ⟨z0, zn, z1⟩ := z
              simp only at hzn
              rw [HTL.out] at hzn
              subst hzn
              have HN5 := Lib.hid (HN4.out.step hb5)
              have HX19 := Lib.hid (HX18.out.step hb5)
              have HD8 := Lib.hid (HD6.out.step hb5)
              have hz5b := hz5.mono (fun b hb => HN4.out.fresh hb)
              clear hopn hb5 hz5 HN4 HX18 HD6 HD7
              go_upto_region 39 with fail
              obtain ⟨W6, hW6⟩ : ∃ X, X = (W5.alloc (.cells #[.slice z0 zn z1, .int .i64 n, .int .i64 zn] 29)) := ⟨_, rfl⟩
              rw [← hW6]
              have hb6 : Below W5.heap.size W5 W6 := by rw [hW6]; exact (Below.refl _ _).alloc (Nat.le_refl _) _
              have hxz : Box3 W6 W5.heap.size (.slice z0 zn z1) (.int .i64 n) (.int .i64 zn) := by rw [hW6]; exact Box3.new ..
              have HXZ := Lib.hid hxz
              have HN6 := Lib.hid (HN5.out.step hb6)
              have HX20 := Lib.hid (HX19.out.step hb6)
              have HD9 := Lib.hid (HD8.out.step hb6)
              have HZ6 := Lib.hid (hz5b.step hb6)
              clear hb6 hW6 hz5b HN5 HX19 HD8 hxz
              have hz1i : decide ((zn : Int) < (ks.length : Int)) = false := HZ1.out.1
              have hz1n : decide (zn < ks.length) = false := HZ1.out.2
              have hz2i : decide ((lr.length : Int) < (zn : Int)) = false := HZ2.out.1
              have hz2n : decide (lr.length < zn) = false := HZ2.out.2
              obtain ⟨i0, hinf, hq0, hq1, hq2⟩ := info_parts Try.infoSl
              have hst1 : ∀ W, (Instr.slice 22 (.slice r0 lr.length r1) none (some (.int .i64 zn)) none).run Try.prog W = .ok (.slice r0 zn r1) W := fun W => by
                have hcap := HN6.out.ll.cap
                simp only at hcap
                have := run_slice_to (P := Try.prog) Try.underlying22 hinf r0 lr.length r1 .i64 zn (Int.natCast_nonneg _) (by have := HZ3.out; omega) W
                simpa using this
              have HTK : Hid (Se W6 (fun b => b ≠ B ∧ b ≠ J) ⟨r0, zn, r1⟩ (lr.take zn)) := Lib.hid (HN6.out.ll.take (m := zn) HZ3.out)
              have S1 : Hid (∀ W, Below W6.heap.size W6 W → Calls Try.prog 24 #[.slice z0 zn z1, .slice r0 zn r1] W fun e w' => e = .returned (.bool true) ∧ Below W6.heap.size W6 w') := Lib.hid (fun W h => by have h1 := SameRecords_any (P := (fun b => b ≠ B ∧ b ≠ J)) (Q := (fun b => b ≠ B ∧ b ≠ J)) (lr.take zn) (lr.take zn) ⟨z0, zn, z1⟩ ⟨r0, zn, r1⟩ W (HZ6.out.step h) (HTK.out.step h); rw [decide_eq_true rfl] at h1; exact h1.mono (fun e w' k => ⟨k.1, h.trans (k.2.mono h.size)⟩))
              clear hinf hq0 hq1 hq2
              obtain ⟨x0, x1, x2, xf0, xf1, xf2, xz⟩ := HXZ.out
              obtain ⟨d0, d1, d2, d3, df0, df1, df2, df3, dz⟩ := HN6.out.bd
              obtain ⟨c0, c1, c2, cf0, cf1, cf2, cz⟩ := HN6.out.bc
              obtain ⟨l0, l1, l2, lf0, lf1, lf2, lz⟩ := HN6.out.bl
              refine wp_region_below (by kernel_rfl) (by kernel_rfl) ?_
              repeat (first
                | go_big_quiet_skip
                | (go_big_quiet_want
                   first
                     | (apply quiet_val
                        focus (
                          intro WC hWC
                          obtain ⟨hcc0, hff0⟩ := bcell hWC
                          go_simp
                          all_goals rfl
                          done)
                        go_simp
                        go_big_quiet_on)
                     | (apply quiet_call
                        focus (
                          intro WC hWC
                          go_simp
                          all_goals (first | rfl | exact ⟨rfl, rfl⟩)
                          done)
                        focus (
                          intro WC hWC
                          with_reducible exact S1.out WC hWC
                          done)
                        go_simp
                        go_big_quiet_on)))
              refine wpQuiet_nil ?_
              intro W7 hW7
              clear d0 d1 d2 d3 df0 df1 df2 df3 dz c0 c1 c2 cf0 cf1 cf2 cz l0 l1 l2 lf0 lf1 lf2 lz
              clear x0 x1 x2 xf0 xf1 xf2 xz
              have HN8 := Lib.hid (HN6.out.step hW7)
              have HXZ8 := Lib.hid (HXZ.out.step hW7)
              have HX21 := Lib.hid (HX20.out.step hW7)
              have HD6 := Lib.hid (HD9.out.step hW7)
              have HZ8 := Lib.hid (HZ6.out.step hW7)
              clear hW7 HN6 HXZ HX20 HD9 HZ6 S1 HTK
              obtain ⟨x0, x1, x2, xf0, xf1, xf2, xz⟩ := HXZ8.out
              obtain ⟨y0, y1, y2, y3, yf0, yf1, yf2, yf3, yz⟩ := HX21.out
              go_wp2_with fail
              clear x0 x1 x2 xf0 xf1 xf2 xz y0 y1 y2 y3 yf0 yf1 yf2 yf3 yz
              have hrs := Restart_any (P := (fun b => b ≠ B ∧ b ≠ J)) d' s6 p6 W7 HD6.out
              unfold dkV at hrs
              refine hrs.mono ?_
              rintro e W8 ⟨⟨s7, p7, rfl, hd7⟩, hb7⟩
              have HN7 := Lib.hid (HN8.out.step hb7)
              have HK7 := Lib.hid (HZ8.out.step hb7)
              have HD7 : Hid (Di W8 (fun b => b ≠ B ∧ b ≠ J) s7 p7 (restartD d')) := Lib.hid (hd7.mono (fun b hb => HN8.out.nw hb))
              clear hrs hb7 hd7
              obtain ⟨d0, d1, d2, d3, df0, df1, df2, df3, dz⟩ := HN7.out.bd
              obtain ⟨c0, c1, c2, cf0, cf1, cf2, cz⟩ := HN7.out.bc
              obtain ⟨l0, l1, l2, lf0, lf1, lf2, lz⟩ := HN7.out.bl
              go_wp2_with fail
              go_roundw
              case rel => exact ⟨i + 1, ⟨z0, zn, z1⟩, s7, p7, restartD d', HIC.out, by go_num, rfl, HV2.out, HN7.out.next HD7.out (by show Se _ _ _ (recsJ d'.secs); rw [HE2.out]; exact HK7.out)⟩
              case measure => have := HIC.out; simp [intOf]; omega
    · obtain rfl : i = cs.length := by omega
      have hop := HV.out.open_
      rw [← HKS.out] at hop
      have HOP := Lib.hid hop
      clear hop
      obtain ⟨d0, d1, d2, d3, df0, df1, df2, df3, dz⟩ := HM.out.bd
      go_wp2_with fail
      have hopn := Open_any (P := fun b => b ≠ B) d sv pv _ HM.out.dd
      rw [HOP.out] at hopn
      unfold jlV dkV at hopn
      simp only at hopn
      refine hopn.mono ?_
      rintro e w4 ⟨⟨r, rfl, hr⟩, hb4⟩
      have HM4 := Lib.hid (HM.out.step hb4)
      have hrl := hr.len
      obtain ⟨r0, rn, r1⟩ := r
      simp only at hrl
      subst hrl
      clear hb4 d0 d1 d2 d3 df0 df1 df2 df3 dz HM hopn
      go_upto_region 45 with fail
      obtain ⟨W5, hW5⟩ : ∃ X, X = (w4.alloc (.cells #[.slice r0 ks.length r1, .int .i64 n, .int .i64 ks.length] 29)) := ⟨_, rfl⟩
      rw [← hW5]
      have hb5 : Below w4.heap.size w4 W5 := by rw [hW5]; exact (Below.refl _ _).alloc (Nat.le_refl _) _
      have hx5 : Box3 W5 w4.heap.size (.slice r0 ks.length r1) (.int .i64 n) (.int .i64 ks.length) := by rw [hW5]; exact Box3.new ..
      have HM5 := Lib.hid (HM4.out.step hb5)
      have HR5 := Lib.hid (hr.step hb5)
      have HK5 : Hid (Se W5 (fun b => b ≠ B) ⟨SA, ks.length, SC⟩ ks) := Lib.hid (by have h := HM5.out.kk; rw [← HKS.out] at h; exact h)
      clear hb5 hW5 HM4 hr
      obtain ⟨x0, x1, x2, xf0, xf1, xf2, xz⟩ := hx5
      go_wp2_with fail
      refine (SameRecords_any ks ks ⟨r0, ks.length, r1⟩ ⟨SA, ks.length, SC⟩ _ HR5.out HK5.out).mono ?_
      rw [decide_eq_true rfl]
      rintro e w6 ⟨rfl, hb6⟩
      have HM6 := Lib.hid (HM5.out.step hb6)
      clear hb6 x0 x1 x2 xf0 xf1 xf2 xz
      go_wp2_with fail
      go_ret
      exact ⟨rfl, HM6.out.bw⟩

theorem JournalSurvives_any {w : World} (a0 : Int) (w0 : (Lit.int .u8 a0).wf = true) (x : Sl × List Cr) (hx : SlR w everyB 3 Cr.enc x.1 x.2) (hn : ∀ c ∈ x.2, CrOk w reachBytes c) :
    Calls Try.prog 9 #[.int .u8 a0, .slice x.1.a x.1.n x.1.c] w fun e w' => e = .returned (.bool true) ∧ Below w.heap.size w w' := by
  obtain ⟨⟨A, m, c⟩, cs⟩ := x
  have hm : m = cs.length := hx.1
  subst hm
  have h8 := bounds_u8 w0
  exact Survives_walk a0 (by omega) A c cs reachBytes (by decide) w hx hn
end Go.Proofs.Ytgbkhmoplocmkaa
