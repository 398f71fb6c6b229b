/- JournalDamage (printed by gen_jouL5.py) -/
import Derived.Test.YtgbkhmoplocmkaaJouLE
import Derived.Test.YtgbkhmoplocmkaaJouTU
import Derived.Test.YtgbkhmoplocmkaaJouL
import Derived.Test.YtgbkhmoplocmkaaJouM
import Derived.Test.YtgbkhmoplocmkaaJouO
import Derived.Test.YtgbkhmoplocmkaaJouS
import Derived.BigQuiet
import Derived.OpenShut
import Derived.Deep.CutBlock
namespace Go.Proofs.Ytgbkhmoplocmkaa
open Go.RowKit Go.Shelf
set_option linter.unusedSimpArgs false
set_option linter.unusedVariables false
set_option maxRecDepth 20000

theorem intE_len (n : Int) : (intE n).length = 1 := rfl
theorem intE_one (n : Int) : ∀ u ∈ intE n, u.oneCell' = true := by intro u hu; simp [intE] at hu; subst hu; rfl
theorem Try.infoInt : (Try.prog.info? 3).map (fun i => (i.zero, i.size, i.bytes)) = some (some (.int .i64 0), 1, 8) := by kernel_rfl

set_option maxRecDepth 100000 in
set_option maxHeartbeats 16000000 in
theorem Damage_walk (A : Option Addr) (c : Nat) (rs : List (List Int)) (x y z : Int) (hx : -9223372036854775808 ≤ x ∧ x ≤ 9223372036854775807) (hy : -9223372036854775808 ≤ y ∧ y ≤ 9223372036854775807) (hz : 0 ≤ z ∧ z < 256) (N : Nat) (hN : N ≤ 9223372036854775696) (w : World) (hrs : Se w everyB ⟨A, rs.length, c⟩ rs) (hrN : ∀ b ∈ rs, b.length ≤ N) :
    Calls Try.prog 7 #[.slice A rs.length c, .int .i64 x, .int .i64 y, .int .u8 z] w fun e w' => e = .returned (.bool true) ∧ Below w.heap.size w w' := by
  have HRS := Lib.hid hrs
  have HRB : Hid (∀ b ∈ rs, Byt b ∧ b.length ≤ 9223372036854775696) := Lib.hid (fun b hb => by
    obtain ⟨k, hk, rfl⟩ := List.getElem_of_mem hb
    obtain ⟨_, _, v, bs, _, _, e3, hby, _⟩ := hrs.at_ hk
    rw [List.getElem?_eq_getElem hk] at e3
    cases e3
    exact ⟨hby.2, Nat.le_trans (hrN _ hb) hN⟩)
  have hrsle := hrs.le
  have HX := Lib.hid hx
  have HY := Lib.hid hy
  have HZ := Lib.hid hz
  clear hrs hrN hN hx hy hz
  have ba : Hid (Below w.heap.size w w) := Lib.hid (Below.refl _ _)
  have h0 : Sv 40 0 (newK 40) := Sv.new_ (by decide) (by decide)
  have hop := h0.open_
  rw [newK_recs] at hop
  have HOP : Hid (openJ (newK 40) = (⟨[], 40, 0⟩, 0)) := Lib.hid hop
  have hj0 := h0.jin
  rw [newK_recs] at hj0
  have HJ0 : Hid (JIn 40 ⟨[], 40, 0⟩) := Lib.hid hj0
  obtain ⟨bf, hbf⟩ : ∃ bf, bf = fewB (newK 40) rs := ⟨_, rfl⟩
  have HBF := Lib.hid hbf
  have hways : (((rs.length : Int) == 0) = true ∧ (rs.length == 0) = true) ∨ (((rs.length : Int) == 0) = false ∧ (rs.length == 0) = false ∧ Hid (rs.length ≠ 0)) := by
    by_cases h : rs.length = 0
    · exact .inl ⟨by rw [h]; rfl, by rw [h]; rfl⟩
    · exact .inr ⟨beq_eq_false_iff_ne.2 (by omega), beq_eq_false_iff_ne.2 h, Lib.hid h⟩
  have hways2 : ((z == 0) = true) ∨ ((z == 0) = false ∧ Hid (z ≠ 0)) := by
    by_cases h : z = 0
    · exact .inl (beq_iff_eq.2 h)
    · exact .inr ⟨beq_eq_false_iff_ne.2 h, Lib.hid h⟩
  clear h0 hop hj0 hbf
  go_enter Try.func7, Try.ntmps7
  go_wp2_with fail
  refine (sane_any _).mono ?_
  rintro e w1 ⟨rfl, hb1⟩
  have HB1 := Lib.hid hb1
  clear hb1
  go_wp2_with fail
  refine (New_any 40 (by decide) _).mono ?_
  rw [show newD 40 = (newK 40, 0) from newK_eq (n := 40) (by decide) (by decide)]
  unfold dkV
  rintro e w2 ⟨⟨sd, pd, rfl, hd2⟩, hb2⟩
  have hB2 := HB1.out.trans (hb2.mono HB1.out.size)
  have HB2 := Lib.hid hB2
  have HD2 := Lib.hid hd2
  clear hb2 hd2 hB2 HB1
  simp only
  go_upto_region 4 with fail
  obtain ⟨B, hB⟩ : ∃ B, B = w2.heap.size := ⟨_, rfl⟩
  obtain ⟨W3, hW3⟩ : ∃ X, X = (w2.alloc (.cells #[.slice sd.a sd.n sd.c, .slice pd.a pd.n pd.c, .int .i64 (newK 40).left, .bool (newK 40).stopped] 25)) := ⟨_, rfl⟩
  rw [← hW3, ← hB]
  have hb3 : Below w2.heap.size w2 W3 := by rw [hW3]; exact (Below.refl _ _).alloc (Nat.le_refl _) _
  have HX3 : Hid (Box4 W3 B (.slice sd.a sd.n sd.c) (.slice pd.a pd.n pd.c) (.int .i64 (newK 40).left) (.bool (newK 40).stopped)) := Lib.hid (by rw [hW3, hB]; exact Box4.new ..)
  have HD3 : Hid (Di W3 everyB sd pd (newK 40)) := Lib.hid ((HD2.out.mono (fun _ _ => trivial)).step hb3)
  have HB3 := Lib.hid (HB2.out.trans (hb3.mono HB2.out.size))
  have HLO : Hid (w.heap.size ≤ B) := Lib.hid (by rw [hB]; exact HB2.out.size)
  clear hb3 hW3 hB HB2 HD2
  obtain ⟨d0, d1, d2, d3, df0, df1, df2, df3, dz⟩ := HX3.out
  go_wp2_with fail
  refine (few_any (P := everyB) (Q := everyB) (newK 40) sd pd ⟨A, rs.length, c⟩ rs _ HD3.out (HRS.out.step HB3.out)).mono ?_
  rw [← HBF.out]
  rintro e w4 ⟨rfl, hb4⟩
  have HX4 := Lib.hid (HX3.out.step hb4)
  have HD4 := Lib.hid (HD3.out.step hb4)
  have HB4 := Lib.hid (HB3.out.trans (hb4.mono HB3.out.size))
  clear hb4 d0 d1 d2 d3 df0 df1 df2 df3 dz HX3 HD3 HB3
  cases bf
  · go_wp2_with fail
    go_ret
    exact ⟨rfl, HB4.out⟩
  rcases hways with ⟨t1, t1n⟩ | ⟨t1, t1n, HNE⟩
  · go_wp2_with fail
    go_ret
    exact ⟨rfl, HB4.out⟩
  rcases hways2 with t2 | ⟨t2, HZ0⟩
  · go_wp2_with fail
    go_ret
    exact ⟨rfl, HB4.out⟩
  obtain ⟨d0, d1, d2, d3, df0, df1, df2, df3, dz⟩ := HX4.out
  go_wp2_with fail
  have hopn := Open_any (P := everyB) (newK 40) sd pd w4 HD4.out
  rw [HOP.out] at hopn
  unfold jlV dkV at hopn
  simp only at hopn
  refine hopn.mono ?_
  rintro e w5 ⟨⟨r, rfl, hr5⟩, hb5⟩
  have HX5 := Lib.hid (HX4.out.step hb5)
  have HD5 := Lib.hid (HD4.out.step hb5)
  have HB5 := Lib.hid (HB4.out.trans (hb5.mono HB4.out.size))
  have HR5 := Lib.hid hr5
  clear hopn hb5 hr5 d0 d1 d2 d3 df0 df1 df2 df3 dz HX4 HD4 HB4
  simp only
  go_upto_region 7 with fail
  obtain ⟨J, hJ⟩ : ∃ J, J = w5.heap.size := ⟨_, rfl⟩
  obtain ⟨W6, hW6⟩ : ∃ X, X = (w5.alloc (.cells #[.slice r.a r.n r.c, .int .i64 40, .int .i64 0] 29)) := ⟨_, rfl⟩
  rw [← hW6, ← hJ]
  have hb6 : Below w5.heap.size w5 W6 := by rw [hW6]; exact (Below.refl _ _).alloc (Nat.le_refl _) _
  have HA6 : Hid (DmA w B J W6 sd pd r (.slice none 0 0) (newK 40) [] 40 []) := Lib.hid ⟨HX5.out.step hb6, by rw [hW6, hJ]; exact Box3.new .., (HD5.out.mono2 (fun b _ hl => ⟨by rw [hJ]; exact Nat.ne_of_lt hl, fun e => by cases e⟩)).step hb6, (HR5.out.mono2 (fun b _ hl => ⟨by rw [hJ]; exact Nat.ne_of_lt hl, fun e => by cases e⟩)).step hb6, Owns.nil_ _ _ _ _ _, HLO.out, by rw [hJ]; exact HX5.out.z, HB5.out.trans (hb6.mono HB5.out.size)⟩
  clear hb6 hW6 hJ HX5 HD5 HB5 HR5 HLO
  go_upto_block 0 with fail
  go_cut [13] from 14 to 95 (fun t13 wx => ∃ (k : Nat) (r : Sl), k ≤ rs.length ∧ JIn 40 ⟨rs.take k, 40, 0⟩ ∧ DmA w B J wx sd pd r t13 (newK 40) (rs.take k) 40 (endsJ rs k))
  case first =>
    go_wp2_with fail
    go_loopw [62, 13] (fun t62 t13 wr => ∃ (k : Nat) (r : Sl), k ≤ rs.length ∧ t62 = .int .i64 k ∧ JIn 40 ⟨rs.take k, 40, 0⟩ ∧ DmA w B J wr sd pd r t13 (newK 40) (rs.take k) 40 (endsJ rs k)) (fun t62 _ _ => rs.length - (intOf t62).toNat)
    case atStart => exact ⟨0, r, Nat.zero_le _, rfl, HJ0.out, HA6.out⟩
    case round =>
      obtain ⟨k, r, hk, rfl, hjin, hm⟩ := hrel
      obtain ⟨W1, hW1⟩ : ∃ X, X = wr := ⟨_, rfl⟩
      subst hW1
      have HM := Lib.hid hm
      obtain ⟨EA, ec, rfl, _, hel⟩ := hm.ow.shape
      rw [endsJ_len] at HM ⊢
      clear hm HA6
      by_cases hlt : k < rs.length
      · have hrs2 : Se W1 (fun b => b ≠ J ∧ some b ≠ (Value.slice EA k ec).ownBlock) ⟨A, rs.length, c⟩ rs := (HRS.out.mono2 (fun b _ hl => ⟨by have := HM.out.lo; have := HM.out.o1; omega, fun e => by have := HM.out.ow.base_le b e.symm; have := HM.out.lo; have := HM.out.o1; omega⟩)).step HM.out.bw
        obtain ⟨bA, oA, u, s, hA, hbA, hsk, hby, hcv⟩ := hrs2.at_ hlt
        simp only at hA
        subst hA
        have HBY := Lib.hid hby
        have HSK := Lib.hid hsk
        clear hby hsk hrs2
        have hsb := HRB.out s (List.mem_of_getElem? HSK.out)
        have hln := hjin.few
        have hap := JAppend_any (P := fun b => b ≠ J ∧ some b ≠ (Value.slice EA k ec).ownBlock) ⟨rs.take k, 40, 0⟩ r u s W1 HM.out.ll HBY.out (by simp only at hln ⊢; omega) (fun h => hjin.short hsb.1 hsb.2 (by decide) h)
        rcases hjin.append hsb.1 hsb.2 with ⟨ha, hj2, _⟩ | ⟨ha, _⟩
        · have HTK : Hid (rs.take (k + 1) = rs.take k ++ [s]) := Lib.hid (by rw [List.take_add_one, HSK.out]; rfl)
          have HJ2 : Hid (JIn 40 ⟨rs.take (k + 1), 40, 0⟩) := Lib.hid (by rw [HTK.out]; exact hj2)
          have HSN := Lib.hid (sumK_snoc HSK.out)
          have hsl : s.length ≤ 4480 := sect_short hsb.2 (Nat.le_trans (by rw [HSN.out]; exact Nat.le_add_left _ _) HJ2.out.fit) (Nat.le_refl _)
          have HSL := Lib.hid hsl
          have hln2 : k ≤ 40 := by have h := hjin.few; simp only [List.length_take] at h; omega
          have HK40 := Lib.hid hln2
          rw [ha] at hap
          unfold jlV at hap
          simp only at hap
          obtain ⟨ua, un, uc⟩ := u
          have hun : un = s.length := HBY.out.1.1
          subst hun
          clear ha hjin hsb hln hj2
          obtain ⟨l0, l1, l2, lf0, lf1, lf2, lz⟩ := HM.out.bl
          go_wp2_with fail
          refine hap.mono ?_
          rintro e W2 ⟨⟨r2, rfl, hr2⟩, hb2⟩
          clear hap hcv hbA l0 l1 l2 lf0 lf1 lf2 lz
          go_upto_region 14 with fail
          obtain ⟨W3, hW3⟩ : ∃ X, X = (W2.alloc (.cells #[.slice r2.a r2.n r2.c, .int .i64 40, .int .i64 0] 29)) := ⟨_, rfl⟩
          rw [← hW3]
          have hb3 : Below W2.heap.size W2 W3 := by rw [hW3]; exact (Below.refl _ _).alloc (Nat.le_refl _) _
          have hx7 : Box3 W3 W2.heap.size (.slice r2.a r2.n r2.c) (.int .i64 40) (.int .i64 0) := by rw [hW3]; exact Box3.new ..
          have HM3 := Lib.hid ((HM.out.step hb2).step hb3)
          have HR2 : Hid (Se W3 (fun b => b ≠ J ∧ some b ≠ (Value.slice EA k ec).ownBlock) r2 (rs.take (k + 1))) := Lib.hid (by rw [HTK.out]; exact (hr2.mono (fun b hb => HM.out.nw hb)).step hb3)
          clear hW3 hb3 hr2 hb2 HM
          obtain ⟨y0, y1, y2, yf0, yf1, yf2, yz⟩ := hx7
          obtain ⟨l0, l1, l2, lf0, lf1, lf2, lz⟩ := HM3.out.bl
          go_upto_region 16 with fail
          obtain ⟨W4, hW4⟩ : ∃ X, X = put3 W3 J (.slice r2.a r2.n r2.c) (.int .i64 40) (.int .i64 0) := ⟨_, rfl⟩
          have HM4 : Hid (DmA w B J W4 sd pd r2 (.slice EA k ec) (newK 40) (rs.take (k + 1)) 40 (endsJ rs k)) := Lib.hid (by rw [hW4]; exact HM3.out.putL HR2.out)
          unfold put3 at hW4
          rw [← hW4]
          clear hW4 y0 y1 y2 yf0 yf1 yf2 yz l0 l1 l2 lf0 lf1 lf2 lz HM3 HR2
          go_upto_region 17 with fail
          obtain ⟨e1, he1⟩ : ∃ e, e = (if 1 < ((s.length : Int) + 111) / 112 then ((s.length : Int) + 111) / 112 else 1) := ⟨_, rfl⟩
          rw [← he1]
          have hs1 : e1 = ((sectK s : Nat) : Int) := by
            have h1 := sectN_mid (n := s.length) (by omega)
            have h2 := sectK_int s
            rw [h2, h1, he1]
            generalize ((s.length : Int) + 111) / 112 = q
            split <;> omega
          have HS1 := Lib.hid hs1
          clear he1 hs1
          obtain ⟨i0, hinf, hq0, hq1, hq2⟩ := info_parts Try.infoInt
          have HINF := Lib.hid hinf
          clear hinf
          by_cases hk0 : k = 0
          · have tk1 : decide (0 < (k : Int)) = false := decide_eq_false (by omega)
            have tk2 : decide (0 < k) = false := decide_eq_false (by omega)
            obtain ⟨e2, he2⟩ : ∃ e, e = e1 := ⟨_, rfl⟩
            subst he2
            have HE2 : Hid (e2 = ((sumK (rs.take (k + 1)) : Nat) : Int)) := Lib.hid (by rw [HS1.out, HSN.out, hk0, List.take_zero]; show _ = ((0 + sectK s : Nat) : Int); rw [Nat.zero_add])
            clear hk0
            go_wp2_with (at_builtin; refine stop_mk ?_)
            refine stop_out (wpList_append_reads (en := intE) (sz := 1) _ rfl _ _ _ rfl intE_len intE_one (J + 1) 3 i0 _ 8 Try.underlying47 HINF.out hq0 hq1 hq2 rfl (by omega) _ (endsJ rs k) rfl (HM4.out.ow.alloc _) (W4.heap.size + 1) (some ⟨W4.heap.size, 0, none⟩) 1 [e2] rfl (reads_one W4 intE e2 _ _ rfl 1 W4.heap.size rfl) (fun h => by cases h) (by rw [endsJ_len]; simp [maxLen]; omega) (by rw [endsJ_len]; simp; omega) (by have := HM4.out.bl.z; simp; omega) ?_)
            intro v9 w9 hown9 hg9 hat9 _
            have hM9 := (HM4.out.step ((Below.refl _ _).alloc (Nat.le_refl _) _)).grow hown9 hg9 hat9
            rw [HE2.out, ← endsJ_succ] at hM9
            have HM9 := Lib.hid hM9
            clear hown9 hg9 hat9 hM9
            go_wp2_with fail
            go_roundw
            case rel => exact ⟨k + 1, r2, hlt, by go_num, HJ2.out, HM9.out⟩
            case measure => simp [intOf]; omega
          · have tk1 : decide (0 < (k : Int)) = true := decide_eq_true (by omega)
            have tk2 : decide (0 < k) = true := decide_eq_true (by omega)
            obtain ⟨k1, hk1⟩ : ∃ k1, k = k1 + 1 := ⟨k - 1, by omega⟩
            obtain ⟨q, off, u1, hA1, hq, hu1, hc1⟩ := (HM4.out.ow.reads intE_len).at_ (k := k1) (by rw [endsJ_len]; omega)
            rw [endsJ_get (by omega)] at hu1
            have hu2 : ((sumK (rs.take k) : Nat) : Int) = u1 := by rw [hk1]; exact Option.some.inj hu1
            have hu3 := hc1 0 _ rfl
            simp only [Nat.mul_one, Nat.add_zero] at hu3
            subst hA1
            have hf1 := HJ2.out.fit
            simp only at hf1
            rw [HSN.out] at hf1
            obtain ⟨e2, he2⟩ : ∃ e, e = e1 + u1 := ⟨_, rfl⟩
            have hws : wrap64 (e1 + u1) = e2 := by
              have h1 := HS1.out
              rw [he2]
              generalize sumK (rs.take k) = K1 at *
              generalize sectK s = K2 at *
              exact IntWalk.wrap64_in _ ⟨by omega, by omega⟩
            have hwk : wrap64 ((k : Int) - 1) = (k1 : Int) := by rw [IntWalk.wrap64_in _ ⟨by omega, by omega⟩]; omega
            have hk1lt : k1 < k := by omega
            have HE2 : Hid (e2 = ((sumK (rs.take (k + 1)) : Nat) : Int)) := Lib.hid (by
              rw [he2, HS1.out, HSN.out, ← hu2, Int.natCast_add, Int.add_comm])
            have hu4 : W4.cell? ⟨q, off + (k - 1), none⟩ = some (.int .i64 u1) := by rw [show k - 1 = k1 by omega]; exact hu3
            clear hk0 hu1 hu2 hc1 hf1 he2 hk1
            go_wp2_with (at_builtin; refine stop_mk ?_)
            refine stop_out (wpList_append_reads (en := intE) (sz := 1) _ rfl _ _ _ rfl intE_len intE_one (J + 1) 3 i0 _ 8 Try.underlying47 HINF.out hq0 hq1 hq2 rfl (by omega) _ (endsJ rs k) rfl (HM4.out.ow.alloc _) (W4.heap.size + 1) (some ⟨W4.heap.size, 0, none⟩) 1 [e2] rfl (reads_one W4 intE e2 _ _ rfl 1 W4.heap.size rfl) (fun h => by cases h) (by rw [endsJ_len]; simp [maxLen]; omega) (by rw [endsJ_len]; simp; omega) (by have := HM4.out.bl.z; simp; omega) ?_)
            intro v9 w9 hown9 hg9 hat9 _
            have hM9 := (HM4.out.step ((Below.refl _ _).alloc (Nat.le_refl _) _)).grow hown9 hg9 hat9
            rw [HE2.out, ← endsJ_succ] at hM9
            have HM9 := Lib.hid hM9
            clear hown9 hg9 hat9 hM9
            go_wp2_with fail
            go_roundw
            case rel => exact ⟨k + 1, r2, hlt, by go_num, HJ2.out, HM9.out⟩
            case measure => simp [intOf]; omega
        · rw [ha] at hap
          unfold jlV at hap
          simp only [Jl.zero] at hap
          have HJI := Lib.hid hjin
          clear ha hjin hsb hln
          obtain ⟨l0, l1, l2, lf0, lf1, lf2, lz⟩ := HM.out.bl
          go_wp2_with fail
          refine hap.mono ?_
          rintro e W2 ⟨⟨r2, rfl, hr2⟩, hb2⟩
          clear hap hcv hbA l0 l1 l2 lf0 lf1 lf2 lz
          go_upto_region 14 with fail
          obtain ⟨W3, hW3⟩ : ∃ X, X = (W2.alloc (.cells #[.slice r2.a r2.n r2.c, .int .i64 0, .int .i64 0] 29)) := ⟨_, rfl⟩
          rw [← hW3]
          have hb3 : Below W1.heap.size W1 W3 := by rw [hW3]; exact hb2.alloc hb2.size _
          have HM3 := Lib.hid (HM.out.step hb3)
          clear hW3 hb3 hr2 hb2
          go_wp2_with fail
          go_meet
          exact ⟨k, r, hk, HJI.out, HM3.out⟩
      · go_wp2_with fail
        go_meet
        exact ⟨k, r, hk, hjin, HM.out⟩
  case rest =>
    obtain ⟨k, r, hk, hjin, hm⟩ := hcut
    obtain ⟨W1, hwc⟩ : ∃ X, X = wc := ⟨_, rfl⟩
    subst hwc
    obtain ⟨EA, ec, rfl, _, hel⟩ := hm.ow.shape
    rw [endsJ_len] at hm ⊢
    have HM := Lib.hid hm
    obtain ⟨ts, hts⟩ : ∃ ts, ts = rs.take k := ⟨_, rfl⟩
    have htl : ts.length = k := by rw [hts, List.length_take]; omega
    rw [← hts] at HM hjin
    have HTS := Lib.hid hts
    have HTL := Lib.hid htl
    have hln2 : k ≤ 40 := by have h := hjin.few; simp only at h; omega
    have HK40 := Lib.hid hln2
    have HJI := Lib.hid hjin
    obtain ⟨cd, e1, hcl, hlaw⟩ := damage_law hjin
    rw [htl] at e1
    have HLAW := Lib.hid hlaw
    have HCL := Lib.hid hcl
    have hs := JSync_any (P := fun b => b ≠ J ∧ some b ≠ (Value.slice EA k ec).ownBlock) ⟨ts, 40, 0⟩ (newK 40) r sd pd W1 HM.out.ll HM.out.dd
    unfold SyncP at hs
    rw [e1] at hs
    unfold jlV dkV at hs
    simp only at hs
    obtain ⟨ra, rn, rc⟩ := r
    have hrn : rn = k := by have h := HM.out.ll.len; rw [htl] at h; exact h
    subst hrn
    clear hm hts htl hln2 hjin hcl hlaw HA6
    obtain ⟨l0, l1, l2, lf0, lf1, lf2, lz⟩ := HM.out.bl
    obtain ⟨d0, d1, d2, d3, df0, df1, df2, df3, dz⟩ := HM.out.bd
    go_wp2_with fail
    refine hs.mono ?_
    rintro e W2 ⟨⟨r5, s6, p6, rfl, hr5, hd6⟩, hb2⟩
    clear hs l0 l1 l2 lf0 lf1 lf2 lz d0 d1 d2 d3 df0 df1 df2 df3 dz
    have HM2 := Lib.hid (HM.out.step hb2)
    have HD6 : Hid (Di W2 everyB s6 p6 cd) := Lib.hid (hd6.mono (fun _ _ => trivial))
    clear hr5 hd6 hb2
    go_upto_region 22 with fail
    obtain ⟨W3, hW3⟩ : ∃ X, X = ((W2.alloc (.cells #[.slice r5.a r5.n r5.c, .int .i64 40, .int .i64 rn] 29)).alloc (.cells #[.slice s6.a s6.n s6.c, .slice p6.a p6.n p6.c, .int .i64 cd.left, .bool cd.stopped] 25)) := ⟨_, rfl⟩
    rw [← hW3]
    obtain ⟨C, hC⟩ : ∃ C, C = W2.heap.size + 1 := ⟨_, rfl⟩
    rw [← hC]
    have HC := Lib.hid hC
    have HG3 : Hid (Below W2.heap.size W2 W3) := Lib.hid (by rw [hW3]; exact ((Below.refl _ _).alloc (Nat.le_refl _) _).alloc (by simp) _)
    have HX17 : Hid (Box4 W3 C (.slice s6.a s6.n s6.c) (.slice p6.a p6.n p6.c) (.int .i64 cd.left) (.bool cd.stopped)) := Lib.hid (by rw [hW3, hC]; exact Box4.at_ _ _ _ _ _ _ _ (by simp))
    have HB2 := Lib.hid HM2.out.bw
    clear hW3 hC
    have hways3 : (((rn : Int) == 0) = true ∧ (rn == 0) = true) ∨ (((rn : Int) == 0) = false ∧ (rn == 0) = false ∧ Hid (rn ≠ 0)) := by
      by_cases h : rn = 0
      · exact .inl ⟨by rw [h]; rfl, by rw [h]; rfl⟩
      · exact .inr ⟨beq_eq_false_iff_ne.2 (by omega), beq_eq_false_iff_ne.2 h, Lib.hid h⟩
    rcases hways3 with ⟨t3, t3n⟩ | ⟨t3, t3n, HR0⟩
    · go_wp2_with fail
      go_ret
      exact ⟨rfl, HB2.out.trans (HG3.out.mono HB2.out.size)⟩
    have hrn0 := HR0.out
    have hrn40 := HK40.out
    obtain ⟨k1, hk1⟩ : ∃ k1, rn = k1 + 1 := ⟨rn - 1, by omega⟩
    have hne : ts ≠ [] := fun h => by rw [h] at HTL; exact hrn0 HTL.out.symm
    obtain ⟨K, hK⟩ : ∃ K, K = sumK ts := ⟨_, rfl⟩
    have HKS := Lib.hid hK
    have hK40 : K ≤ 40 := by rw [hK]; exact HJI.out.fit
    have hK1 : 1 ≤ K := by
      have h1 := sumK_len ts
      rw [HTL.out] at h1
      rw [hK]
      generalize sumK ts = K2 at *
      omega
    have hends : ∀ i, i < rn → ((sumK (rs.take (i + 1)) : Nat) : Int) = ((sumK (ts.take (i + 1)) : Nat) : Int) := fun i hi => by rw [HTS.out, List.take_take, Nat.min_eq_left hi]
    have hlast : ((sumK (rs.take (k1 + 1)) : Nat) : Int) = (K : Int) := by
      rw [hends k1 (by omega), hK, ← hk1, ← HTL.out, List.take_length]
    obtain ⟨q, off, u1, hA1, hq, hu1, hc1⟩ := (HM2.out.ow.reads intE_len).at_ (k := k1) (by rw [endsJ_len]; omega)
    rw [endsJ_get (by omega), hlast] at hu1
    cases hu1
    have hu3 := hc1 0 _ rfl
    simp only [Nat.mul_one, Nat.add_zero] at hu3
    subst hA1
    have hu4 : W3.cell? ⟨q, off + (rn - 1), none⟩ = some (.int .i64 K) := by rw [show rn - 1 = k1 by omega]; exact (HG3.out.cell (p := ⟨q, off + k1, none⟩) hq).trans hu3
    have hwk : wrap64 ((rn : Int) - 1) = (k1 : Int) := by rw [IntWalk.wrap64_in _ ⟨by omega, by omega⟩]; omega
    have hk1lt : k1 < rn := by omega
    have HREA : Hid (∀ m, m < rn → W2.cell? ⟨q, off + m, none⟩ = some (.int .i64 ((sumK (ts.take (m + 1)) : Nat) : Int))) := Lib.hid (fun m hm => by
      obtain ⟨q', off', u, hA', _, hu, hc⟩ := (HM2.out.ow.reads intE_len).at_ (k := m) (by rw [endsJ_len]; exact hm)
      rw [endsJ_get hm, hends m hm] at hu
      cases hu
      have h3 := hc 0 _ rfl
      simp only [Nat.mul_one, Nat.add_zero] at h3
      simp only [Option.some.injEq, Addr.mk.injEq] at hA'
      obtain ⟨rfl, rfl, _⟩ := hA'
      exact h3)
    have HQ := Lib.hid hq
    have HNE2 := Lib.hid hne
    have HK1 := Lib.hid hK1
    have HKB := Lib.hid hK40
    clear hu3 hc1 hlast hends hne hK hk1 hrn0 hq
    have hK40i : (K : Int) ≤ 40 := by omega
    have hK1i : 1 ≤ (K : Int) := by omega
    have hx := HX.out
    go_upto_region 25 with fail
    have hkx : ∃ kk : Nat, wrap64 ((IntKind.u64.wrap x).tmod (K : Int)) = (kk : Int) ∧ kk < K := by
      have h1 := wrap_u64_nonneg x
      have h2 := Int.emod_nonneg (IntKind.u64.wrap x) (b := (K : Int)) (by omega)
      have h3 := Int.emod_lt_of_pos (IntKind.u64.wrap x) (b := (K : Int)) (by omega)
      rw [Int.tmod_eq_emod_of_nonneg h1]
      generalize IntKind.u64.wrap x % (K : Int) = t at *
      exact ⟨t.toNat, by rw [IntWalk.wrap64_in _ ⟨by omega, by omega⟩]; omega, by omega⟩
    obtain ⟨kk, hkk, hkl⟩ := hkx
    rw [hkk]
    have hkk40 : kk < 40 := by omega
    have hkki : (kk : Int) < 40 := by omega
    obtain ⟨s, hs1, hs2, hs3, hs4⟩ := HLAW.out HNE2.out kk (by rw [← HKS.out]; exact hkl)
    have HS4 := Lib.hid hs4
    obtain ⟨b6, o6, sv, sbs, hA6, hb6, hsk6, hby6, hcv6⟩ := (HD6.out.1.step HG3.out).at_ (i := kk) (by rw [HCL.out]; exact hkk40)
    rw [hs1] at hsk6
    cases hsk6
    obtain ⟨sa, sn, sc⟩ := s6
    have hsn : sn = 40 := by rw [← HCL.out]; exact HD6.out.1.len
    subst hsn
    simp only at hA6
    subst hA6
    try simp only at hcv6
    have hsvn : sv.n = 128 := by rw [← hs2]; exact hby6.1.1
    obtain ⟨va, vn, vc⟩ := sv
    simp only at hsvn
    subst hsvn
    have HBY6 := Lib.hid hby6
    have HS2 := Lib.hid hs2
    have HS3 := Lib.hid hs3
    have HKL := Lib.hid hkl
    have HX1 := Lib.hid hx
    clear hx hkk hkl hs1 hs2 hs3 hs4 hby6 hK40i hK1i hK1 hK40 hu4 hwk hk1lt hrn40
    obtain ⟨i1, hinf1, hr0, hr1, hr2⟩ := info_parts Try.infoByte
    have HI1 := Lib.hid hinf1
    clear hinf1
    obtain ⟨d0, d1, d2, d3, df0, df1, df2, df3, dz⟩ := HX17.out
    obtain ⟨l0, l1, l2, lf0, lf1, lf2, lz⟩ := HM2.out.bl.step HG3.out
    go_wp2_with (at_builtin; refine stop_mk ?_)
    have hO : Owns (W3.alloc (.cells #[] 5)) W3.heap.size 5 1 byteE (.slice (some ⟨W3.heap.size, 0, none⟩) 0 0) [] := Owns.lit (ys := ([] : List Int)) byteE_len rfl (Nat.le_refl _) (by simp)
    refine stop_out (wpList_append_reads (en := byteE) (sz := 1) _ rfl _ _ _ rfl byteE_len byteE_one W3.heap.size 5 i1 _ 1 Try.underlying35 HI1.out hr0 hr1 hr2 rfl (by omega) _ [] rfl hO W3.heap.size va vc s (by rw [HS2.out]; rfl) (HBY6.out.1.reads.alloc (Nat.le_refl _) _) HBY6.out.1.2.2.2.1 (by rw [HS2.out]; simp [maxLen]) (by rw [HS2.out]; simp) (by simp) ?_)
    intro v9 w9 ho9 hg9 _ _
    have hb9 : Below W3.heap.size W3 w9 := ((Below.refl _ _).alloc (Nat.le_refl _) _).grown hg9 (by simp) (fun q e => hO.base_le q e)
    rw [List.nil_append] at ho9
    obtain ⟨A9, c9, hv9, _, _⟩ := ho9.shape
    rw [HS2.out] at hv9
    subst hv9
    have hjx : ∃ jj : Nat, (IntKind.u64.wrap y) % 128 = (jj : Int) ∧ (IntKind.u64.wrap y).tmod 128 = (jj : Int) ∧ jj < 128 := by
      have h1 := wrap_u64_nonneg y
      rw [Int.tmod_eq_emod_of_nonneg h1]
      generalize IntKind.u64.wrap y = t at *
      exact ⟨(t % 128).toNat, by omega, by omega, by omega⟩
    obtain ⟨jj, hj1, hj2, hj3⟩ := hjx
    obtain ⟨g9, rfl, hg9l, hg9z, hcell9, hfr9⟩ := ho9.cellB1 (i := jj) (by rw [HS2.out]; exact hj3)
    obtain ⟨sj, hsj⟩ : ∃ q, q = s.getD jj 0 := ⟨_, rfl⟩
    rw [← hsj] at hcell9
    have hsjr : 0 ≤ sj ∧ sj < 256 := by
      rw [hsj, List.getD_eq_getElem?_getD, List.getElem?_eq_getElem (by rw [HS2.out]; exact hj3)]
      exact HS3.out _ (List.getElem_mem _)
    have HSJ := Lib.hid hsj
    have HO9 := Lib.hid ho9
    have HB9 := Lib.hid hb9
    clear ho9 hg9 hO hb9 hsj d0 d1 d2 d3 df0 df1 df2 df3 dz l0 l1 l2 lf0 lf1 lf2 lz hcv6 hb6
    have hzz := HZ.out
    go_upto_region 29 with fail
    obtain ⟨nv, hnv⟩ : ∃ q, q = bits .xor .u8 sj z := ⟨_, rfl⟩
    obtain ⟨W10, hW10⟩ : ∃ X, X = w9.setCell ⟨g9, jj, none⟩ (.int .u8 nv) := ⟨_, rfl⟩
    rw [← hnv, ← hW10]
    have hnr : 0 ≤ nv ∧ nv < 256 := by rw [hnv]; exact xor8_range hsjr hzz
    have hnn : s.getD jj 0 ≠ nv := by rw [← HSJ.out, hnv]; exact xor8_ne hsjr hzz HZ0.out
    have hz23 := HG3.out.size
    have hb10 : Below W3.heap.size W3 W10 := by rw [hW10]; exact HB9.out.setCell (p := ⟨g9, jj, none⟩) hg9l _
    have hg10 : Below W2.heap.size W2 W10 := HG3.out.trans (hb10.mono hz23)
    have HX18 := Lib.hid (HX17.out.step hb10)
    have hCz : C < W3.heap.size := HX17.out.z
    have HBY10 : Hid (By W10 (fun b => b ≠ C) ⟨some ⟨g9, 0, none⟩, 128, c9⟩ (s.set jj nv)) := Lib.hid (by
      rw [hW10]
      refine (Owns.by_ (HO9.out.setB1 nv) (fun b hb => ?_)).mono (fun b hb => by omega)
      rcases List.mem_or_eq_of_mem_set hb with h | rfl
      · exact HS3.out b h
      · exact hnr)
    have HD10 : Hid (Di W10 (fun b => b ≠ C) ⟨some ⟨b6, o6, none⟩, 40, sc⟩ p6 cd) := Lib.hid ((HD6.out.mono2 (fun b _ hl => by rw [HC.out]; omega)).step hg10)
    have HG10 := Lib.hid hg10
    obtain ⟨c1, c2, zj, Wn, q1, q2, q3, q4, q5, q6⟩ := HS4.out jj nv hj3 hnr hnn
    have hw := Write_any (P := fun b => b ≠ C) cd ⟨some ⟨b6, o6, none⟩, 40, sc⟩ p6 ⟨some ⟨g9, 0, none⟩, 128, c9⟩ kk (s.set jj nv) W10 HD10.out HBY10.out
    rw [q1] at hw
    unfold dkV at hw
    simp only at hw
    have Q2 := Lib.hid q2
    have Q3 := Lib.hid q3
    have Q4 := Lib.hid q4
    have Q5 := Lib.hid q5
    have Q6 := Lib.hid q6
    clear q1 q2 q3 q4 q5 q6 hnn hnr hnv hW10 hb10 hg10 hcell9 hfr9 hg9l hg9z hsjr hzz hj1 hj2 hj3 HBY6 HS2 HS3 HS4 HO9 HB9 HSJ hkk40 hkki
    obtain ⟨d0, d1, d2, d3, df0, df1, df2, df3, dz⟩ := HX18.out
    go_wp2_with fail
    refine hw.mono ?_
    rintro e W11 ⟨⟨s7, p7, rfl, hd7⟩, hb11⟩
    have hz10 : C < W10.heap.size := HX18.out.z
    have hx11 := HX18.out.step hb11
    have hg11 : Below W2.heap.size W2 W11 := HG10.out.trans (hb11.mono HG10.out.size)
    have hd11 : Di W11 (fun b => b ≠ C) s7 p7 c1 := hd7.mono (fun b hb => hb.elim id (fun h => by omega))
    clear hw hd7 hb11 d0 d1 d2 d3 df0 df1 df2 df3 dz HD10 HBY10
    obtain ⟨d0, d1, d2, d3, df0, df1, df2, df3, dz⟩ := hx11
    go_upto_region 30 with fail
    obtain ⟨W12, hW12⟩ : ∃ X, X = put4 W11 C (.slice s7.a s7.n s7.c) (.slice p7.a p7.n p7.c) (.int .i64 c1.left) (.bool c1.stopped) := ⟨_, rfl⟩
    have HX12 : Hid (Box4 W12 C (.slice s7.a s7.n s7.c) (.slice p7.a p7.n p7.c) (.int .i64 c1.left) (.bool c1.stopped)) := Lib.hid (by rw [hW12]; exact Box4.put ⟨d0, d1, d2, d3, df0, df1, df2, df3, dz⟩ _ _ _ _)
    have HD12 : Hid (Di W12 (fun b => b ≠ C) s7 p7 c1) := Lib.hid (by rw [hW12]; exact hd11.keep (Kp.of_grown (put4_keep (W := W11) (b := C) _ _ _ _) (fun h => h rfl)))
    have HG12 : Hid (Below W2.heap.size W2 W12) := Lib.hid (by rw [hW12]; exact put4_below hg11 (by have := HC.out; omega) _ _ _ _)
    unfold put4 at hW12
    rw [← hW12]
    clear hW12 hd11 hg11 d0 d1 d2 d3 df0 df1 df2 df3 dz HX18 HG10
    have hsy := Sync_any (P := fun b => b ≠ C) c1 s7 p7 W12 HD12.out
    rw [Q2.out] at hsy
    unfold dkV at hsy
    simp only at hsy
    obtain ⟨d0, d1, d2, d3, df0, df1, df2, df3, dz⟩ := HX12.out
    go_wp2_with fail
    refine hsy.mono ?_
    rintro e W13 ⟨⟨s8, p8, rfl, hd8⟩, hb13⟩
    have hz12 : C < W12.heap.size := HX12.out.z
    have hx13 := HX12.out.step hb13
    have hg13 : Below W2.heap.size W2 W13 := HG12.out.trans (hb13.mono HG12.out.size)
    have hd13 : Di W13 (fun b => b ≠ C) s8 p8 c2 := hd8.mono (fun b hb => hb.elim id (fun h => by omega))
    clear hsy hd8 hb13 d0 d1 d2 d3 df0 df1 df2 df3 dz HD12
    obtain ⟨d0, d1, d2, d3, df0, df1, df2, df3, dz⟩ := hx13
    go_upto_region 31 with fail
    obtain ⟨W14, hW14⟩ : ∃ X, X = put4 W13 C (.slice s8.a s8.n s8.c) (.slice p8.a p8.n p8.c) (.int .i64 c2.left) (.bool c2.stopped) := ⟨_, rfl⟩
    have HX14 : Hid (Box4 W14 C (.slice s8.a s8.n s8.c) (.slice p8.a p8.n p8.c) (.int .i64 c2.left) (.bool c2.stopped)) := Lib.hid (by rw [hW14]; exact Box4.put ⟨d0, d1, d2, d3, df0, df1, df2, df3, dz⟩ _ _ _ _)
    have HD14 : Hid (Di W14 (fun b => b ≠ C) s8 p8 c2) := Lib.hid (by rw [hW14]; exact hd13.keep (Kp.of_grown (put4_keep (W := W13) (b := C) _ _ _ _) (fun h => h rfl)))
    have HG14 : Hid (Below W2.heap.size W2 W14) := Lib.hid (by rw [hW14]; exact put4_below hg13 (by have := HC.out; omega) _ _ _ _)
    unfold put4 at hW14
    rw [← hW14]
    clear hW14 hd13 hg13 d0 d1 d2 d3 df0 df1 df2 df3 dz HX12 HG12
    have hopn := Open_any (P := fun b => b ≠ C) c2 s8 p8 W14 HD14.out
    rw [Q3.out] at hopn
    unfold jlV dkV at hopn
    simp only at hopn
    obtain ⟨d0, d1, d2, d3, df0, df1, df2, df3, dz⟩ := HX14.out
    go_wp2_with fail
    refine hopn.mono ?_
    rintro e W15 ⟨⟨zr, rfl, hz15⟩, hb15⟩
    have hzn := hz15.len
    have hwl : (ts.take Wn).length = Wn := by have := Q5.out; rw [List.length_take]; omega
    rw [Q4.out] at hzn hz15
    rw [hwl] at hzn
    obtain ⟨z0, zn, z1⟩ := zr
    simp only at hzn
    subst hzn
    have HG15 : Hid (Below W2.heap.size W2 W15) := Lib.hid (HG14.out.trans (hb15.mono HG14.out.size))
    have HZ15 : Hid (Se W15 everyB ⟨z0, zn, z1⟩ (ts.take zn)) := Lib.hid (hz15.mono (fun _ _ => trivial))
    clear hopn hz15 hb15 d0 d1 d2 d3 df0 df1 df2 df3 dz HX14 HD14 HG14 hwl
    go_upto_region 32 with fail
    obtain ⟨W16, hW16⟩ : ∃ X, X = (W15.alloc (.cells #[.slice z0 zn z1, .int .i64 zj.many, .int .i64 zj.synced] 29)) := ⟨_, rfl⟩
    rw [← hW16]
    have hb16 : Below W15.heap.size W15 W16 := by rw [hW16]; exact (Below.refl _ _).alloc (Nat.le_refl _) _
    have HXZ : Hid (Box3 W16 W15.heap.size (.slice z0 zn z1) (.int .i64 zj.many) (.int .i64 zj.synced)) := Lib.hid (by rw [hW16]; exact Box3.new ..)
    have HG16 : Hid (Below W2.heap.size W2 W16) := Lib.hid (HG15.out.trans (hb16.mono HG15.out.size))
    have HZ16 := Lib.hid (HZ15.out.step hb16)
    clear hW16 hb16 HZ15 HG15
    have HREB : Hid (∀ m, m < rn → W16.cell? ⟨q, off + m, none⟩ = some (.int .i64 ((sumK (ts.take (m + 1)) : Nat) : Int))) := Lib.hid (fun m hm => (HG16.out.cell (p := ⟨q, off + m, none⟩) HQ.out).trans (HREA.out m hm))
    go_wp2_with fail
    go_loopw [27] (fun t27 wr => ∃ m : Nat, m ≤ zn ∧ t27 = .int .i64 m ∧ W16 = wr) (fun t27 _ => zn - (intOf t27).toNat)
    case atStart => exact ⟨0, Nat.zero_le _, rfl, by first | rfl | trivial⟩
    case round =>
      obtain ⟨m, hm, rfl, rfl⟩ := hrel
      have hznr : zn < rn := by rw [← HTL.out]; exact Q5.out
      have hmr : m < rn := by omega
      have hmri : (m : Int) < (rn : Int) := by omega
      have hmd : decide ((m : Int) < (rn : Int)) = true := decide_eq_true hmri
      have hce := HREB.out m hmr
      have hq6 := Q6.out m (by rw [HTL.out]; exact hmr)
      obtain ⟨e, he⟩ : ∃ e, e = sumK (ts.take (m + 1)) := ⟨_, rfl⟩
      rw [← he] at hce hq6
      have HQ6 := Lib.hid hq6
      clear hq6 he
      by_cases hmz : m < zn
      · have hle1 : decide ((e : Int) ≤ (kk : Int)) = true := decide_eq_true (by have := HQ6.out.2 hmz; omega)
        have hle2 : decide (e ≤ kk) = true := decide_eq_true (HQ6.out.2 hmz)
        go_wp2_with fail
        go_roundw
        case rel => exact ⟨m + 1, hmz, by go_num, by first | rfl | trivial⟩
        case measure => simp [intOf]; omega
      · obtain rfl : m = zn := by omega
        have hle1 : decide ((e : Int) ≤ (kk : Int)) = false := decide_eq_false (by have := HQ6.out.1; omega)
        have hle2 : decide (e ≤ kk) = false := decide_eq_false (fun h => hmz (HQ6.out.1 h))
        obtain ⟨i2, hinf2, hp0, hp1, hp2⟩ := info_parts Try.infoSl
        have hst1 : ∀ W, (Instr.slice 22 (.slice ra rn rc) none (some (.int .i64 m)) none).run Try.prog W = .ok (.slice ra m rc) W := fun W => by
          have hcap := HM2.out.ll.cap
          rw [HTL.out] at hcap
          simp only at hcap
          have := run_slice_to (P := Try.prog) Try.underlying22 hinf2 ra rn rc .i64 m (Int.natCast_nonneg _) (by omega) W
          simpa using this
        have HTK : Hid (Se W16 everyB ⟨ra, m, rc⟩ (ts.take m)) := Lib.hid (((HM2.out.ll.take (m := m) (by rw [HTL.out]; omega)).mono (fun _ _ => trivial)).step HG16.out)
        have S1 : Hid (∀ W, Below W16.heap.size W16 W → Calls Try.prog 24 #[.slice z0 m z1, .slice ra m rc] W fun e w' => e = .returned (.bool true) ∧ Below W16.heap.size W16 w') := Lib.hid (fun W h => by have h1 := SameRecords_any (P := everyB) (Q := everyB) (ts.take m) (ts.take m) ⟨z0, m, z1⟩ ⟨ra, m, rc⟩ W (HZ16.out.step h) (HTK.out.step h); rw [decide_eq_true rfl] at h1; exact h1.mono (fun e w' k => ⟨k.1, h.trans (k.2.mono h.size)⟩))
        clear hinf2 hp0 hp1 hp2
        obtain ⟨x0, x1, x2, xf0, xf1, xf2, xz⟩ := HXZ.out
        obtain ⟨l0, l1, l2, lf0, lf1, lf2, lz⟩ := HM2.out.bl.step HG16.out
        go_upto_region 35 with fail
        refine wp_region_below (by kernel_rfl) (by kernel_rfl) ?_
        repeat (first
          | go_big_quiet_skip
          | (go_big_quiet_want
             first
               | (apply quiet_val
                  focus (
                    intro WC hWC
                    obtain ⟨hcc0, hff0⟩ := bcell hWC
                    go_simp
                    all_goals rfl
                    done)
                  go_simp
                  go_big_quiet_on)
               | (apply quiet_call
                  focus (
                    intro WC hWC
                    go_simp
                    all_goals (first | rfl | exact ⟨rfl, rfl⟩)
                    done)
                  focus (
                    intro WC hWC
                    with_reducible exact S1.out WC hWC
                    done)
                  go_simp
                  go_big_quiet_on)))
        refine wpQuiet_nil ?_
        intro W17 hW17
        go_wp2_with fail
        go_ret
        exact ⟨rfl, HB2.out.trans ((HG16.out.trans (hW17.mono HG16.out.size)).mono HB2.out.size)⟩

theorem JournalDamage_any {w : World} (x : Sl × List (List Int)) (hx : Se w everyB x.1 x.2) (hn : x.2.length ≤ reachBytes ∧ ∀ b ∈ x.2, b.length ≤ reachBytes) (a1 : Int) (w1 : (Lit.int .i64 a1).wf = true) (a2 : Int) (w2 : (Lit.int .i64 a2).wf = true) (a3 : Int) (w3 : (Lit.int .u8 a3).wf = true) :
    Calls Try.prog 7 #[.slice x.1.a x.1.n x.1.c, .int .i64 a1, .int .i64 a2, .int .u8 a3] w fun e w' => e = .returned (.bool true) ∧ Below w.heap.size w w' := by
  obtain ⟨⟨A, m, c⟩, rs⟩ := x
  have hm := hx.len
  simp only at hm
  subst hm
  have h1 := bounds_i64 w1
  have h2 := bounds_i64 w2
  have h3 := bounds_u8 w3
  exact Damage_walk A c rs a1 a2 a3 (by omega) (by omega) (by omega) reachBytes (by decide) w hx hn.2
end Go.Proofs.Ytgbkhmoplocmkaa
