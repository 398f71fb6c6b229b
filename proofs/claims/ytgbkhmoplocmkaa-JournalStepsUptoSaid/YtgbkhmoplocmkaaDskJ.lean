/- Write: the reference's. -/
import Derived.Test.YtgbkhmoplocmkaaDskI
namespace Go.Proofs.Ytgbkhmoplocmkaa
open Go.RowKit Go.Shelf
set_option linter.unusedSimpArgs false
set_option linter.unusedVariables false
set_option maxRecDepth 20000

theorem writeD_no2 {d : Dk} {x : Int} {b : List Int} (h : validD d = false ∨ d.stopped = true ∨ x < 0 ∨ (d.secs.length : Int) ≤ x) : writeD d x b = (Dk.zero, 450) := by
  refine writeD_no ?_
  rcases h with h | h | h | h
  · left; simp [runsD, h]
  · left; simp [runsD, h]
  · right; simp [hasD]; omega
  · right; simp [hasD]; omega
def lenOf : Value → Nat
  | .slice _ n _ => n
  | _ => 0
theorem infoByte_parts : ∃ i, Try.prog.info? 5 = some i ∧ i.zero = some (.int .u8 0) ∧ i.size = 1 ∧ i.bytes = 1 := by
  have h := Try.infoByte
  cases e : Try.prog.info? 5 with
  | none => rw [e] at h; cases h
  | some i => rw [e] at h; simp at h; exact ⟨i, rfl, h.1, h.2.1, h.2.2⟩

set_option maxRecDepth 100000 in
set_option maxHeartbeats 4000000 in
theorem RWrite_any {P : Nat → Prop} (d : Dk) (sv pv bv : Sl) (x : Int) (bs : List Int) (w : World) (h : Di w P sv pv d) (hb : By w P bv bs) (hb1000 : bs.length ≤ 1000) :
    Calls Try.prog 46 #[dkV sv pv d, .int .i64 x, .slice bv.a bv.n bv.c] w fun e w' => (∃ sv' pv', e = .returned (.tuple #[dkV sv' pv' (writeD d x bs).1, .int .i64 (writeD d x bs).2]) ∧ Di w' (Nw P w) sv' pv' (writeD d x bs).1) ∧ Below w.heap.size w w' := by
  have hs := h.1.len
  have hp := h.2.len
  have hbn := hb.1.1
  have hbnil := hb.1.2.2.2.1
  have HD := Lib.hid h
  have HBY := Lib.hid hb
  have HBN := Lib.hid hbnil
  clear h hb hbnil
  have RC := Lib.hid (fun W (hW : Below w.heap.size w W) => RCheck_any d sv pv W (HD.out.step hW))
  obtain ⟨A, n, c⟩ := sv
  obtain ⟨D, m, c2⟩ := pv
  obtain ⟨X, nb, cb⟩ := bv
  simp only at hs hp hbn
  subst hs hp hbn
  unfold dkV at RC ⊢
  simp only at RC ⊢
  have hways : validD d = false ∨ (validD d = true ∧ (d.stopped = true ∨ (d.stopped = false ∧ (decide (x < 0) = true ∨ (decide (x < 0) = false ∧ decide ((d.secs.length : Int) ≤ x) = true) ∨ (decide (x < 0) = false ∧ decide ((d.secs.length : Int) ≤ x) = false))))) := by
    cases validD d <;> cases d.stopped <;> simp <;> omega
  obtain ⟨st, hst⟩ : ∃ st, st = d.stopped := ⟨_, rfl⟩
  obtain ⟨lf, hlf⟩ : ∃ lf, lf = d.left := ⟨_, rfl⟩
  rw [← hst, ← hlf] at RC
  rw [← hst] at hways
  rw [← hst, ← hlf]
  have HST := Lib.hid hst
  have HLF := Lib.hid hlf
  clear hst hlf
  obtain ⟨W0, hW0⟩ : ∃ W0, ((w.alloc (.cells #[.slice A d.secs.length c, .slice D d.pend.length c2, .int .i64 lf, .bool st] 25)).alloc (.cells #[.slice none 0 0, .slice none 0 0, .int .i64 0, .bool false] 25)) = W0 := ⟨_, rfl⟩
  have hB1 : Box4 W0 w.heap.size (.slice A d.secs.length c) (.slice D d.pend.length c2) (.int .i64 lf) (.bool st) := by rw [← hW0]; exact (Box4.new ..).step ((Below.refl _ _).alloc (Nat.le_refl _) _)
  have hB2 : Box4 W0 (w.heap.size + 1) (.slice none 0 0) (.slice none 0 0) (.int .i64 0) (.bool false) := by rw [← hW0]; exact Box4.at_ _ _ _ _ _ _ _ (by simp)
  have hG0 : Below w.heap.size w W0 := by rw [← hW0]; exact ((Below.refl _ _).alloc (Nat.le_refl _) _).alloc (by simp) _
  have HB1 := Lib.hid hB1
  have HB2 := Lib.hid hB2
  have HG := Lib.hid hG0
  have HW0 := Lib.hid hW0
  clear hB1 hB2 hG0 hW0
  rcases hways with hv | ⟨hv, hw⟩
  · rw [writeD_no2 (.inl hv)]
    have HC := Lib.hid (checkD_no hv)
    clear hv
    go_enter Try.func46, Try.ntmps46
    go_wp2_with fail
    rw [HW0.out]
    refine (RC.out _ HG.out).mono ?_
    rw [HC.out]
    rintro e w1 ⟨rfl, hb1⟩
    have HR2 := Lib.hid (HB2.out.step hb1)
    have HD2 := Lib.hid (HB1.out.step hb1)
    have HG1 := Lib.hid (HG.out.trans (hb1.mono HG.out.size))
    obtain ⟨r0, r1, r2, r3, f0, f1, f2, f3, rz⟩ := HR2.out
    obtain ⟨q0, q1, q2, q3, g0, g1, g2, g3, qz⟩ := HD2.out
    clear hb1
    go_wp2_with fail
    obtain ⟨p0, p1, p2, p3, _⟩ := HR2.out.put (.slice none 0 0) (.slice none 0 0) (.int .i64 0) (.bool false)
    unfold put4 at p0 p1 p2 p3
    exact bodyPost_ret (v := .tuple #[dkV ⟨none, 0, 0⟩ ⟨none, 0, 0⟩ Dk.zero, .int .i64 450]) (by simp [results, Try.results46, go_sem, p0, p1, p2, p3, dkV, Dk.zero]) rfl ⟨⟨⟨none, 0, 0⟩, ⟨none, 0, 0⟩, rfl, Di.zero _ _⟩, put4_below (b := w.heap.size + 1) HG1.out (by omega) _ _ _ _⟩
  · have HC := Lib.hid (checkD_yes hv)
    rcases hw with rfl | ⟨rfl, d1 | ⟨d1, d2⟩ | ⟨d1, d2⟩⟩
    · rw [writeD_no2 (.inr (.inl HST.out.symm))]
      clear hv
      go_enter Try.func46, Try.ntmps46
      go_wp2_with fail
      rw [HW0.out]
      refine (RC.out _ HG.out).mono ?_
      rw [HC.out]
      rintro e w1 ⟨rfl, hb1⟩
      have HR2 := Lib.hid (HB2.out.step hb1)
      have HD2 := Lib.hid (HB1.out.step hb1)
      have HG1 := Lib.hid (HG.out.trans (hb1.mono HG.out.size))
      obtain ⟨r0, r1, r2, r3, f0, f1, f2, f3, rz⟩ := HR2.out
      obtain ⟨q0, q1, q2, q3, g0, g1, g2, g3, qz⟩ := HD2.out
      clear hb1
      go_wp2_with fail
      obtain ⟨p0, p1, p2, p3, _⟩ := HR2.out.put (.slice none 0 0) (.slice none 0 0) (.int .i64 0) (.bool false)
      unfold put4 at p0 p1 p2 p3
      exact bodyPost_ret (v := .tuple #[dkV ⟨none, 0, 0⟩ ⟨none, 0, 0⟩ Dk.zero, .int .i64 450]) (by simp [results, Try.results46, go_sem, p0, p1, p2, p3, dkV, Dk.zero]) rfl ⟨⟨⟨none, 0, 0⟩, ⟨none, 0, 0⟩, rfl, Di.zero _ _⟩, put4_below (b := w.heap.size + 1) HG1.out (by omega) _ _ _ _⟩
    · rw [writeD_no2 (.inr (.inr (.inl (by simpa using d1))))]
      clear hv
      go_enter Try.func46, Try.ntmps46
      go_wp2_with fail
      rw [HW0.out]
      refine (RC.out _ HG.out).mono ?_
      rw [HC.out]
      rintro e w1 ⟨rfl, hb1⟩
      have HR2 := Lib.hid (HB2.out.step hb1)
      have HD2 := Lib.hid (HB1.out.step hb1)
      have HG1 := Lib.hid (HG.out.trans (hb1.mono HG.out.size))
      obtain ⟨r0, r1, r2, r3, f0, f1, f2, f3, rz⟩ := HR2.out
      obtain ⟨q0, q1, q2, q3, g0, g1, g2, g3, qz⟩ := HD2.out
      clear hb1
      go_wp2_with fail
      obtain ⟨p0, p1, p2, p3, _⟩ := HR2.out.put (.slice none 0 0) (.slice none 0 0) (.int .i64 0) (.bool false)
      unfold put4 at p0 p1 p2 p3
      exact bodyPost_ret (v := .tuple #[dkV ⟨none, 0, 0⟩ ⟨none, 0, 0⟩ Dk.zero, .int .i64 450]) (by simp [results, Try.results46, go_sem, p0, p1, p2, p3, dkV, Dk.zero]) rfl ⟨⟨⟨none, 0, 0⟩, ⟨none, 0, 0⟩, rfl, Di.zero _ _⟩, put4_below (b := w.heap.size + 1) HG1.out (by omega) _ _ _ _⟩
    · rw [writeD_no2 (.inr (.inr (.inr (by simpa using d2))))]
      clear hv
      go_enter Try.func46, Try.ntmps46
      go_wp2_with fail
      rw [HW0.out]
      refine (RC.out _ HG.out).mono ?_
      rw [HC.out]
      rintro e w1 ⟨rfl, hb1⟩
      have HR2 := Lib.hid (HB2.out.step hb1)
      have HD2 := Lib.hid (HB1.out.step hb1)
      have HG1 := Lib.hid (HG.out.trans (hb1.mono HG.out.size))
      obtain ⟨r0, r1, r2, r3, f0, f1, f2, f3, rz⟩ := HR2.out
      obtain ⟨q0, q1, q2, q3, g0, g1, g2, g3, qz⟩ := HD2.out
      clear hb1
      go_wp2_with fail
      obtain ⟨p0, p1, p2, p3, _⟩ := HR2.out.put (.slice none 0 0) (.slice none 0 0) (.int .i64 0) (.bool false)
      unfold put4 at p0 p1 p2 p3
      exact bodyPost_ret (v := .tuple #[dkV ⟨none, 0, 0⟩ ⟨none, 0, 0⟩ Dk.zero, .int .i64 450]) (by simp [results, Try.results46, go_sem, p0, p1, p2, p3, dkV, Dk.zero]) rfl ⟨⟨⟨none, 0, 0⟩, ⟨none, 0, 0⟩, rfl, Di.zero _ _⟩, put4_below (b := w.heap.size + 1) HG1.out (by omega) _ _ _ _⟩
    · have hr : runsD d = true := by simp [runsD, hv, ← HST.out]
      have hh : hasD d x = true := by simp [hasD]; simp at d1 d2; omega
      have hpl := pend_le hr
      clear hv
      by_cases hlen : bs.length ≤ 128
      · have e1 : decide ((128 : Int) < (bs.length : Int)) = false := by simp; omega
        by_cases hfull : d.pend.length = 4096
        · rw [writeD_full hr hh hlen hfull]
          have e2 : ((d.pend.length : Int) == 4096) = true := by simp; omega
          have HFL := Lib.hid hfull
          clear hr hh hfull
          go_enter Try.func46, Try.ntmps46
          go_wp2_with fail
          rw [HW0.out]
          refine (RC.out _ HG.out).mono ?_
          rw [HC.out]
          rintro e w1 ⟨rfl, hb1⟩
          have HR2 := Lib.hid (HB2.out.step hb1)
          have HD2 := Lib.hid (HB1.out.step hb1)
          have HG1 := Lib.hid (HG.out.trans (hb1.mono HG.out.size))
          obtain ⟨r0, r1, r2, r3, f0, f1, f2, f3, rz⟩ := HR2.out
          obtain ⟨q0, q1, q2, q3, g0, g1, g2, g3, qz⟩ := HD2.out
          clear hb1
          go_wp2_with fail
          obtain ⟨p0, p1, p2, p3, _⟩ := HR2.out.put (.slice none 0 0) (.slice none 0 0) (.int .i64 0) (.bool false)
          unfold put4 at p0 p1 p2 p3
          exact bodyPost_ret (v := .tuple #[dkV ⟨none, 0, 0⟩ ⟨none, 0, 0⟩ Dk.zero, .int .i64 2]) (by simp [results, Try.results46, go_sem, p0, p1, p2, p3, dkV, Dk.zero]) rfl ⟨⟨⟨none, 0, 0⟩, ⟨none, 0, 0⟩, rfl, Di.zero _ _⟩, put4_below (b := w.heap.size + 1) HG1.out (by omega) _ _ _ _⟩
        · rw [writeD_ok hr hh hlen hfull]
          have e2 : ((d.pend.length : Int) == 4096) = false := by simp; omega
          have HFL := Lib.hid hfull
          have HLN := Lib.hid hlen
          obtain ⟨i1, hi1, hz1, hz1', hz1''⟩ := info_parts Try.infoWr
          obtain ⟨i0, hi0, hz0, hz0', hz0''⟩ := infoByte_parts
          have HI1 := Lib.hid hi1
          have HI0 := Lib.hid hi0
          obtain ⟨vs, hvs, hvl, hvb⟩ := HD.out.2
          have HVS := Lib.hid hvs
          have HVL := Lib.hid hvl
          have HVB := Lib.hid hvb
          clear hr hh hfull hi1 hi0 hvs hvl hvb
          go_enter Try.func46, Try.ntmps46
          go_wp2_with fail
          rw [HW0.out]
          refine (RC.out _ HG.out).mono ?_
          rw [HC.out]
          rintro e w1 ⟨rfl, hb1⟩
          have HR2 := Lib.hid (HB2.out.step hb1)
          have HD2 := Lib.hid (HB1.out.step hb1)
          have HG1 := Lib.hid (HG.out.trans (hb1.mono HG.out.size))
          obtain ⟨r0, r1, r2, r3, f0, f1, f2, f3, rz⟩ := HR2.out
          obtain ⟨q0, q1, q2, q3, g0, g1, g2, g3, qz⟩ := HD2.out
          clear hb1
          go_wp2_with (at_builtin; refine stop_mk ?_)
          have hO : Owns (w1.alloc (.cells #[] 5)) w1.heap.size 5 1 byteE (.slice (some ⟨w1.heap.size, 0, none⟩) 0 0) [] := Owns.lit (ys := ([] : List Int)) byteE_len rfl (Nat.le_refl _) (by simp)
          refine stop_out (wpList_append_reads (en := byteE) (sz := 1) _ rfl _ _ _ rfl byteE_len byteE_one w1.heap.size 5 i0 _ 1 Try.underlying35 HI0.out hz0 hz0' hz0'' rfl (by omega) _ [] rfl hO w.heap.size X cb bs rfl (HBY.out.1.reads.below (HG1.out.alloc HG1.out.size _)) HBN.out (by simp [maxLen]; omega) (by simp; omega) (by simp) ?_)
          intro v2 w2 ho2 hg2 _ _
          have hb2 : Below w1.heap.size w1 w2 := ((Below.refl _ _).alloc (Nat.le_refl _) _).grown hg2 (by simp) (fun q e => hO.base_le q e)
          obtain ⟨A2, c2', rfl, _, _⟩ := ho2.shape
          simp only [List.nil_append] at ho2
          have HO2 := Lib.hid ho2
          clear ho2 hg2 hO r0 r1 r2 r3 f0 f1 f2 f3 rz q0 q1 q2 q3 g0 g1 g2 g3 qz
          go_wp2_with fail
          go_loopw [8] (fun v wr => ∃ (ys : List Int) (Av : Option Addr) (cv : Nat), v = .slice Av ys.length cv ∧ bs.length ≤ ys.length ∧ ys.length ≤ 128 ∧ ys = bs ++ List.replicate (ys.length - bs.length) 0 ∧ Owns wr w1.heap.size 5 1 byteE (.slice Av ys.length cv) ys ∧ Below w1.heap.size w1 wr) (fun v _ => 128 - (lenOf v))
          case atStart => exact ⟨bs, A2, c2', rfl, Nat.le_refl _, HLN.out, by simp, HO2.out, hb2⟩
          case round =>
            obtain ⟨ys, Av, cv, rfl, hy1, hy2, hys, hoy, hbr⟩ := hrel
            have HYS := Lib.hid hys
            have HOY := Lib.hid hoy
            have HBR := Lib.hid hbr
            have hzr := hbr.size
            clear hys hoy hbr
            by_cases hlt : ys.length < 128
            · have e3 : decide ((ys.length : Int) < 128) = true := by simp; omega
              go_wp2_with (at_builtin; refine stop_mk ?_)
              refine stop_out (wpList_append_reads (en := byteE) (sz := 1) _ rfl _ _ _ rfl byteE_len byteE_one w1.heap.size 5 i0 _ 1 Try.underlying35 HI0.out hz0 hz0' hz0'' rfl (by omega) _ ys rfl (HOY.out.alloc _) (wr.heap.size + 1) (some ⟨wr.heap.size, 0, none⟩) 1 [0] rfl (reads_one wr byteE 0 _ _ rfl 1 wr.heap.size rfl) (fun h => by cases h) (by simp [maxLen]; omega) (by simp; omega) (by simp; omega) ?_)
              intro v3 w3 ho3 hg3 _ _
              obtain ⟨A3, c3', rfl, _, _⟩ := ho3.shape
              have hb3 : Below w1.heap.size w1 w3 := (HBR.out.alloc hzr _).grown hg3 (by simp; omega) (fun q e => HOY.out.base_le q e)
              obtain ⟨zs, hzs⟩ : ∃ zs, zs = ys ++ [0] := ⟨_, rfl⟩
              have hzl : zs.length = ys.length + 1 := by rw [hzs]; simp
              rw [← hzs] at ho3
              have HO3 := Lib.hid ho3
              have HZS := Lib.hid hzs
              have HB3 := Lib.hid hb3
              have HZL := Lib.hid hzl
              clear ho3 hg3 hzs hb3 hzl
              go_wp2_with fail
              go_roundw
              case rel => exact ⟨zs, A3, c3', by rw [HZL.out], by have := HZL.out; omega, by have := HZL.out; omega, by rw [HZS.out, List.length_append, List.length_singleton]; have := HYS.out; rw [show ys.length + 1 - bs.length = (ys.length - bs.length) + 1 from by omega, List.replicate_succ', ← List.append_assoc, ← this], HO3.out, HB3.out⟩
              case measure => simp [lenOf]; omega
            · have e3 : decide ((ys.length : Int) < 128) = false := by simp; omega
              have hyl : ys.length = 128 := by omega
              have HPD : Hid (ys = padS bs) := Lib.hid (by rw [HYS.out, padS, hyl])
              have HBL : Hid (By wr (fun b => w1.heap.size ≤ b) ⟨Av, 128, cv⟩ (padS bs)) := Lib.hid (by
                have h1 := SlR.of_owns byteE_len HOY.out
                rw [hyl] at h1
                rw [← HPD.out]
                exact ⟨h1, by rw [HPD.out]; exact pad_ok HBY.out.2⟩)
              have HGR := Lib.hid (HG1.out.trans (HBR.out.mono HG1.out.size))
              have HRR := Lib.hid (HR2.out.step HBR.out)
              have HDR := Lib.hid (HD2.out.step HBR.out)
              obtain ⟨r0, r1, r2, r3, f0, f1, f2, f3, rz⟩ := HRR.out
              obtain ⟨q0, q1, q2, q3, g0, g1, g2, g3, qz⟩ := HDR.out
              rw [hyl]
              clear hyl hlt e3
              go_wp2_with (at_builtin; refine stop_mk ?_)
              have hO : Owns (wr.alloc (.cells #[] 76)) wr.heap.size 76 2 wrE (.slice (some ⟨wr.heap.size, 0, none⟩) 0 0) [] := Owns.lit (ys := ([] : List (Int × Sl))) wrE_len rfl (Nat.le_refl _) (by simp)
              have hvn := HVL.out
              refine stop_out (wpList_append_reads (en := wrE) (sz := 2) _ rfl _ _ _ rfl wrE_len wrE_one wr.heap.size 76 i1 _ 32 Try.underlying23 HI1.out hz1 hz1' hz1'' rfl (by omega) _ [] rfl hO w.heap.size D c2 vs (by rw [hvn]; rfl) (HVS.out.reads.below (HGR.out.alloc HGR.out.size _)) HVS.out.2.2.2.1 (by simp [maxLen]; omega) (by simp; omega) (by simp) ?_)
              clear hvn
              intro v5 w5 ho5 hg5 _ _
              have hb5 : Below wr.heap.size wr w5 := ((Below.refl _ _).alloc (Nat.le_refl _) _).grown hg5 (by simp) (fun q e => hO.base_le q e)
              obtain ⟨A5, c5, rfl, _, _⟩ := ho5.shape
              simp only [List.nil_append] at ho5
              have HO5 := Lib.hid ho5
              have HB5 := Lib.hid hb5
              have HG5 := Lib.hid (HGR.out.trans (hb5.mono HGR.out.size))
              have HR5 := Lib.hid (HRR.out.step hb5)
              have HD5 := Lib.hid (HDR.out.step hb5)
              have hz5 := hb5.size
              clear ho5 hg5 hb5 hO r0 r1 r2 r3 f0 f1 f2 f3 rz q0 q1 q2 q3 g0 g1 g2 g3 qz
              obtain ⟨r0, r1, r2, r3, f0, f1, f2, f3, rz⟩ := HR5.out
              obtain ⟨q0, q1, q2, q3, g0, g1, g2, g3, qz⟩ := HD5.out
              go_wp2_with (at_builtin; refine stop_mk ?_)
              refine stop_out (wpList_append_reads (en := wrE) (sz := 2) _ rfl _ _ _ rfl wrE_len wrE_one wr.heap.size 76 i1 _ 32 Try.underlying23 HI1.out hz1 hz1' hz1'' rfl (by omega) _ vs rfl (HO5.out.alloc _) (w5.heap.size + 1) (some ⟨w5.heap.size, 0, none⟩) 1 [(x, ⟨Av, 128, cv⟩)] rfl (reads_one w5 wrE (x, ⟨Av, 128, cv⟩) _ _ rfl 2 w5.heap.size rfl) (fun h => by cases h) (by have := HVL.out; simp [maxLen]; omega) (by have := HVL.out; simp; omega) (by simp; omega) ?_)
              intro v7 w7 ho7 hg7 _ _
              obtain ⟨A7, c7, rfl, _, _⟩ := ho7.shape
              have hb7 : Below wr.heap.size wr w7 := (HB5.out.alloc hz5 _).grown hg7 (by simp; omega) (fun q e => HO5.out.base_le q e)
              simp only [List.length_append, List.length_singleton] at ho7
              have HO7 := Lib.hid ho7
              have HB7 := Lib.hid hb7
              have HG7 := Lib.hid (HGR.out.trans (hb7.mono HGR.out.size))
              have HR7 := Lib.hid (HRR.out.step hb7)
              have HD7 := Lib.hid (HDR.out.step hb7)
              clear ho7 hg7 hb7 r0 r1 r2 r3 f0 f1 f2 f3 rz q0 q1 q2 q3 g0 g1 g2 g3 qz
              obtain ⟨r0, r1, r2, r3, f0, f1, f2, f3, rz⟩ := HR7.out
              obtain ⟨q0, q1, q2, q3, g0, g1, g2, g3, qz⟩ := HD7.out
              have hD7 : Di w7 (fun b => (P b ∧ b < w.heap.size) ∨ w.heap.size + 2 ≤ b) ⟨A, d.secs.length, c⟩ ⟨A7, vs.length + 1, c7⟩ ⟨d.secs, d.pend ++ [(x, padS bs)], d.left, d.stopped⟩ := by
                refine ⟨((HD.out.mono2 (Q := fun b => (P b ∧ b < w.heap.size) ∨ w.heap.size + 2 ≤ b) (fun b hb hl => .inl ⟨hb, hl⟩)).step HG7.out).1, ?_⟩
                have h0 := HR2.out.z
                have h1 := (SlR.of_owns wrE_len HO7.out).mono (Q := fun b => (P b ∧ b < w.heap.size) ∨ w.heap.size + 2 ≤ b) (fun b hb => .inr (by omega))
                have h2 := HBL.out.mono (Q := fun b => (P b ∧ b < w.heap.size) ∨ w.heap.size + 2 ≤ b) (fun b hb => .inr (by omega))
                exact Pe.snoc h1 HVL.out (fun i v p a b => ⟨(HVB.out i v p a b).1, ((HVB.out i v p a b).2.mono2 (fun b hb hl => .inl ⟨hb, hl⟩)).step HG7.out⟩) (h2.step HB7.out)
              have HDD := Lib.hid hD7
              clear hD7
              go_wp2_with fail
              have hr8 := (HR7.out.far (grownBy_setCell' w7 ⟨w.heap.size, 1, none⟩ (.slice A7 (vs.length + 1) c7)) (by simp)).put (.slice A d.secs.length c) (.slice A7 (vs.length + 1) c7) (.int .i64 lf) (.bool false)
              have hk8 : Kp (fun b => (P b ∧ b < w.heap.size) ∨ w.heap.size + 2 ≤ b) w7 (put4 (w7.setCell ⟨w.heap.size, 1, none⟩ (.slice A7 (vs.length + 1) c7)) (w.heap.size + 1) (.slice A d.secs.length c) (.slice A7 (vs.length + 1) c7) (.int .i64 lf) (.bool false)) :=
                (Kp.of_grown (grownBy_setCell' w7 ⟨w.heap.size, 1, none⟩ (.slice A7 (vs.length + 1) c7)) (by simp)).trans (Kp.of_grown (put4_keep _ _ _ _) (by simp))
              have hg8 : Below w.heap.size w (put4 (w7.setCell ⟨w.heap.size, 1, none⟩ (.slice A7 (vs.length + 1) c7)) (w.heap.size + 1) (.slice A d.secs.length c) (.slice A7 (vs.length + 1) c7) (.int .i64 lf) (.bool false)) :=
                put4_below (HG7.out.setCell (by simp) _) (by omega) _ _ _ _
              have hd8 := (HDD.out.keep hk8).mono (Q := Nw P w) (fun b hb => hb.elim (fun h => .inl h.1) (fun h => .inr (by omega)))
              obtain ⟨p0, p1, p2, p3, _⟩ := hr8
              unfold put4 at p0 p1 p2 p3
              exact bodyPost_ret (v := .tuple #[.agg #[.slice A d.secs.length c, .slice A7 (vs.length + 1) c7, .int .i64 lf, .bool false], .int .i64 0]) (by simp [results, Try.results46, go_sem, p0, p1, p2, p3]) rfl ⟨⟨⟨A, d.secs.length, c⟩, ⟨A7, vs.length + 1, c7⟩, by rw [HLF.out, ← HST.out], hd8⟩, hg8⟩
      · rw [writeD_long hr hh hlen]
        have e1 : decide ((128 : Int) < (bs.length : Int)) = true := by simp; omega
        have HLN := Lib.hid hlen
        clear hr hh hlen
        go_enter Try.func46, Try.ntmps46
        go_wp2_with fail
        rw [HW0.out]
        refine (RC.out _ HG.out).mono ?_
        rw [HC.out]
        rintro e w1 ⟨rfl, hb1⟩
        have HR2 := Lib.hid (HB2.out.step hb1)
        have HD2 := Lib.hid (HB1.out.step hb1)
        have HG1 := Lib.hid (HG.out.trans (hb1.mono HG.out.size))
        obtain ⟨r0, r1, r2, r3, f0, f1, f2, f3, rz⟩ := HR2.out
        obtain ⟨q0, q1, q2, q3, g0, g1, g2, g3, qz⟩ := HD2.out
        clear hb1
        go_wp2_with fail
        obtain ⟨p0, p1, p2, p3, _⟩ := HR2.out.put (.slice none 0 0) (.slice none 0 0) (.int .i64 0) (.bool false)
        unfold put4 at p0 p1 p2 p3
        exact bodyPost_ret (v := .tuple #[dkV ⟨none, 0, 0⟩ ⟨none, 0, 0⟩ Dk.zero, .int .i64 1]) (by simp [results, Try.results46, go_sem, p0, p1, p2, p3, dkV, Dk.zero]) rfl ⟨⟨⟨none, 0, 0⟩, ⟨none, 0, 0⟩, rfl, Di.zero _ _⟩, put4_below (b := w.heap.size + 1) HG1.out (by omega) _ _ _ _⟩
end Go.Proofs.Ytgbkhmoplocmkaa
