/- Sync: the reference's. -/
import Derived.Test.YtgbkhmoplocmkaaDskM
namespace Go.Proofs.Ytgbkhmoplocmkaa
open Go.RowKit Go.Shelf
set_option linter.unusedSimpArgs false
set_option linter.unusedVariables false
set_option maxRecDepth 20000

/-- the local disk behind its making: a box, and a row of headers of its own -/
def LocD (B : Nat) (w : World) (lf : Int) (n : Nat) (vs : List Sl) (s : Value) (W : World) : Prop :=
  ∃ g r c, s = .pointer (some ⟨g, 0, none⟩) ∧ B ≤ g ∧ B ≤ r ∧ g ≠ r ∧ Box4 W g (.slice (some ⟨r, 0, none⟩) n c) (.slice none 0 0) (.int .i64 lf) (.bool false) ∧ Owns W B 35 1 slE (.slice (some ⟨r, 0, none⟩) n c) vs ∧ Below B w W
theorem Owns.block {w : World} {base : Nat} {e : TypeId} {A : Option Addr} {n c : Nat} {ys : List Sl} (h : Owns w base e 1 slE (.slice A n c) ys) (hp : 0 < ys.length) : ∃ r, A = some ⟨r, 0, none⟩ ∧ n = ys.length ∧ base ≤ r ∧ r < w.heap.size := by
  rcases h.form with ⟨h1, rfl⟩ | ⟨g, cap, h1, h2, h3, _⟩
  · simp at hp
  · simp only [Value.slice.injEq] at h1
    obtain ⟨rfl, rfl, rfl⟩ := h1
    exact ⟨g, rfl, rfl, h2, h3⟩

theorem Box4.drew {W : World} {b : Nat} {V0 V1 V2 V3 : Value} (h : Box4 W b V0 V1 V2 V3) : Box4 W.drew b V0 V1 V2 V3 := ⟨h.c0, h.c1, h.c2, h.c3, h.f0, h.f1, h.f2, h.f3, h.z⟩
theorem LocD.newBox {B n c5 : Nat} {w1 w5 : World} {A5 : Option Addr} {lf : Int} {vs : List Sl} {t : TypeId} (hk : Owns w5 B 35 1 slE (.slice A5 n c5) vs) (hp : 0 < vs.length) (hb : Below B w1 w5) (hB : B ≤ w5.heap.size) :
    LocD B w1 lf n vs (.pointer (some ⟨w5.heap.size, 0, none⟩)) (w5.alloc (.cells #[.slice A5 n c5, .slice none 0 0, .int .i64 lf, .bool false] t)) := by
  obtain ⟨r, rfl, rfl, hr1, hr2⟩ := hk.block hp
  exact ⟨_, r, c5, rfl, hB, hr1, by omega, Box4.new .., hk.alloc _, hb.alloc hB _⟩
theorem LocD.oldBox {B n c5 g : Nat} {w1 w5 : World} {A5 : Option Addr} {lf : Int} {vs : List Sl} {V0 V1 V2 V3 : Value} (hk : Owns w5 B 35 1 slE (.slice A5 n c5) vs) (hp : 0 < vs.length) (hb : Below B w1 w5) (hg : B ≤ g) (hbx : Box4 w5 g V0 V1 V2 V3) (hne : (Value.slice A5 n c5).ownBlock ≠ some g) :
    LocD B w1 lf n vs (.pointer (some ⟨g, 0, none⟩)) (put4 w5 g (.slice A5 n c5) (.slice none 0 0) (.int .i64 lf) (.bool false)) := by
  obtain ⟨r, rfl, rfl, hr1, hr2⟩ := hk.block hp
  simp [Value.ownBlock] at hne
  exact ⟨g, r, c5, rfl, hg, hr1, fun e => hne e.symm, hbx.put _ _ _ _, hk.kept (put4_keep _ _ _ _) (fun q hq e => by simp [Value.ownBlock] at hq; injection e with e; omega), put4_below hb hg _ _ _ _⟩

set_option maxRecDepth 100000 in
set_option maxHeartbeats 8000000 in
theorem RSync_any {P : Nat → Prop} (d : Dk) (sv pv : Sl) (w : World) (h : Di w P sv pv d) :
    Calls Try.prog 48 #[dkV sv pv d] w fun e w' => (∃ sv' pv', e = .returned (.tuple #[dkV sv' pv' (syncD d).1, .int .i64 (syncD d).2]) ∧ Di w' (Nw P w) sv' pv' (syncD d).1) ∧ Below w.heap.size w w' := by
  have hs := h.1.len
  have hp := h.2.len
  have HD := Lib.hid h
  clear h
  have RC := Lib.hid (fun W (hW : Below w.heap.size w W) => RCheck_any d sv pv W (HD.out.step hW))
  obtain ⟨A, n, c⟩ := sv
  obtain ⟨D, m, c2⟩ := pv
  simp only at hs hp
  subst hs hp
  unfold dkV at RC ⊢
  simp only at RC ⊢
  obtain ⟨st, hst⟩ : ∃ st, st = d.stopped := ⟨_, rfl⟩
  obtain ⟨lf, hlf⟩ : ∃ lf, lf = d.left := ⟨_, rfl⟩
  rw [← hst, ← hlf] at RC
  rw [← hst, ← hlf]
  have HST := Lib.hid hst
  have HLF := Lib.hid hlf
  clear hst hlf
  obtain ⟨W0, hW0⟩ : ∃ W0, ((w.alloc (.cells #[.slice A d.secs.length c, .slice D d.pend.length c2, .int .i64 lf, .bool st] 25)).alloc (.cells #[.slice none 0 0, .slice none 0 0, .int .i64 0, .bool false] 25)) = W0 := ⟨_, rfl⟩
  have hB1 : Box4 W0 w.heap.size (.slice A d.secs.length c) (.slice D d.pend.length c2) (.int .i64 lf) (.bool st) := by rw [← hW0]; exact (Box4.new ..).step ((Below.refl _ _).alloc (Nat.le_refl _) _)
  have hB2 : Box4 W0 (w.heap.size + 1) (.slice none 0 0) (.slice none 0 0) (.int .i64 0) (.bool false) := by rw [← hW0]; exact Box4.at_ _ _ _ _ _ _ _ (by simp)
  have hG0 : Below w.heap.size w W0 := by rw [← hW0]; exact ((Below.refl _ _).alloc (Nat.le_refl _) _).alloc (by simp) _
  have HB1 := Lib.hid hB1
  have HB2 := Lib.hid hB2
  have HG := Lib.hid hG0
  have HW0 := Lib.hid hW0
  clear hB1 hB2 hG0 hW0
  cases hv : validD d
  · rw [syncD_no (by simp [runsD, hv])]
    have HC := Lib.hid (checkD_no hv)
    clear hv
    go_enter Try.func48, Try.ntmps48
    go_wp2_with fail
    rw [HW0.out]
    refine (RC.out _ HG.out).mono ?_
    rw [HC.out]
    rintro e w1 ⟨rfl, hb1⟩
    have HR2 := Lib.hid (HB2.out.step hb1)
    have HD2 := Lib.hid (HB1.out.step hb1)
    have HG1 := Lib.hid (HG.out.trans (hb1.mono HG.out.size))
    obtain ⟨r0, r1, r2, r3, f0, f1, f2, f3, rz⟩ := HR2.out
    obtain ⟨q0, q1, q2, q3, g0, g1, g2, g3, qz⟩ := HD2.out
    clear hb1
    go_wp2_with fail
    obtain ⟨p0, p1, p2, p3, _⟩ := HR2.out.put (.slice none 0 0) (.slice none 0 0) (.int .i64 0) (.bool false)
    unfold put4 at p0 p1 p2 p3
    exact bodyPost_ret (v := .tuple #[dkV ⟨none, 0, 0⟩ ⟨none, 0, 0⟩ Dk.zero, .int .i64 450]) (by simp [results, Try.results48, go_sem, p0, p1, p2, p3, dkV, Dk.zero]) rfl ⟨⟨⟨none, 0, 0⟩, ⟨none, 0, 0⟩, rfl, Di.zero _ _⟩, put4_below (b := w.heap.size + 1) HG1.out (by omega) _ _ _ _⟩
  · have HC := Lib.hid (checkD_yes hv)
    cases st
    rotate_left
    · rw [syncD_no (by simp [runsD, ← HST.out])]
      clear hv
      go_enter Try.func48, Try.ntmps48
      go_wp2_with fail
      rw [HW0.out]
      refine (RC.out _ HG.out).mono ?_
      rw [HC.out]
      rintro e w1 ⟨rfl, hb1⟩
      have HR2 := Lib.hid (HB2.out.step hb1)
      have HD2 := Lib.hid (HB1.out.step hb1)
      have HG1 := Lib.hid (HG.out.trans (hb1.mono HG.out.size))
      obtain ⟨r0, r1, r2, r3, f0, f1, f2, f3, rz⟩ := HR2.out
      obtain ⟨q0, q1, q2, q3, g0, g1, g2, g3, qz⟩ := HD2.out
      clear hb1
      go_wp2_with fail
      obtain ⟨p0, p1, p2, p3, _⟩ := HR2.out.put (.slice none 0 0) (.slice none 0 0) (.int .i64 0) (.bool false)
      unfold put4 at p0 p1 p2 p3
      exact bodyPost_ret (v := .tuple #[dkV ⟨none, 0, 0⟩ ⟨none, 0, 0⟩ Dk.zero, .int .i64 450]) (by simp [results, Try.results48, go_sem, p0, p1, p2, p3, dkV, Dk.zero]) rfl ⟨⟨⟨none, 0, 0⟩, ⟨none, 0, 0⟩, rfl, Di.zero _ _⟩, put4_below (b := w.heap.size + 1) HG1.out (by omega) _ _ _ _⟩
    · have hr : runsD d = true := by simp [runsD, hv, ← HST.out]
      obtain ⟨v1, v2, v3, v4, v5, v6, v7, v8⟩ := runs_facts hr
      rw [← HLF.out] at v6 v7
      have HV1 := Lib.hid v1
      have HV2 := Lib.hid v2
      have HDP := Lib.hid (HD.out.mono2 (Q := fun b => P b ∧ b < w.heap.size) (fun b hb hl => ⟨hb, hl⟩))
      obtain ⟨vs, hvs, hvl, hvb⟩ := HDP.out.1
      have HVS := Lib.hid hvs
      have HHS : Hid (HS w (fun b => P b ∧ b < w.heap.size) vs d.secs) := Lib.hid ⟨hvl, hvb⟩
      have HVL := Lib.hid hvl
      obtain ⟨i1, hi1, hz1, hz1', hz1''⟩ := info_parts Try.infoSl
      have HI1 := Lib.hid hi1
      clear v1 v2 v8 hv hvs hvl hvb hi1
      by_cases hstop : 0 ≤ lf ∧ lf < (d.pend.length : Int)
      · obtain ⟨m, hm⟩ : ∃ m : Nat, lf = (m : Int) := ⟨lf.toNat, by omega⟩
        have hml : m < d.pend.length := by omega
        obtain ⟨p, hpm⟩ : ∃ p, d.pend[m]? = some p := ⟨_, List.getElem?_eq_getElem hml⟩
        obtain ⟨hp1, hp2, hp3⟩ := HV1.out p (List.mem_of_getElem? hpm)
        obtain ⟨j, hj⟩ : ∃ j : Nat, p.1 = (j : Int) := ⟨p.1.toNat, by omega⟩
        have hjl : j < d.secs.length := by omega
        obtain ⟨S, hS⟩ : ∃ S, (performD d.secs (d.pend.take m))[j]? = some S := ⟨_, List.getElem?_eq_getElem (by rw [perform_len]; exact hjl)⟩
        have hSl : S.length = 128 := perform_all HV2.out (fun p hp => (HV1.out p (List.mem_of_mem_take hp)).2.2) S (List.mem_of_getElem? hS)
        rw [syncD_stop hr (by rw [← HLF.out]; exact hm) hpm (by rw [hj, Int.toNat_natCast]; exact hS), hj, Int.toNat_natCast]
        subst hm
        have d1 : decide (0 ≤ (m : Int)) = true := by simp
        have d2 : decide ((m : Int) < (d.pend.length : Int)) = true := by simpa using hml
        have HPM := Lib.hid hpm
        have HJ0 := Lib.hid hj
        have HSC := Lib.hid hS
        have HSL := Lib.hid hSl
        have HP3 := Lib.hid hp3
        obtain ⟨iu, hiu, hu1, hu2, hu3⟩ := infoByte_parts
        have HIU := Lib.hid hiu
        clear hr hstop hpm hj hS hSl hp1 hp2 hp3 v6 v7 hiu
        go_enter Try.func48, Try.ntmps48
        go_wp2_with fail
        rw [HW0.out]
        refine (RC.out _ HG.out).mono ?_
        rw [HC.out]
        rintro e w1 ⟨rfl, hb1⟩
        have HR2 := Lib.hid (HB2.out.step hb1)
        have HD2 := Lib.hid (HB1.out.step hb1)
        have HG1 := Lib.hid (HG.out.trans (hb1.mono HG.out.size))
        obtain ⟨r0, r1, r2, r3, f0, f1, f2, f3, rz⟩ := HR2.out
        obtain ⟨q0, q1, q2, q3, g0, g1, g2, g3, qz⟩ := HD2.out
        clear hb1
        go_upto_region 7 with fail
        have hA : Reads w1 w.heap.size A 1 slE vs := HVS.out.reads.below HG1.out
        have hnil : A = none → c = 0 := HVS.out.2.2.2.1
        have hvl := HVL.out
        have HA := Lib.hid hA
        have HNL := Lib.hid hnil
        have q0d : w1.drew.cell? ⟨w.heap.size, 0, none⟩ = some (.slice A d.secs.length c) := q0
        have q2d : w1.drew.cell? ⟨w.heap.size, 2, none⟩ = some (.int .i64 (m : Int)) := q2
        clear hA hnil
        have OA : Owns (w1.drew.alloc (.cells #[] 35)) w1.heap.size 35 1 slE (.slice (some ⟨w1.heap.size, 0, none⟩) 0 0) [] := Owns.lit (w := w1.drew) (ys := ([] : List Sl)) slE_len rfl (Nat.le_refl _) (by simp)
        have OB : Owns ((w1.drew.alloc (.cells #[.slice none 0 0, .slice none 0 0, .int .i64 0, .bool false] 25)).alloc (.cells #[] 35)) w1.heap.size 35 1 slE (.slice (some ⟨w1.heap.size + 1, 0, none⟩) 0 0) [] := by
          have := Owns.lit (w := w1.drew.alloc (.cells #[.slice none 0 0, .slice none 0 0, .int .i64 0, .bool false] 25)) (base := w1.heap.size) (cs := #[]) (e := 35) (ys := ([] : List Sl)) slE_len rfl (by simp) (by simp)
          simpa using this
        have OC : Owns ((w1.drew.alloc (.cells #[] 35)).alloc (.cells #[.slice none 0 0, .slice none 0 0, .int .i64 0, .bool false] 25)) w1.heap.size 35 1 slE (.slice (some ⟨w1.heap.size, 0, none⟩) 0 0) [] := OA.alloc _
        have BB : Hid (Box4 ((w1.drew.alloc (.cells #[.slice none 0 0, .slice none 0 0, .int .i64 0, .bool false] 25)).alloc (.cells #[] 35)) w1.heap.size (.slice none 0 0) (.slice none 0 0) (.int .i64 0) (.bool false)) := Lib.hid ((Box4.new w1.drew _ _ _ _ _).step ((Below.refl _ _).alloc (Nat.le_refl _) _))
        have BC : Hid (Box4 ((w1.drew.alloc (.cells #[] 35)).alloc (.cells #[.slice none 0 0, .slice none 0 0, .int .i64 0, .bool false] 25)) (w1.heap.size + 1) (.slice none 0 0) (.slice none 0 0) (.int .i64 0) (.bool false)) := Lib.hid (Box4.at_ _ _ _ _ _ _ _ (by simp))
        have RA := Lib.hid ((HA.out.drew).alloc (w := w1.drew) (by show w.heap.size ≤ w1.heap.size; omega) (.cells #[] 35))
        have RB := Lib.hid (((HA.out.drew).alloc (w := w1.drew) (by show w.heap.size ≤ w1.heap.size; omega) (.cells #[.slice none 0 0, .slice none 0 0, .int .i64 0, .bool false] 25)).alloc (by simp; omega) (.cells #[] 35))
        have RCC := Lib.hid (RA.out.alloc (by simp; omega) (.cells #[.slice none 0 0, .slice none 0 0, .int .i64 0, .bool false] 25))
        go_cut [6] (fun s wx => LocD w1.heap.size w1 (m : Int) d.secs.length vs s wx)
        case first =>
          go_region_held_law (fun w' => w'.cell? ⟨w.heap.size, 0, none⟩ = some (.slice A d.secs.length c) ∧ w'.cell? ⟨w.heap.size, 2, none⟩ = some (.int .i64 (m : Int))) (first | with_reducible exact ⟨q0, q2⟩ | with_reducible exact ⟨q0d, q2d⟩ | with_reducible exact ⟨e0, e2⟩ | with_reducible exact ⟨(put4_far (by omega) _ _ _ _).trans e0, (put4_far (by omega) _ _ _ _).trans e2⟩ | (refine ⟨?_, ?_⟩ <;> (simp [go_sem, q0, q2, qz]; done)) | (refine ⟨?_, ?_⟩ <;> (simp [go_sem, e0, e2, ez]; done))) (first | (refine step_append_reads (en := slE) (sz := 1) (by rfl) _ _ _ (by rfl) slE_len slE_one w1.heap.size 35 i1 _ _ Try.underlying22 HI1.out hz1 hz1' hz1'' rfl (by decide) (.slice (some ⟨w1.heap.size, 0, none⟩) 0 0) [] (by rfl) OA w.heap.size A c vs (by rw [hvl]; rfl) RA.out HNL.out (by simp [maxLen]; omega) (by simp; omega) (by simp <;> omega) ?_; intro v5 w5 k1 k2 k3; have ez : w.heap.size < w5.heap.size := Nat.lt_of_lt_of_le (by simp; omega) k2.size; have e0 : w5.cell? ⟨w.heap.size, 0, none⟩ = some (.slice A d.secs.length c) := (grown_cell (p := ⟨w.heap.size, 0, none⟩) k2 (by simp <;> omega) (by simp [Value.ownBlock] <;> omega)).trans (by simp [go_sem, q0, qz]); have e2 : w5.cell? ⟨w.heap.size, 2, none⟩ = some (.int .i64 (m : Int)) := (grown_cell (p := ⟨w.heap.size, 2, none⟩) k2 (by simp <;> omega) (by simp [Value.ownBlock] <;> omega)).trans (by simp [go_sem, q2, qz]); obtain ⟨A5, c5, rfl, _, _⟩ := k1.shape) | (refine step_append_reads (en := slE) (sz := 1) (by rfl) _ _ _ (by rfl) slE_len slE_one w1.heap.size 35 i1 _ _ Try.underlying22 HI1.out hz1 hz1' hz1'' rfl (by decide) (.slice (some ⟨w1.heap.size, 0, none⟩) 0 0) [] (by rfl) OC w.heap.size A c vs (by rw [hvl]; rfl) RCC.out HNL.out (by simp [maxLen]; omega) (by simp; omega) (by simp <;> omega) ?_; intro v5 w5 k1 k2 k3; have ez : w.heap.size < w5.heap.size := Nat.lt_of_lt_of_le (by simp; omega) k2.size; have e0 : w5.cell? ⟨w.heap.size, 0, none⟩ = some (.slice A d.secs.length c) := (grown_cell (p := ⟨w.heap.size, 0, none⟩) k2 (by simp <;> omega) (by simp [Value.ownBlock] <;> omega)).trans (by simp [go_sem, q0, qz]); have e2 : w5.cell? ⟨w.heap.size, 2, none⟩ = some (.int .i64 (m : Int)) := (grown_cell (p := ⟨w.heap.size, 2, none⟩) k2 (by simp <;> omega) (by simp [Value.ownBlock] <;> omega)).trans (by simp [go_sem, q2, qz]); obtain ⟨A5, c5, rfl, _, _⟩ := k1.shape; have hbx := BC.out.far k2 (by simp [Value.ownBlock]); have HBX := Lib.hid hbx; obtain ⟨b0, b1, b2, b3, bf0, bf1, bf2, bf3, bz⟩ := hbx) | (refine step_append_reads (en := slE) (sz := 1) (by rfl) _ _ _ (by rfl) slE_len slE_one w1.heap.size 35 i1 _ _ Try.underlying22 HI1.out hz1 hz1' hz1'' rfl (by decide) (.slice (some ⟨w1.heap.size + 1, 0, none⟩) 0 0) [] (by rfl) OB w.heap.size A c vs (by rw [hvl]; rfl) RB.out HNL.out (by simp [maxLen]; omega) (by simp; omega) (by simp <;> omega) ?_; intro v5 w5 k1 k2 k3; have ez : w.heap.size < w5.heap.size := Nat.lt_of_lt_of_le (by simp; omega) k2.size; have e0 : w5.cell? ⟨w.heap.size, 0, none⟩ = some (.slice A d.secs.length c) := (grown_cell (p := ⟨w.heap.size, 0, none⟩) k2 (by simp <;> omega) (by simp [Value.ownBlock] <;> omega)).trans (by simp [go_sem, q0, qz]); have e2 : w5.cell? ⟨w.heap.size, 2, none⟩ = some (.int .i64 (m : Int)) := (grown_cell (p := ⟨w.heap.size, 2, none⟩) k2 (by simp <;> omega) (by simp [Value.ownBlock] <;> omega)).trans (by simp [go_sem, q2, qz]); obtain ⟨A5, c5, rfl, _, _⟩ := k1.shape; have hbx := BB.out.far k2 (by simp [Value.ownBlock]); have HBX := Lib.hid hbx; obtain ⟨b0, b1, b2, b3, bf0, bf1, bf2, bf3, bz⟩ := hbx))
          all_goals
            have hb5 : Below w1.heap.size w1 w5 := by
              first
              | exact (((Below.refl w1.heap.size w1).drew.alloc (Nat.le_refl _) _)).grown k2 (by simp) (fun q e => OA.base_le q e)
              | exact (((Below.refl w1.heap.size w1).drew.alloc (Nat.le_refl _) _).alloc (by simp) _).grown k2 (by simp <;> omega) (fun q e => OC.base_le q e)
              | exact (((Below.refl w1.heap.size w1).drew.alloc (Nat.le_refl _) _).alloc (by simp) _).grown k2 (by simp <;> omega) (fun q e => OB.base_le q e)
            simp only [List.nil_append, hvl] at k1 k3
            go_simp
            go_wp2_with fail
            go_meet
            first
            | exact LocD.newBox k1 (by omega) hb5 hb5.size
            | exact LocD.oldBox k1 (by omega) hb5 (by omega) HBX.out (by rcases k3 with h | h <;> (rw [h]; simp [Value.ownBlock] <;> omega))
            | exact LocD.oldBox k1 (by omega) hb5 (by omega) HBX.out (by rcases k3 with h | h <;> (simp at h; simp [h, Value.ownBlock] <;> omega))
        case rest =>
          obtain ⟨W2, hwc⟩ : ∃ x, x = wc := ⟨_, rfl⟩
          subst hwc
          obtain ⟨gb, gr, c5, rfl, hgb, hgr, hne, hbx, how, hbw⟩ := hcut
          have HBX := Lib.hid hbx
          have HOW := Lib.hid how
          have HBW := Lib.hid hbw
          clear r0 r1 r2 r3 f0 f1 f2 f3 rz q0 q1 q2 q3 g0 g1 g2 g3 qz q0d q2d OA OB OC hbx how hbw
          go_wp2_with fail
          go_loopw [7] (fun i wr => ∃ (k : Nat) (us : List Sl), k ≤ m ∧ i = .int .i64 k ∧ Box4 wr gb (.slice (some ⟨gr, 0, none⟩) d.secs.length c5) (.slice none 0 0) (.int .i64 (m : Int)) (.bool false) ∧ Owns wr w1.heap.size 35 1 slE (.slice (some ⟨gr, 0, none⟩) d.secs.length c5) us ∧ HS w (fun b => P b ∧ b < w.heap.size) us (performD d.secs (d.pend.take k)) ∧ Below w1.heap.size w1 wr) (fun i _ => m - (intOf i).toNat)
          case atStart => exact ⟨0, vs, Nat.zero_le _, rfl, HBX.out, HOW.out, by simpa [performD] using HHS.out, HBW.out⟩
          case round =>
            obtain ⟨k, us, hk, rfl, hbx, hou, hus, hbr⟩ := hrel
            have HBR := Lib.hid hbr
            have HGR := Lib.hid (HG1.out.trans (hbr.mono HG1.out.size))
            have HDR := Lib.hid (HD2.out.step hbr)
            have HRR := Lib.hid (HR2.out.step hbr)
            have HXR := Lib.hid hbx
            have HOU := Lib.hid hou
            have HUS := Lib.hid hus
            have hzr := hbr.size
            clear hbx hou hus hbr
            obtain ⟨q0, q1, q2, q3, g0, g1, g2, g3, qz⟩ := HDR.out
            obtain ⟨x0, x1, x2, x3, xf0, xf1, xf2, xf3, xz⟩ := HXR.out
            obtain ⟨r0, r1, r2, r3, f0, f1, f2, f3, rz⟩ := HRR.out
            by_cases hlt : k < m
            · have hltp : k < d.pend.length := by omega
              obtain ⟨bb, off, v, p, ha, hbl, hpk, hby, y0, y1⟩ := (HDP.out.step HGR.out).2.at_ hltp
              obtain ⟨_, _, v', p', ha', hbl', hpk', hby', z0, z1⟩ := HDP.out.2.at_ hltp
              simp only at ha ha'
              subst ha
              simp only [Option.some.injEq, Addr.mk.injEq] at ha'
              obtain ⟨rfl, rfl, _⟩ := ha'
              obtain rfl : p = p' := Option.some.inj (hpk.symm.trans hpk')
              have q1' := (HGR.out.cell (p := ⟨bb, off + k * 2 + 1, none⟩) hbl').trans z1
              rw [y1] at q1'
              simp only [Option.some.injEq, Value.slice.injEq] at q1'
              obtain ⟨e1, e2, e3⟩ := q1'
              have hvv : v = v' := by cases v; cases v'; simp only at e1 e2 e3; subst e1 e2 e3; rfl
              subst hvv
              obtain ⟨j, hj⟩ : ∃ j : Nat, p.1 = (j : Int) := ⟨p.1.toNat, by have := (HV1.out p (List.mem_of_getElem? hpk)).1; omega⟩
              have hjl : j < d.secs.length := by have := (HV1.out p (List.mem_of_getElem? hpk)).2.1; omega
              have hul : us.length = d.secs.length := by rw [HUS.out.1, perform_len]
              obtain ⟨g, y, hge, hgb2, hgl, _, c0, cf0⟩ := HOU.out.cell1 (i := j) (by omega)
              simp only [Option.some.injEq, Addr.mk.injEq] at hge
              obtain ⟨rfl, _⟩ := hge
              rw [hj] at y0
              have HPK := Lib.hid hpk
              have HBY := Lib.hid hby'
              have HJ := Lib.hid hj
              clear hpk hpk' hby hby' z0 z1 e1 e2 e3 hul
              have hj0 : (0 : Int) ≤ (j : Int) := by omega
              have hk0 : (0 : Int) ≤ (k : Int) := by omega
              have hlt2 : decide ((k : Int) < ((m : Nat) : Int)) = true := by simpa using hlt
              have hlt3 : decide ((k : Int) < (d.pend.length : Int)) = true := by simpa using hltp
              have hjl2 : decide ((j : Int) < (d.secs.length : Int)) = true := by simpa using hjl
              go_upto_region 11 with fail
              refine wp_region_tail 15 (by kernel_rfl) (by kernel_rfl) ?_
              simp only [List.take_succ_cons, List.take_zero, List.drop_succ_cons, List.drop_zero]
              repeat still_step
              refine wpStill_nil ?_
              go_wp2_with fail
              go_roundw
              case rel =>
                refine ⟨k + 1, us.set j v, by omega, by go_num, ?_, ?_, ?_, ?_⟩
                · exact (HXR.out.far (grownBy_setCell' wr ⟨gr, j, none⟩ (.slice v.a v.n v.c)) (by simp only [ne_eq, Option.some.injEq]; omega)).drew
                · exact HOU.out.set1 v
                · rw [perform_snoc HPK.out, HJ.out, Int.toNat_natCast]; exact HUS.out.set j HBY.out
                · exact (HBR.out.setCell (show w1.heap.size ≤ (⟨gr, j, none⟩ : Addr).block from hgr) _).drew
              case measure => simp [intOf]; omega
            · have hkm : m = k := by omega
              subst hkm
              have hlt2 : decide (((m : Nat) : Int) < ((m : Nat) : Int)) = false := by simp
              have hm0 : (0 : Int) ≤ (m : Int) := by omega
              obtain ⟨bb, off, v, p', ha, hbl, hpk, hby, y0, y1⟩ := (HDP.out.step HGR.out).2.at_ hml
              simp only at ha
              subst ha
              obtain rfl : p = p' := Option.some.inj (HPM.out.symm.trans hpk)
              rw [HJ0.out] at y0
              have hul : us.length = d.secs.length := by rw [HUS.out.1, perform_len]
              obtain ⟨g, y, hge, hgb2, hgl, hyu, c0, cf0⟩ := HOU.out.cell1 (i := j) (by omega)
              simp only [Option.some.injEq, Addr.mk.injEq] at hge
              obtain ⟨rfl, _⟩ := hge
              have hyb := (HUS.out.2 j y S hyu HSC.out).step HGR.out
              have hyn : y.n = 128 := by rw [hyb.1.1]; exact HSL.out
              have hvn : v.n = 128 := by rw [hby.1.1]; exact HP3.out
              have hyc := hyb.1.2.1
              have hvc := hby.1.2.1
              obtain ⟨vb, voff, hva, hvbl, hvcell⟩ := hby.1.reads (by rw [HP3.out]; omega)
              obtain ⟨yb, yoff, hya, hybl, hycell⟩ := hyb.1.reads (by rw [HSL.out]; omega)
              obtain ⟨Ya, yn, yc⟩ := y
              obtain ⟨Va, vn, vc⟩ := v
              simp only at hyn hvn hya hva hyc hvc c0 y1
              subst hyn hvn hya hva
              have HYB := Lib.hid hyb
              have HVB := Lib.hid hby
              have hj0 : (0 : Int) ≤ (j : Int) := by omega
              have hjl2 : decide ((j : Int) < (d.secs.length : Int)) = true := by simpa using hjl
              have hvc64 : (64 : Int) ≤ (vc : Int) := by omega
              have hsl1 := fun W => run_slice_to (P := Try.prog) Try.underlying35 HIU.out (some ⟨vb, voff, none⟩) 128 vc .i64 64 (by omega) hvc64 W
              simp only [show (64 : Int).toNat = 64 from rfl] at hsl1
              have hsl2 : ∀ W, (Instr.slice 35 (.slice (some ⟨yb, yoff, none⟩) 128 yc) (some (.int .i64 64)) none none).run Try.prog W = .ok (.slice (some ⟨yb, yoff + 64, none⟩) 64 (yc - 64)) W := fun W => by
                have h := run_slice_from (P := Try.prog) Try.underlying35 HIU.out (some ⟨yb, yoff, none⟩) 128 yc .i64 64 (by omega) (by omega) W
                simp only [show (64 : Int).toNat = 64 from rfl] at h
                rw [if_neg (show ¬ yc = 64 by omega), hu2] at h
                simpa [Go.WideShapes.add_plain] using h
              obtain ⟨T, hT⟩ : ∃ T, T = p.2.take 64 := ⟨_, rfl⟩
              obtain ⟨R, hR⟩ : ∃ R, R = S.drop 64 := ⟨_, rfl⟩
              have hTl : T.length = 64 := by rw [hT, List.length_take, HP3.out]; rfl
              have hRl : R.length = 64 := by rw [hR, List.length_drop, HSL.out]
              have hRT : Reads wr wr.heap.size (some ⟨vb, voff, none⟩) 1 byteE T := by rw [hT]; exact HVB.out.1.reads.take
              have hRR : Reads wr wr.heap.size (some ⟨yb, yoff + 64, none⟩) 1 byteE R := by
                have h := HYB.out.1.reads.drop (k := 64) (c := yc) (by rw [HSL.out]; omega) (by rw [HSL.out]; exact hyc)
                rw [if_neg (show ¬ yc = 64 by omega)] at h
                rw [hR]
                simpa [Go.WideShapes.add_plain] using h
              have hTR : T ++ R = tornS p.2 S := by rw [hT, hR]; rfl
              have hbts : ∀ b ∈ tornS p.2 S, 0 ≤ b ∧ b < 256 := by
                intro b hb
                rcases List.mem_append.1 hb with h | h
                · exact HVB.out.2 b (List.mem_of_mem_take h)
                · exact HYB.out.2 b (List.mem_of_mem_drop h)
              have HTL := Lib.hid hTl
              have HRL := Lib.hid hRl
              have HRT := Lib.hid hRT
              have HRR2 := Lib.hid hRR
              have HTR := Lib.hid hTR
              have HBT := Lib.hid hbts
              clear hpk hby hyb hvcell hycell hul hyu hT hR hTl hRl hRT hRR hTR hbts
              go_upto_region 14 with fail
              obtain ⟨W3, hW3⟩ : ∃ X, wr.alloc (.cells #[.int .i64 j, .slice (some ⟨vb, voff, none⟩) 128 vc] 76) = X := ⟨_, rfl⟩
              rw [hW3]
              have b0 : W3.cell? ⟨wr.heap.size, 0, none⟩ = some (.int .i64 j) := by rw [← hW3]; simp [go_sem]
              have b1 : W3.cell? ⟨wr.heap.size, 1, none⟩ = some (.slice (some ⟨vb, voff, none⟩) 128 vc) := by rw [← hW3]; simp [go_sem]
              have hz3 : W3.heap.size = wr.heap.size + 1 := by rw [← hW3]; simp
              have hB3 : Below wr.heap.size wr W3 := by rw [← hW3]; exact (Below.refl _ _).alloc (Nat.le_refl _) _
              have HX3 := Lib.hid (HXR.out.step hB3)
              have HB3 := Lib.hid hB3
              clear hW3 hB3
              have c3 := (HB3.out.cell (p := ⟨gr, j, none⟩) hgl).trans c0
              have cf3 := (HB3.out.frozen (p := ⟨gr, j, none⟩) hgl).trans cf0
              have c3d : W3.drew.cell? ⟨gr, j, none⟩ = some (.slice (some ⟨yb, yoff, none⟩) 128 yc) := c3
              have x3 : W3.cell? ⟨gb, 0, none⟩ = some (.slice (some ⟨gr, 0, none⟩) d.secs.length c5) := HX3.out.c0
              have x3d : W3.drew.cell? ⟨gb, 0, none⟩ = some (.slice (some ⟨gr, 0, none⟩) d.secs.length c5) := x3
              have b0d : W3.drew.cell? ⟨wr.heap.size, 0, none⟩ = some (.int .i64 j) := b0
              have b1d : W3.drew.cell? ⟨wr.heap.size, 1, none⟩ = some (.slice (some ⟨vb, voff, none⟩) 128 vc) := b1
              have hgb3 : gb < W3.heap.size := HX3.out.z
              have hgl3 : gr < W3.heap.size := by omega
              have hwz3 : wr.heap.size < W3.heap.size := by omega
              have HZ4 : Hid (w.heap.size + 1 < W3.heap.size) := Lib.hid (by have := HR2.out.z; omega)
              have OE : Owns (W3.drew.alloc (.cells #[] 5)) W3.heap.size 5 1 byteE (.slice (some ⟨W3.heap.size, 0, none⟩) 0 0) [] := Owns.lit (w := W3.drew) (ys := ([] : List Int)) byteE_len rfl (Nat.le_refl _) (by simp)
              have RT := Lib.hid (((HRT.out.below HB3.out).drew).alloc (w := W3.drew) (show wr.heap.size ≤ W3.heap.size by omega) (.cells #[] 5))
              have HZ3 := Lib.hid hz3
              clear hz3
              go_cut [8] (fun s wx => s = .pointer (some ⟨wr.heap.size, 0, none⟩) ∧ ∃ A6 c6 w6, wx = w6.setCell ⟨gr, j, none⟩ (.slice A6 128 c6) ∧ Owns w6 W3.heap.size 5 1 byteE (.slice A6 128 c6) (T ++ R) ∧ Below W3.heap.size W3 w6)
              case first =>
                refine wp_region_held_drew (S := (fun w' => w'.cell? ⟨gb, 0, none⟩ = some (.slice (some ⟨gr, 0, none⟩) d.secs.length c5) ∧ w'.cell? ⟨wr.heap.size, 0, none⟩ = some (.int .i64 j) ∧ w'.cell? ⟨wr.heap.size, 1, none⟩ = some (.slice (some ⟨vb, voff, none⟩) 128 vc))) (by kernel_rfl) ⟨x3d, b0d, b1d⟩ (fun hHeld => ?_)
                refine wpAnyH_take (i := 0) (v := ?_) rfl (by kernel_rfl) (by kernel_rfl) (by kernel_rfl) (fun _ _ _ h => h) (Or.inl ⟨by rfl, ?_⟩) (by assumption) ?_
                rotate_left
                · intro w hSw
                  (try dsimp only at hSw)
                  go_simp
                  try with_reducible rfl
                simp only [Act.put, List.setIfInBounds_toArray, List.set_cons_zero, List.set_cons_succ]
                refine wpAnyH_take (i := 1) (v := ?_) rfl (by kernel_rfl) (by kernel_rfl) (by kernel_rfl) (fun _ _ _ h => h) (Or.inl ⟨by rfl, ?_⟩) (by assumption) ?_
                rotate_left
                · intro w hSw
                  (try dsimp only at hSw)
                  go_simp
                  try with_reducible rfl
                simp only [Act.put, List.setIfInBounds_toArray, List.set_cons_zero, List.set_cons_succ]
                refine wpAnyH_take (i := 2) (v := ?_) rfl (by kernel_rfl) (by kernel_rfl) (by kernel_rfl) (fun _ _ _ h => h) (Or.inl ⟨by rfl, ?_⟩) (by assumption) ?_
                rotate_left
                · intro w hSw
                  (try dsimp only at hSw)
                  go_simp
                  try with_reducible rfl
                simp only [Act.put, List.setIfInBounds_toArray, List.set_cons_zero, List.set_cons_succ]
                refine wpAnyH_take (i := 3) (v := ?_) rfl (by kernel_rfl) (by kernel_rfl) (by kernel_rfl) (fun _ _ _ h => h) (Or.inl ⟨by rfl, ?_⟩) (by assumption) ?_
                rotate_left
                · intro w hSw
                  (try dsimp only at hSw)
                  go_simp
                  try with_reducible rfl
                simp only [Act.put, List.setIfInBounds_toArray, List.set_cons_zero, List.set_cons_succ]
                refine wpAnyH_take (i := 5) (v := ?_) rfl (by kernel_rfl) (by kernel_rfl) (by kernel_rfl) (fun _ _ _ h => h) (Or.inl ⟨by rfl, ?_⟩) (by assumption) ?_
                rotate_left
                · intro w hSw
                  (try dsimp only at hSw)
                  go_simp
                  try with_reducible rfl
                simp only [Act.put, List.setIfInBounds_toArray, List.set_cons_zero, List.set_cons_succ]
                refine wpAnyH_take (i := 6) (v := ?_) rfl (by kernel_rfl) (by kernel_rfl) (by kernel_rfl) (fun _ _ _ h => h) (Or.inl ⟨by rfl, ?_⟩) (by assumption) ?_
                rotate_left
                · intro w hSw
                  (try dsimp only at hSw)
                  go_simp
                  try with_reducible rfl
                simp only [Act.put, List.setIfInBounds_toArray, List.set_cons_zero, List.set_cons_succ]
                refine wpAnyH_take (i := 7) (v := ?_) rfl (by kernel_rfl) (by kernel_rfl) (by kernel_rfl) (fun _ _ _ h => h) (Or.inl ⟨by rfl, ?_⟩) (by assumption) ?_
                rotate_left
                · intro w hSw
                  (try dsimp only at hSw)
                  go_simp
                  try with_reducible rfl
                simp only [Act.put, List.setIfInBounds_toArray, List.set_cons_zero, List.set_cons_succ]
                refine wpAnyH_take (i := 9) (v := ?_) rfl (by kernel_rfl) (by kernel_rfl) (by kernel_rfl) (fun _ _ _ h => h) (Or.inl ⟨by rfl, ?_⟩) (by assumption) ?_
                rotate_left
                · intro w hSw
                  (try dsimp only at hSw)
                  go_simp
                  try with_reducible rfl
                simp only [Act.put, List.setIfInBounds_toArray, List.set_cons_zero, List.set_cons_succ]
                refine wpAnyH_take (i := 10) (v := ?_) rfl (by kernel_rfl) (by kernel_rfl) (by kernel_rfl) (fun _ _ _ h => h) (Or.inl ⟨by rfl, ?_⟩) (by assumption) ?_
                rotate_left
                · intro w hSw
                  (try dsimp only at hSw)
                  go_simp
                  try with_reducible rfl
                simp only [Act.put, List.setIfInBounds_toArray, List.set_cons_zero, List.set_cons_succ]
                refine wpAnyH_take (i := 11) (v := ?_) rfl (by kernel_rfl) (by kernel_rfl) (by kernel_rfl) (fun _ _ _ h => h) (Or.inl ⟨by rfl, ?_⟩) (by assumption) ?_
                rotate_left
                · intro w hSw
                  (try dsimp only at hSw)
                  go_simp
                  try with_reducible rfl
                simp only [Act.put, List.setIfInBounds_toArray, List.set_cons_zero, List.set_cons_succ]
                refine wpAnyH_take (i := 12) (v := ?_) rfl (by kernel_rfl) (by kernel_rfl) (by kernel_rfl) (fun _ _ _ h => h) (Or.inl ⟨by rfl, ?_⟩) (by assumption) ?_
                rotate_left
                · intro w hSw
                  (try dsimp only at hSw)
                  go_simp
                  try with_reducible rfl
                simp only [Act.put, List.setIfInBounds_toArray, List.set_cons_zero, List.set_cons_succ]
                refine wpAnyH_take (i := 13) (v := ?_) rfl (by kernel_rfl) (by kernel_rfl) (by kernel_rfl) (fun _ _ _ h => h) (Or.inl ⟨by rfl, ?_⟩) (by assumption) ?_
                rotate_left
                · intro w hSw
                  (try dsimp only at hSw)
                  go_simp
                  try with_reducible rfl
                simp only [Act.put, List.setIfInBounds_toArray, List.set_cons_zero, List.set_cons_succ]
                refine wpAnyH_ready (rs := [4, 14]) (by kernel_rfl) (by simp) ?_
                refine AllReadyH.cons rfl (fun K hK => ?_) ?_
                · go_simp
                  refine hK.out _ _ (by refine ⟨?_, ?_, ?_⟩ <;> (simp [go_sem, x3, b0, b1, hgb3, hwz3]; done)) (fun hHeld => ?_)
                  clear hK
                  refine wpAnyH_ready (rs := [8, 14]) (by kernel_rfl) (by simp) ?_
                  refine AllReadyH.cons rfl (fun K hK => ?_) ?_
                  · refine step_append_reads (en := byteE) (sz := 1) (by rfl) _ _ _ (by rfl) byteE_len byteE_one W3.heap.size 5 iu _ _ Try.underlying35 HIU.out hu1 hu2 hu3 rfl (by decide) (.slice (some ⟨W3.heap.size, 0, none⟩) 0 0) [] (by rfl) OE wr.heap.size (some ⟨vb, voff, none⟩) vc T (by rw [HTL.out]; rfl) RT.out (fun h => by cases h) (by rw [HTL.out]; decide) (by rw [HTL.out]; decide) (by simp) ?_
                    intro v5 w5 k1 k2 k3
                    have ez : W3.heap.size ≤ w5.heap.size := Nat.le_trans (by simp) k2.size
                    have e0 : w5.cell? ⟨gb, 0, none⟩ = some (.slice (some ⟨gr, 0, none⟩) d.secs.length c5) := (grown_cell (p := ⟨gb, 0, none⟩) k2 (by simp <;> omega) (by simp [Value.ownBlock] <;> omega)).trans (by simp [go_sem, x3, hgb3])
                    have e1 : w5.cell? ⟨wr.heap.size, 0, none⟩ = some (.int .i64 j) := (grown_cell (p := ⟨wr.heap.size, 0, none⟩) k2 (by simp <;> omega) (by simp [Value.ownBlock] <;> omega)).trans (by simp [go_sem, b0, hwz3])
                    have e2 : w5.cell? ⟨wr.heap.size, 1, none⟩ = some (.slice (some ⟨vb, voff, none⟩) 128 vc) := (grown_cell (p := ⟨wr.heap.size, 1, none⟩) k2 (by simp <;> omega) (by simp [Value.ownBlock] <;> omega)).trans (by simp [go_sem, b1, hwz3])
                    have e3 : w5.cell? ⟨gr, j, none⟩ = some (.slice (some ⟨yb, yoff, none⟩) 128 yc) := (grown_cell (p := ⟨gr, j, none⟩) k2 (by simp <;> omega) (by simp [Value.ownBlock] <;> omega)).trans (by simp [go_sem, c3, hgl3])
                    have hB5 : Below W3.heap.size W3 w5 := ((Below.refl W3.heap.size W3).drew.alloc (Nat.le_refl _) _).grown k2 (by simp) (fun q e => OE.base_le q e)
                    have RR5 := Lib.hid ((HRR2.out.below HB3.out).below (hB5.mono (show wr.heap.size ≤ W3.heap.size by omega)))
                    obtain ⟨A5, c5', hv5, hn5, _⟩ := k1.shape
                    rw [List.nil_append, HTL.out] at hv5
                    rw [List.nil_append] at k1
                    subst hv5
                    have K1 := Lib.hid k1
                    refine hK.out _ _ ⟨e0, e1, e2⟩ (fun hHeld => ?_)
                    clear hK
                    refine wpAnyH_ready (rs := [14]) (by kernel_rfl) (by simp) ?_
                    refine AllReadyH.cons rfl (fun K hK => ?_) ?_
                    · go_simp
                      refine hK.out _ _ (by assumption) (fun hHeld => ?_)
                      clear hK
                      refine wpAnyH_take (i := 15) (v := ?_) rfl (by kernel_rfl) (by kernel_rfl) (by kernel_rfl) (fun _ _ _ h => h) (Or.inl ⟨by rfl, ?_⟩) (by assumption) ?_
                      rotate_left
                      · intro w hSw
                        (try dsimp only at hSw)
                        go_simp
                        try with_reducible rfl
                      simp only [Act.put, List.setIfInBounds_toArray, List.set_cons_zero, List.set_cons_succ]
                      refine wpAnyH_ready (rs := [16]) (by kernel_rfl) (by simp) ?_
                      refine AllReadyH.cons rfl (fun K hK => ?_) ?_
                      · refine step_append_reads (en := byteE) (sz := 1) (by rfl) _ _ _ (by rfl) byteE_len byteE_one W3.heap.size 5 iu _ _ Try.underlying35 HIU.out hu1 hu2 hu3 rfl (by decide) (.slice A5 64 c5') T (by rfl) K1.out wr.heap.size (some ⟨yb, yoff + 64, none⟩) (yc - 64) R (by rw [HRL.out]; rfl) RR5.out (fun h => by cases h) (by rw [HTL.out, HRL.out]; decide) (by rw [HTL.out, HRL.out]; decide) ez ?_
                        intro v6 w6 m1 m2 m3
                        have hB6 : Below W3.heap.size W3 w6 := hB5.grown m2 ez (fun q e => K1.out.base_le q e)
                        have h0 : w6.cell? ⟨gb, 0, none⟩ = some (.slice (some ⟨gr, 0, none⟩) d.secs.length c5) := (hB6.cell (p := ⟨gb, 0, none⟩) hgb3).trans x3
                        have h1 : w6.cell? ⟨wr.heap.size, 0, none⟩ = some (.int .i64 j) := (hB6.cell (p := ⟨wr.heap.size, 0, none⟩) hwz3).trans b0
                        have h2 : w6.cell? ⟨wr.heap.size, 1, none⟩ = some (.slice (some ⟨vb, voff, none⟩) 128 vc) := (hB6.cell (p := ⟨wr.heap.size, 1, none⟩) hwz3).trans b1
                        have h3 : w6.cell? ⟨gr, j, none⟩ = some (.slice (some ⟨yb, yoff, none⟩) 128 yc) := (hB6.cell (p := ⟨gr, j, none⟩) hgl3).trans c3
                        have h4 : w6.frozen? ⟨gr, j, none⟩ = false := (hB6.frozen (p := ⟨gr, j, none⟩) hgl3).trans cf3
                        obtain ⟨A6, c6, hv6, _, _⟩ := m1.shape
                        rw [List.length_append, HTL.out, HRL.out] at hv6
                        subst hv6
                        have M1 := Lib.hid m1
                        refine hK.out _ _ ⟨h0, h1, h2⟩ (fun hHeld => ?_)
                        clear hK
                        refine wpAnyH_take (i := 17) (v := ?_) rfl (by kernel_rfl) (by kernel_rfl) (by kernel_rfl) (fun _ _ _ h => h) (Or.inl ⟨by rfl, ?_⟩) (by assumption) ?_
                        rotate_left
                        · intro w hSw
                          (try dsimp only at hSw)
                          go_simp
                          try with_reducible rfl
                        simp only [Act.put, List.setIfInBounds_toArray, List.set_cons_zero, List.set_cons_succ]
                        refine wpAnyH_ready (rs := [18]) (by kernel_rfl) (by simp) ?_
                        refine AllReadyH.cons rfl (fun K hK => ?_) ?_
                        · go_simp
                          refine hK.out _ _ ⟨(set_far _ _ _ _ (addr_ne (by omega))).trans h0, (set_far _ _ _ _ (addr_ne (by omega))).trans h1, (set_far _ _ _ _ (addr_ne (by omega))).trans h2⟩ (fun hHeld => ?_)
                          clear hK
                          refine wpAnyH_done (by kernel_rfl) ?_ _
                          go_wp2_with fail
                          go_meet
                          exact ⟨rfl, A6, c6, w6, rfl, M1.out, hB6⟩
                        exact AllReadyH.nil
                      exact AllReadyH.nil
                    exact AllReadyH.nil
                  refine AllReadyH.cons rfl (fun K hK => ?_) ?_
                  · go_simp
                    refine hK.out _ _ (by assumption) (fun hHeld => ?_)
                    clear hK
                    refine wpAnyH_take (i := 15) (v := ?_) rfl (by kernel_rfl) (by kernel_rfl) (by kernel_rfl) (fun _ _ _ h => h) (Or.inl ⟨by rfl, ?_⟩) (by assumption) ?_
                    rotate_left
                    · intro w hSw
                      (try dsimp only at hSw)
                      go_simp
                      try with_reducible rfl
                    simp only [Act.put, List.setIfInBounds_toArray, List.set_cons_zero, List.set_cons_succ]
                    refine wpAnyH_ready (rs := [8]) (by kernel_rfl) (by simp) ?_
                    refine AllReadyH.cons rfl (fun K hK => ?_) ?_
                    · refine step_append_reads (en := byteE) (sz := 1) (by rfl) _ _ _ (by rfl) byteE_len byteE_one W3.heap.size 5 iu _ _ Try.underlying35 HIU.out hu1 hu2 hu3 rfl (by decide) (.slice (some ⟨W3.heap.size, 0, none⟩) 0 0) [] (by rfl) OE wr.heap.size (some ⟨vb, voff, none⟩) vc T (by rw [HTL.out]; rfl) RT.out (fun h => by cases h) (by rw [HTL.out]; decide) (by rw [HTL.out]; decide) (by simp) ?_
                      intro v5 w5 k1 k2 k3
                      have ez : W3.heap.size ≤ w5.heap.size := Nat.le_trans (by simp) k2.size
                      have e0 : w5.cell? ⟨gb, 0, none⟩ = some (.slice (some ⟨gr, 0, none⟩) d.secs.length c5) := (grown_cell (p := ⟨gb, 0, none⟩) k2 (by simp <;> omega) (by simp [Value.ownBlock] <;> omega)).trans (by simp [go_sem, x3, hgb3])
                      have e1 : w5.cell? ⟨wr.heap.size, 0, none⟩ = some (.int .i64 j) := (grown_cell (p := ⟨wr.heap.size, 0, none⟩) k2 (by simp <;> omega) (by simp [Value.ownBlock] <;> omega)).trans (by simp [go_sem, b0, hwz3])
                      have e2 : w5.cell? ⟨wr.heap.size, 1, none⟩ = some (.slice (some ⟨vb, voff, none⟩) 128 vc) := (grown_cell (p := ⟨wr.heap.size, 1, none⟩) k2 (by simp <;> omega) (by simp [Value.ownBlock] <;> omega)).trans (by simp [go_sem, b1, hwz3])
                      have e3 : w5.cell? ⟨gr, j, none⟩ = some (.slice (some ⟨yb, yoff, none⟩) 128 yc) := (grown_cell (p := ⟨gr, j, none⟩) k2 (by simp <;> omega) (by simp [Value.ownBlock] <;> omega)).trans (by simp [go_sem, c3, hgl3])
                      have hB5 : Below W3.heap.size W3 w5 := ((Below.refl W3.heap.size W3).drew.alloc (Nat.le_refl _) _).grown k2 (by simp) (fun q e => OE.base_le q e)
                      have RR5 := Lib.hid ((HRR2.out.below HB3.out).below (hB5.mono (show wr.heap.size ≤ W3.heap.size by omega)))
                      obtain ⟨A5, c5', hv5, hn5, _⟩ := k1.shape
                      rw [List.nil_append, HTL.out] at hv5
                      rw [List.nil_append] at k1
                      subst hv5
                      have K1 := Lib.hid k1
                      refine hK.out _ _ ⟨e0, e1, e2⟩ (fun hHeld => ?_)
                      clear hK
                      refine wpAnyH_ready (rs := [16]) (by kernel_rfl) (by simp) ?_
                      refine AllReadyH.cons rfl (fun K hK => ?_) ?_
                      · refine step_append_reads (en := byteE) (sz := 1) (by rfl) _ _ _ (by rfl) byteE_len byteE_one W3.heap.size 5 iu _ _ Try.underlying35 HIU.out hu1 hu2 hu3 rfl (by decide) (.slice A5 64 c5') T (by rfl) K1.out wr.heap.size (some ⟨yb, yoff + 64, none⟩) (yc - 64) R (by rw [HRL.out]; rfl) RR5.out (fun h => by cases h) (by rw [HTL.out, HRL.out]; decide) (by rw [HTL.out, HRL.out]; decide) ez ?_
                        intro v6 w6 m1 m2 m3
                        have hB6 : Below W3.heap.size W3 w6 := hB5.grown m2 ez (fun q e => K1.out.base_le q e)
                        have h0 : w6.cell? ⟨gb, 0, none⟩ = some (.slice (some ⟨gr, 0, none⟩) d.secs.length c5) := (hB6.cell (p := ⟨gb, 0, none⟩) hgb3).trans x3
                        have h1 : w6.cell? ⟨wr.heap.size, 0, none⟩ = some (.int .i64 j) := (hB6.cell (p := ⟨wr.heap.size, 0, none⟩) hwz3).trans b0
                        have h2 : w6.cell? ⟨wr.heap.size, 1, none⟩ = some (.slice (some ⟨vb, voff, none⟩) 128 vc) := (hB6.cell (p := ⟨wr.heap.size, 1, none⟩) hwz3).trans b1
                        have h3 : w6.cell? ⟨gr, j, none⟩ = some (.slice (some ⟨yb, yoff, none⟩) 128 yc) := (hB6.cell (p := ⟨gr, j, none⟩) hgl3).trans c3
                        have h4 : w6.frozen? ⟨gr, j, none⟩ = false := (hB6.frozen (p := ⟨gr, j, none⟩) hgl3).trans cf3
                        obtain ⟨A6, c6, hv6, _, _⟩ := m1.shape
                        rw [List.length_append, HTL.out, HRL.out] at hv6
                        subst hv6
                        have M1 := Lib.hid m1
                        refine hK.out _ _ ⟨h0, h1, h2⟩ (fun hHeld => ?_)
                        clear hK
                        refine wpAnyH_take (i := 17) (v := ?_) rfl (by kernel_rfl) (by kernel_rfl) (by kernel_rfl) (fun _ _ _ h => h) (Or.inl ⟨by rfl, ?_⟩) (by assumption) ?_
                        rotate_left
                        · intro w hSw
                          (try dsimp only at hSw)
                          go_simp
                          try with_reducible rfl
                        simp only [Act.put, List.setIfInBounds_toArray, List.set_cons_zero, List.set_cons_succ]
                        refine wpAnyH_ready (rs := [18]) (by kernel_rfl) (by simp) ?_
                        refine AllReadyH.cons rfl (fun K hK => ?_) ?_
                        · go_simp
                          refine hK.out _ _ ⟨(set_far _ _ _ _ (addr_ne (by omega))).trans h0, (set_far _ _ _ _ (addr_ne (by omega))).trans h1, (set_far _ _ _ _ (addr_ne (by omega))).trans h2⟩ (fun hHeld => ?_)
                          clear hK
                          refine wpAnyH_done (by kernel_rfl) ?_ _
                          go_wp2_with fail
                          go_meet
                          exact ⟨rfl, A6, c6, w6, rfl, M1.out, hB6⟩
                        exact AllReadyH.nil
                      exact AllReadyH.nil
                    exact AllReadyH.nil
                  exact AllReadyH.nil
                refine AllReadyH.cons rfl (fun K hK => ?_) ?_
                · go_simp
                  refine hK.out _ _ (by assumption) (fun hHeld => ?_)
                  clear hK
                  refine wpAnyH_take (i := 15) (v := ?_) rfl (by kernel_rfl) (by kernel_rfl) (by kernel_rfl) (fun _ _ _ h => h) (Or.inl ⟨by rfl, ?_⟩) (by assumption) ?_
                  rotate_left
                  · intro w hSw
                    (try dsimp only at hSw)
                    go_simp
                    try with_reducible rfl
                  simp only [Act.put, List.setIfInBounds_toArray, List.set_cons_zero, List.set_cons_succ]
                  refine wpAnyH_ready (rs := [4]) (by kernel_rfl) (by simp) ?_
                  refine AllReadyH.cons rfl (fun K hK => ?_) ?_
                  · go_simp
                    refine hK.out _ _ (by refine ⟨?_, ?_, ?_⟩ <;> (simp [go_sem, x3, b0, b1, hgb3, hwz3]; done)) (fun hHeld => ?_)
                    clear hK
                    refine wpAnyH_ready (rs := [8]) (by kernel_rfl) (by simp) ?_
                    refine AllReadyH.cons rfl (fun K hK => ?_) ?_
                    · refine step_append_reads (en := byteE) (sz := 1) (by rfl) _ _ _ (by rfl) byteE_len byteE_one W3.heap.size 5 iu _ _ Try.underlying35 HIU.out hu1 hu2 hu3 rfl (by decide) (.slice (some ⟨W3.heap.size, 0, none⟩) 0 0) [] (by rfl) OE wr.heap.size (some ⟨vb, voff, none⟩) vc T (by rw [HTL.out]; rfl) RT.out (fun h => by cases h) (by rw [HTL.out]; decide) (by rw [HTL.out]; decide) (by simp) ?_
                      intro v5 w5 k1 k2 k3
                      have ez : W3.heap.size ≤ w5.heap.size := Nat.le_trans (by simp) k2.size
                      have e0 : w5.cell? ⟨gb, 0, none⟩ = some (.slice (some ⟨gr, 0, none⟩) d.secs.length c5) := (grown_cell (p := ⟨gb, 0, none⟩) k2 (by simp <;> omega) (by simp [Value.ownBlock] <;> omega)).trans (by simp [go_sem, x3, hgb3])
                      have e1 : w5.cell? ⟨wr.heap.size, 0, none⟩ = some (.int .i64 j) := (grown_cell (p := ⟨wr.heap.size, 0, none⟩) k2 (by simp <;> omega) (by simp [Value.ownBlock] <;> omega)).trans (by simp [go_sem, b0, hwz3])
                      have e2 : w5.cell? ⟨wr.heap.size, 1, none⟩ = some (.slice (some ⟨vb, voff, none⟩) 128 vc) := (grown_cell (p := ⟨wr.heap.size, 1, none⟩) k2 (by simp <;> omega) (by simp [Value.ownBlock] <;> omega)).trans (by simp [go_sem, b1, hwz3])
                      have e3 : w5.cell? ⟨gr, j, none⟩ = some (.slice (some ⟨yb, yoff, none⟩) 128 yc) := (grown_cell (p := ⟨gr, j, none⟩) k2 (by simp <;> omega) (by simp [Value.ownBlock] <;> omega)).trans (by simp [go_sem, c3, hgl3])
                      have hB5 : Below W3.heap.size W3 w5 := ((Below.refl W3.heap.size W3).drew.alloc (Nat.le_refl _) _).grown k2 (by simp) (fun q e => OE.base_le q e)
                      have RR5 := Lib.hid ((HRR2.out.below HB3.out).below (hB5.mono (show wr.heap.size ≤ W3.heap.size by omega)))
                      obtain ⟨A5, c5', hv5, hn5, _⟩ := k1.shape
                      rw [List.nil_append, HTL.out] at hv5
                      rw [List.nil_append] at k1
                      subst hv5
                      have K1 := Lib.hid k1
                      refine hK.out _ _ ⟨e0, e1, e2⟩ (fun hHeld => ?_)
                      clear hK
                      refine wpAnyH_ready (rs := [16]) (by kernel_rfl) (by simp) ?_
                      refine AllReadyH.cons rfl (fun K hK => ?_) ?_
                      · refine step_append_reads (en := byteE) (sz := 1) (by rfl) _ _ _ (by rfl) byteE_len byteE_one W3.heap.size 5 iu _ _ Try.underlying35 HIU.out hu1 hu2 hu3 rfl (by decide) (.slice A5 64 c5') T (by rfl) K1.out wr.heap.size (some ⟨yb, yoff + 64, none⟩) (yc - 64) R (by rw [HRL.out]; rfl) RR5.out (fun h => by cases h) (by rw [HTL.out, HRL.out]; decide) (by rw [HTL.out, HRL.out]; decide) ez ?_
                        intro v6 w6 m1 m2 m3
                        have hB6 : Below W3.heap.size W3 w6 := hB5.grown m2 ez (fun q e => K1.out.base_le q e)
                        have h0 : w6.cell? ⟨gb, 0, none⟩ = some (.slice (some ⟨gr, 0, none⟩) d.secs.length c5) := (hB6.cell (p := ⟨gb, 0, none⟩) hgb3).trans x3
                        have h1 : w6.cell? ⟨wr.heap.size, 0, none⟩ = some (.int .i64 j) := (hB6.cell (p := ⟨wr.heap.size, 0, none⟩) hwz3).trans b0
                        have h2 : w6.cell? ⟨wr.heap.size, 1, none⟩ = some (.slice (some ⟨vb, voff, none⟩) 128 vc) := (hB6.cell (p := ⟨wr.heap.size, 1, none⟩) hwz3).trans b1
                        have h3 : w6.cell? ⟨gr, j, none⟩ = some (.slice (some ⟨yb, yoff, none⟩) 128 yc) := (hB6.cell (p := ⟨gr, j, none⟩) hgl3).trans c3
                        have h4 : w6.frozen? ⟨gr, j, none⟩ = false := (hB6.frozen (p := ⟨gr, j, none⟩) hgl3).trans cf3
                        obtain ⟨A6, c6, hv6, _, _⟩ := m1.shape
                        rw [List.length_append, HTL.out, HRL.out] at hv6
                        subst hv6
                        have M1 := Lib.hid m1
                        refine hK.out _ _ ⟨h0, h1, h2⟩ (fun hHeld => ?_)
                        clear hK
                        refine wpAnyH_take (i := 17) (v := ?_) rfl (by kernel_rfl) (by kernel_rfl) (by kernel_rfl) (fun _ _ _ h => h) (Or.inl ⟨by rfl, ?_⟩) (by assumption) ?_
                        rotate_left
                        · intro w hSw
                          (try dsimp only at hSw)
                          go_simp
                          try with_reducible rfl
                        simp only [Act.put, List.setIfInBounds_toArray, List.set_cons_zero, List.set_cons_succ]
                        refine wpAnyH_ready (rs := [18]) (by kernel_rfl) (by simp) ?_
                        refine AllReadyH.cons rfl (fun K hK => ?_) ?_
                        · go_simp
                          refine hK.out _ _ ⟨(set_far _ _ _ _ (addr_ne (by omega))).trans h0, (set_far _ _ _ _ (addr_ne (by omega))).trans h1, (set_far _ _ _ _ (addr_ne (by omega))).trans h2⟩ (fun hHeld => ?_)
                          clear hK
                          refine wpAnyH_done (by kernel_rfl) ?_ _
                          go_wp2_with fail
                          go_meet
                          exact ⟨rfl, A6, c6, w6, rfl, M1.out, hB6⟩
                        exact AllReadyH.nil
                      exact AllReadyH.nil
                    exact AllReadyH.nil
                  exact AllReadyH.nil
                exact AllReadyH.nil
              case rest =>
                obtain ⟨W6, hwc⟩ : ∃ x, x = wc := ⟨_, rfl⟩
                subst hwc
                obtain ⟨rfl, A6, c6, w6, hW6, ho6, hb6⟩ := hcut
                rw [HTR.out] at ho6
                have hww := HR2.out.z
                have hl6 : (tornS p.2 S).length = 128 := by simp [tornS, HP3.out, HSL.out]
                have hby6 : By w6 (fun b => W3.heap.size ≤ b) ⟨A6, 128, c6⟩ (tornS p.2 S) := by
                  have h := SlR.of_owns byteE_len (n := (tornS p.2 S).length) (by rw [hl6]; exact ho6)
                  rw [hl6] at h
                  exact ⟨h, HBT.out⟩
                have HBY6 := Lib.hid hby6
                have hbw := HB3.out.trans (hb6.mono (show wr.heap.size ≤ W3.heap.size by omega))
                have HX6 := Lib.hid (HX3.out.step hb6)
                have HR6 := Lib.hid (HRR.out.step hbw)
                have HO6 := Lib.hid (HOU.out.below hbw (Nat.le_refl _))
                have HG6 := Lib.hid (HGR.out.trans (hbw.mono HGR.out.size))
                have HX7 := Lib.hid (HX6.out.far (grownBy_setCell' w6 ⟨gr, j, none⟩ (.slice A6 128 c6)) (by simp only [ne_eq, Option.some.injEq]; omega))
                have HR7 := Lib.hid (HR6.out.far (grownBy_setCell' w6 ⟨gr, j, none⟩ (.slice A6 128 c6)) (by simp only [ne_eq, Option.some.injEq]; omega))
                have HO7 := Lib.hid (HO6.out.set1 (i := j) ⟨A6, 128, c6⟩)
                have HG7 := Lib.hid (HG6.out.setCell (show w.heap.size ≤ (⟨gr, j, none⟩ : Addr).block by show w.heap.size ≤ gr; omega) (.slice A6 128 c6))
                have HBY7 : Hid (By (w6.setCell ⟨gr, j, none⟩ (.slice A6 128 c6)) (fun b => W3.heap.size ≤ b) ⟨A6, 128, c6⟩ (tornS p.2 S)) := Lib.hid (HBY6.out.keep (Kp.of_grown (grownBy_setCell' w6 ⟨gr, j, none⟩ (.slice A6 128 c6)) (by show ¬ W3.heap.size ≤ gr; omega)))
                simp only at HX7 HR7 HO7
                rw [← hW6] at HX7 HR7 HO7 HG7 HBY7
                clear ho6 hb6 hby6 hbw hW6 x0 x1 x2 x3 xf0 xf1 xf2 xf3 xz r0 r1 r2 r3 f0 f1 f2 f3 rz q0 q1 q2 q3 g0 g1 g2 g3 qz
                obtain ⟨x0, x1, x2, x3, xf0, xf1, xf2, xf3, xz⟩ := HX7.out
                obtain ⟨r0, r1, r2, r3, f0, f1, f2, f3, rz⟩ := HR7.out
                go_wp2_with fail
                have ga := grownBy_setCell' W6 ⟨gb, 2, none⟩ (.int .i64 0)
                have gc := grownBy_setCell' (W6.setCell ⟨gb, 2, none⟩ (.int .i64 0)) ⟨gb, 3, none⟩ (.bool true)
                obtain ⟨Wb, hWb⟩ : ∃ X, X = (W6.setCell ⟨gb, 2, none⟩ (.int .i64 0)).setCell ⟨gb, 3, none⟩ (.bool true) := ⟨_, rfl⟩
                rw [← hWb] at gc
                rw [← hWb]
                have hr8 := ((HR7.out.far ga (by simp only [ne_eq, Option.some.injEq]; omega)).far gc (by simp only [ne_eq, Option.some.injEq]; omega)).put (.slice (some ⟨gr, 0, none⟩) d.secs.length c5) (.slice none 0 0) (.int .i64 0) (.bool true)
                have ho8 := (Owns.base ((HO7.out.kept ga (fun g hg e => by simp [Value.ownBlock] at hg; injection e with e; simp only at e; omega)).kept gc (fun g hg e => by simp [Value.ownBlock] at hg; injection e with e; simp only at e; omega)) (b' := w.heap.size + 2) (by omega)).put4 (b := w.heap.size + 1) (by omega) (.slice (some ⟨gr, 0, none⟩) d.secs.length c5) (.slice none 0 0) (.int .i64 0) (.bool true)
                have hgb8 : Below w.heap.size w Wb := by rw [hWb]; exact (HG7.out.setCell (show w.heap.size ≤ (⟨gb, 2, none⟩ : Addr).block by show w.heap.size ≤ gb; omega) _).setCell (show w.heap.size ≤ (⟨gb, 3, none⟩ : Addr).block by show w.heap.size ≤ gb; omega) _
                have hg8 := put4_below (b := w.heap.size + 1) hgb8 (by omega) (.slice (some ⟨gr, 0, none⟩) d.secs.length c5) (.slice none 0 0) (.int .i64 0) (.bool true)
                have hk8 : Kp (fun b => W3.heap.size ≤ b) W6 (put4 Wb (w.heap.size + 1) (.slice (some ⟨gr, 0, none⟩) d.secs.length c5) (.slice none 0 0) (.int .i64 0) (.bool true)) :=
                  ((Kp.of_grown ga (by show ¬ W3.heap.size ≤ gb; omega)).trans (Kp.of_grown gc (by show ¬ W3.heap.size ≤ gb; omega))).trans (Kp.of_grown (put4_keep _ _ _ _) (by show ¬ W3.heap.size ≤ w.heap.size + 1; have := HZ4.out; omega))
                have hs8 := (((HUS.out.step hg8).mono (Q := Nw P w) (fun b hb => .inl hb.1)).set j ((HBY7.out.keep hk8).mono (Q := Nw P w) (fun b hb => .inr (by have := HZ4.out; omega))))
                have hd8 : Di (put4 Wb (w.heap.size + 1) (.slice (some ⟨gr, 0, none⟩) d.secs.length c5) (.slice none 0 0) (.int .i64 0) (.bool true)) (Nw P w) ⟨some ⟨gr, 0, none⟩, d.secs.length, c5⟩ ⟨none, 0, 0⟩ ⟨(performD d.secs (d.pend.take m)).set j (tornS p.2 S), [], 0, true⟩ :=
                  ⟨Se.of_row (by rw [List.length_set, perform_len]) ho8 hs8 (fun b hb => .inr (by omega)), Pe.nil_ _ _⟩
                obtain ⟨p0, p1, p2, p3, _⟩ := hr8
                unfold put4 at p0 p1 p2 p3
                exact bodyPost_ret (v := .tuple #[.agg #[.slice (some ⟨gr, 0, none⟩) d.secs.length c5, .slice none 0 0, .int .i64 0, .bool true], .int .i64 450]) (by simp [results, Try.results48, go_sem, p0, p1, p2, p3]) rfl ⟨⟨⟨some ⟨gr, 0, none⟩, d.secs.length, c5⟩, ⟨none, 0, 0⟩, rfl, hd8⟩, hg8⟩
      · rw [syncD_go hr (by rw [← HLF.out]; exact hstop), ← HLF.out]
        have hways : decide (0 ≤ lf) = false ∨ (decide (0 ≤ lf) = true ∧ decide (lf < (d.pend.length : Int)) = false) := by simp; omega
        clear hr hstop
        rcases hways with d1 | ⟨d1, d2⟩
        · rw [leftD_neg d1]
          go_enter Try.func48, Try.ntmps48
          go_wp2_with fail
          rw [HW0.out]
          refine (RC.out _ HG.out).mono ?_
          rw [HC.out]
          rintro e w1 ⟨rfl, hb1⟩
          have HR2 := Lib.hid (HB2.out.step hb1)
          have HD2 := Lib.hid (HB1.out.step hb1)
          have HG1 := Lib.hid (HG.out.trans (hb1.mono HG.out.size))
          obtain ⟨r0, r1, r2, r3, f0, f1, f2, f3, rz⟩ := HR2.out
          obtain ⟨q0, q1, q2, q3, g0, g1, g2, g3, qz⟩ := HD2.out
          clear hb1
          go_upto_region 7 with fail
          have hA : Reads w1 w.heap.size A 1 slE vs := HVS.out.reads.below HG1.out
          have hnil : A = none → c = 0 := HVS.out.2.2.2.1
          have hvl := HVL.out
          have HA := Lib.hid hA
          have HNL := Lib.hid hnil
          have q0d : w1.drew.cell? ⟨w.heap.size, 0, none⟩ = some (.slice A d.secs.length c) := q0
          have q2d : w1.drew.cell? ⟨w.heap.size, 2, none⟩ = some (.int .i64 lf) := q2
          clear hA hnil
          have OA : Owns (w1.drew.alloc (.cells #[] 35)) w1.heap.size 35 1 slE (.slice (some ⟨w1.heap.size, 0, none⟩) 0 0) [] := Owns.lit (w := w1.drew) (ys := ([] : List Sl)) slE_len rfl (Nat.le_refl _) (by simp)
          have OB : Owns ((w1.drew.alloc (.cells #[.slice none 0 0, .slice none 0 0, .int .i64 0, .bool false] 25)).alloc (.cells #[] 35)) w1.heap.size 35 1 slE (.slice (some ⟨w1.heap.size + 1, 0, none⟩) 0 0) [] := by
            have := Owns.lit (w := w1.drew.alloc (.cells #[.slice none 0 0, .slice none 0 0, .int .i64 0, .bool false] 25)) (base := w1.heap.size) (cs := #[]) (e := 35) (ys := ([] : List Sl)) slE_len rfl (by simp) (by simp)
            simpa using this
          have OC : Owns ((w1.drew.alloc (.cells #[] 35)).alloc (.cells #[.slice none 0 0, .slice none 0 0, .int .i64 0, .bool false] 25)) w1.heap.size 35 1 slE (.slice (some ⟨w1.heap.size, 0, none⟩) 0 0) [] := OA.alloc _
          have BB : Hid (Box4 ((w1.drew.alloc (.cells #[.slice none 0 0, .slice none 0 0, .int .i64 0, .bool false] 25)).alloc (.cells #[] 35)) w1.heap.size (.slice none 0 0) (.slice none 0 0) (.int .i64 0) (.bool false)) := Lib.hid ((Box4.new w1.drew _ _ _ _ _).step ((Below.refl _ _).alloc (Nat.le_refl _) _))
          have BC : Hid (Box4 ((w1.drew.alloc (.cells #[] 35)).alloc (.cells #[.slice none 0 0, .slice none 0 0, .int .i64 0, .bool false] 25)) (w1.heap.size + 1) (.slice none 0 0) (.slice none 0 0) (.int .i64 0) (.bool false)) := Lib.hid (Box4.at_ _ _ _ _ _ _ _ (by simp))
          have RA := Lib.hid ((HA.out.drew).alloc (w := w1.drew) (by show w.heap.size ≤ w1.heap.size; omega) (.cells #[] 35))
          have RB := Lib.hid (((HA.out.drew).alloc (w := w1.drew) (by show w.heap.size ≤ w1.heap.size; omega) (.cells #[.slice none 0 0, .slice none 0 0, .int .i64 0, .bool false] 25)).alloc (by simp; omega) (.cells #[] 35))
          have RCC := Lib.hid (RA.out.alloc (by simp; omega) (.cells #[.slice none 0 0, .slice none 0 0, .int .i64 0, .bool false] 25))
          go_cut [6] (fun s wx => LocD w1.heap.size w1 lf d.secs.length vs s wx)
          case first =>
            go_region_held_law (fun w' => w'.cell? ⟨w.heap.size, 0, none⟩ = some (.slice A d.secs.length c) ∧ w'.cell? ⟨w.heap.size, 2, none⟩ = some (.int .i64 lf)) (first | with_reducible exact ⟨q0, q2⟩ | with_reducible exact ⟨q0d, q2d⟩ | with_reducible exact ⟨e0, e2⟩ | with_reducible exact ⟨(put4_far (by omega) _ _ _ _).trans e0, (put4_far (by omega) _ _ _ _).trans e2⟩ | (refine ⟨?_, ?_⟩ <;> (simp [go_sem, q0, q2, qz]; done)) | (refine ⟨?_, ?_⟩ <;> (simp [go_sem, e0, e2, ez]; done))) (first | (refine step_append_reads (en := slE) (sz := 1) (by rfl) _ _ _ (by rfl) slE_len slE_one w1.heap.size 35 i1 _ _ Try.underlying22 HI1.out hz1 hz1' hz1'' rfl (by decide) (.slice (some ⟨w1.heap.size, 0, none⟩) 0 0) [] (by rfl) OA w.heap.size A c vs (by rw [hvl]; rfl) RA.out HNL.out (by simp [maxLen]; omega) (by simp; omega) (by simp <;> omega) ?_; intro v5 w5 k1 k2 k3; have ez : w.heap.size < w5.heap.size := Nat.lt_of_lt_of_le (by simp; omega) k2.size; have e0 : w5.cell? ⟨w.heap.size, 0, none⟩ = some (.slice A d.secs.length c) := (grown_cell (p := ⟨w.heap.size, 0, none⟩) k2 (by simp <;> omega) (by simp [Value.ownBlock] <;> omega)).trans (by simp [go_sem, q0, qz]); have e2 : w5.cell? ⟨w.heap.size, 2, none⟩ = some (.int .i64 lf) := (grown_cell (p := ⟨w.heap.size, 2, none⟩) k2 (by simp <;> omega) (by simp [Value.ownBlock] <;> omega)).trans (by simp [go_sem, q2, qz]); obtain ⟨A5, c5, rfl, _, _⟩ := k1.shape) | (refine step_append_reads (en := slE) (sz := 1) (by rfl) _ _ _ (by rfl) slE_len slE_one w1.heap.size 35 i1 _ _ Try.underlying22 HI1.out hz1 hz1' hz1'' rfl (by decide) (.slice (some ⟨w1.heap.size, 0, none⟩) 0 0) [] (by rfl) OC w.heap.size A c vs (by rw [hvl]; rfl) RCC.out HNL.out (by simp [maxLen]; omega) (by simp; omega) (by simp <;> omega) ?_; intro v5 w5 k1 k2 k3; have ez : w.heap.size < w5.heap.size := Nat.lt_of_lt_of_le (by simp; omega) k2.size; have e0 : w5.cell? ⟨w.heap.size, 0, none⟩ = some (.slice A d.secs.length c) := (grown_cell (p := ⟨w.heap.size, 0, none⟩) k2 (by simp <;> omega) (by simp [Value.ownBlock] <;> omega)).trans (by simp [go_sem, q0, qz]); have e2 : w5.cell? ⟨w.heap.size, 2, none⟩ = some (.int .i64 lf) := (grown_cell (p := ⟨w.heap.size, 2, none⟩) k2 (by simp <;> omega) (by simp [Value.ownBlock] <;> omega)).trans (by simp [go_sem, q2, qz]); obtain ⟨A5, c5, rfl, _, _⟩ := k1.shape; have hbx := BC.out.far k2 (by simp [Value.ownBlock]); have HBX := Lib.hid hbx; obtain ⟨b0, b1, b2, b3, bf0, bf1, bf2, bf3, bz⟩ := hbx) | (refine step_append_reads (en := slE) (sz := 1) (by rfl) _ _ _ (by rfl) slE_len slE_one w1.heap.size 35 i1 _ _ Try.underlying22 HI1.out hz1 hz1' hz1'' rfl (by decide) (.slice (some ⟨w1.heap.size + 1, 0, none⟩) 0 0) [] (by rfl) OB w.heap.size A c vs (by rw [hvl]; rfl) RB.out HNL.out (by simp [maxLen]; omega) (by simp; omega) (by simp <;> omega) ?_; intro v5 w5 k1 k2 k3; have ez : w.heap.size < w5.heap.size := Nat.lt_of_lt_of_le (by simp; omega) k2.size; have e0 : w5.cell? ⟨w.heap.size, 0, none⟩ = some (.slice A d.secs.length c) := (grown_cell (p := ⟨w.heap.size, 0, none⟩) k2 (by simp <;> omega) (by simp [Value.ownBlock] <;> omega)).trans (by simp [go_sem, q0, qz]); have e2 : w5.cell? ⟨w.heap.size, 2, none⟩ = some (.int .i64 lf) := (grown_cell (p := ⟨w.heap.size, 2, none⟩) k2 (by simp <;> omega) (by simp [Value.ownBlock] <;> omega)).trans (by simp [go_sem, q2, qz]); obtain ⟨A5, c5, rfl, _, _⟩ := k1.shape; have hbx := BB.out.far k2 (by simp [Value.ownBlock]); have HBX := Lib.hid hbx; obtain ⟨b0, b1, b2, b3, bf0, bf1, bf2, bf3, bz⟩ := hbx))
            all_goals
              have hb5 : Below w1.heap.size w1 w5 := by
                first
                | exact (((Below.refl w1.heap.size w1).drew.alloc (Nat.le_refl _) _)).grown k2 (by simp) (fun q e => OA.base_le q e)
                | exact (((Below.refl w1.heap.size w1).drew.alloc (Nat.le_refl _) _).alloc (by simp) _).grown k2 (by simp <;> omega) (fun q e => OC.base_le q e)
                | exact (((Below.refl w1.heap.size w1).drew.alloc (Nat.le_refl _) _).alloc (by simp) _).grown k2 (by simp <;> omega) (fun q e => OB.base_le q e)
              simp only [List.nil_append, hvl] at k1 k3
              go_simp
              go_wp2_with fail
              go_meet
              first
              | exact LocD.newBox k1 (by omega) hb5 hb5.size
              | exact LocD.oldBox k1 (by omega) hb5 (by omega) HBX.out (by rcases k3 with h | h <;> (rw [h]; simp [Value.ownBlock] <;> omega))
              | exact LocD.oldBox k1 (by omega) hb5 (by omega) HBX.out (by rcases k3 with h | h <;> (simp at h; simp [h, Value.ownBlock] <;> omega))
          case rest =>
            obtain ⟨W2, hwc⟩ : ∃ x, x = wc := ⟨_, rfl⟩
            subst hwc
            obtain ⟨gb, gr, c5, rfl, hgb, hgr, hne, hbx, how, hbw⟩ := hcut
            have HBX := Lib.hid hbx
            have HOW := Lib.hid how
            have HBW := Lib.hid hbw
            clear r0 r1 r2 r3 f0 f1 f2 f3 rz q0 q1 q2 q3 g0 g1 g2 g3 qz q0d q2d OA OB OC hbx how hbw
            go_wp2_with fail
            go_loopw [7] (fun i wr => ∃ (k : Nat) (us : List Sl), k ≤ d.pend.length ∧ i = .int .i64 k ∧ Box4 wr gb (.slice (some ⟨gr, 0, none⟩) d.secs.length c5) (.slice none 0 0) (.int .i64 lf) (.bool false) ∧ Owns wr w1.heap.size 35 1 slE (.slice (some ⟨gr, 0, none⟩) d.secs.length c5) us ∧ HS w (fun b => P b ∧ b < w.heap.size) us (performD d.secs (d.pend.take k)) ∧ Below w1.heap.size w1 wr) (fun i _ => d.pend.length - (intOf i).toNat)
            case atStart => exact ⟨0, vs, Nat.zero_le _, rfl, HBX.out, HOW.out, by simpa [performD] using HHS.out, HBW.out⟩
            case round =>
              obtain ⟨k, us, hk, rfl, hbx, hou, hus, hbr⟩ := hrel
              have HBR := Lib.hid hbr
              have HGR := Lib.hid (HG1.out.trans (hbr.mono HG1.out.size))
              have HDR := Lib.hid (HD2.out.step hbr)
              have HRR := Lib.hid (HR2.out.step hbr)
              have HXR := Lib.hid hbx
              have HOU := Lib.hid hou
              have HUS := Lib.hid hus
              have hzr := hbr.size
              clear hbx hou hus hbr
              obtain ⟨q0, q1, q2, q3, g0, g1, g2, g3, qz⟩ := HDR.out
              obtain ⟨x0, x1, x2, x3, xf0, xf1, xf2, xf3, xz⟩ := HXR.out
              obtain ⟨r0, r1, r2, r3, f0, f1, f2, f3, rz⟩ := HRR.out
              by_cases hlt : k < d.pend.length
              · have hltp : k < d.pend.length := by omega
                obtain ⟨bb, off, v, p, ha, hbl, hpk, hby, y0, y1⟩ := (HDP.out.step HGR.out).2.at_ hltp
                obtain ⟨_, _, v', p', ha', hbl', hpk', hby', z0, z1⟩ := HDP.out.2.at_ hltp
                simp only at ha ha'
                subst ha
                simp only [Option.some.injEq, Addr.mk.injEq] at ha'
                obtain ⟨rfl, rfl, _⟩ := ha'
                obtain rfl : p = p' := Option.some.inj (hpk.symm.trans hpk')
                have q1' := (HGR.out.cell (p := ⟨bb, off + k * 2 + 1, none⟩) hbl').trans z1
                rw [y1] at q1'
                simp only [Option.some.injEq, Value.slice.injEq] at q1'
                obtain ⟨e1, e2, e3⟩ := q1'
                have hvv : v = v' := by cases v; cases v'; simp only at e1 e2 e3; subst e1 e2 e3; rfl
                subst hvv
                obtain ⟨j, hj⟩ : ∃ j : Nat, p.1 = (j : Int) := ⟨p.1.toNat, by have := (HV1.out p (List.mem_of_getElem? hpk)).1; omega⟩
                have hjl : j < d.secs.length := by have := (HV1.out p (List.mem_of_getElem? hpk)).2.1; omega
                have hul : us.length = d.secs.length := by rw [HUS.out.1, perform_len]
                obtain ⟨g, y, hge, hgb2, hgl, _, c0, cf0⟩ := HOU.out.cell1 (i := j) (by omega)
                simp only [Option.some.injEq, Addr.mk.injEq] at hge
                obtain ⟨rfl, _⟩ := hge
                rw [hj] at y0
                have HPK := Lib.hid hpk
                have HBY := Lib.hid hby'
                have HJ := Lib.hid hj
                clear hpk hpk' hby hby' z0 z1 e1 e2 e3 hul
                have hj0 : (0 : Int) ≤ (j : Int) := by omega
                have hk0 : (0 : Int) ≤ (k : Int) := by omega
                have hlt2 : decide ((k : Int) < ((d.pend.length : Nat) : Int)) = true := by simpa using hlt
                have hlt3 : decide ((k : Int) < (d.pend.length : Int)) = true := by simpa using hltp
                have hjl2 : decide ((j : Int) < (d.secs.length : Int)) = true := by simpa using hjl
                go_upto_region 11 with fail
                refine wp_region_tail 15 (by kernel_rfl) (by kernel_rfl) ?_
                simp only [List.take_succ_cons, List.take_zero, List.drop_succ_cons, List.drop_zero]
                repeat still_step
                refine wpStill_nil ?_
                go_wp2_with fail
                go_roundw
                case rel =>
                  refine ⟨k + 1, us.set j v, by omega, by go_num, ?_, ?_, ?_, ?_⟩
                  · exact (HXR.out.far (grownBy_setCell' wr ⟨gr, j, none⟩ (.slice v.a v.n v.c)) (by simp only [ne_eq, Option.some.injEq]; omega)).drew
                  · exact HOU.out.set1 v
                  · rw [perform_snoc HPK.out, HJ.out, Int.toNat_natCast]; exact HUS.out.set j HBY.out
                  · exact (HBR.out.setCell (show w1.heap.size ≤ (⟨gr, j, none⟩ : Addr).block from hgr) _).drew
                case measure => simp [intOf]; omega
              · have hkm : d.pend.length = k := by omega
                subst hkm
                have hlt2 : decide (((d.pend.length : Nat) : Int) < ((d.pend.length : Nat) : Int)) = false := by simp
                have hus := HUS.out
                rw [List.take_length] at hus
                have HU2 := Lib.hid hus
                have hzz := HR2.out.z
                clear hus
                go_wp2_with fail
                have hr8 := HRR.out.put (.slice (some ⟨gr, 0, none⟩) d.secs.length c5) (.slice none 0 0) (.int .i64 lf) (.bool false)
                have ho8 := (Owns.base HOU.out (b' := w.heap.size + 2) (by omega)).put4 (b := w.heap.size + 1) (by omega) (.slice (some ⟨gr, 0, none⟩) d.secs.length c5) (.slice none 0 0) (.int .i64 lf) (.bool false)
                have hg8 := put4_below (b := w.heap.size + 1) HGR.out (by omega) (.slice (some ⟨gr, 0, none⟩) d.secs.length c5) (.slice none 0 0) (.int .i64 lf) (.bool false)
                have hd8 : Di (put4 wr (w.heap.size + 1) (.slice (some ⟨gr, 0, none⟩) d.secs.length c5) (.slice none 0 0) (.int .i64 lf) (.bool false)) (Nw P w) ⟨some ⟨gr, 0, none⟩, d.secs.length, c5⟩ ⟨none, 0, 0⟩ ⟨performD d.secs d.pend, [], lf, false⟩ :=
                  ⟨Se.of_row (by rw [perform_len]) ho8 ((HU2.out.step hg8).mono (fun b hb => .inl hb.1)) (fun b hb => .inr (by omega)), Pe.nil_ _ _⟩
                obtain ⟨p0, p1, p2, p3, _⟩ := hr8
                unfold put4 at p0 p1 p2 p3
                exact bodyPost_ret (v := .tuple #[.agg #[.slice (some ⟨gr, 0, none⟩) d.secs.length c5, .slice none 0 0, .int .i64 lf, .bool false], .int .i64 0]) (by simp [results, Try.results48, go_sem, p0, p1, p2, p3]) rfl ⟨⟨⟨some ⟨gr, 0, none⟩, d.secs.length, c5⟩, ⟨none, 0, 0⟩, rfl, hd8⟩, hg8⟩
        · rw [leftD_pos d1]
          go_enter Try.func48, Try.ntmps48
          go_wp2_with fail
          rw [HW0.out]
          refine (RC.out _ HG.out).mono ?_
          rw [HC.out]
          rintro e w1 ⟨rfl, hb1⟩
          have HR2 := Lib.hid (HB2.out.step hb1)
          have HD2 := Lib.hid (HB1.out.step hb1)
          have HG1 := Lib.hid (HG.out.trans (hb1.mono HG.out.size))
          obtain ⟨r0, r1, r2, r3, f0, f1, f2, f3, rz⟩ := HR2.out
          obtain ⟨q0, q1, q2, q3, g0, g1, g2, g3, qz⟩ := HD2.out
          clear hb1
          go_upto_region 7 with fail
          have hA : Reads w1 w.heap.size A 1 slE vs := HVS.out.reads.below HG1.out
          have hnil : A = none → c = 0 := HVS.out.2.2.2.1
          have hvl := HVL.out
          have HA := Lib.hid hA
          have HNL := Lib.hid hnil
          have q0d : w1.drew.cell? ⟨w.heap.size, 0, none⟩ = some (.slice A d.secs.length c) := q0
          have q2d : w1.drew.cell? ⟨w.heap.size, 2, none⟩ = some (.int .i64 lf) := q2
          clear hA hnil
          have OA : Owns (w1.drew.alloc (.cells #[] 35)) w1.heap.size 35 1 slE (.slice (some ⟨w1.heap.size, 0, none⟩) 0 0) [] := Owns.lit (w := w1.drew) (ys := ([] : List Sl)) slE_len rfl (Nat.le_refl _) (by simp)
          have OB : Owns ((w1.drew.alloc (.cells #[.slice none 0 0, .slice none 0 0, .int .i64 0, .bool false] 25)).alloc (.cells #[] 35)) w1.heap.size 35 1 slE (.slice (some ⟨w1.heap.size + 1, 0, none⟩) 0 0) [] := by
            have := Owns.lit (w := w1.drew.alloc (.cells #[.slice none 0 0, .slice none 0 0, .int .i64 0, .bool false] 25)) (base := w1.heap.size) (cs := #[]) (e := 35) (ys := ([] : List Sl)) slE_len rfl (by simp) (by simp)
            simpa using this
          have OC : Owns ((w1.drew.alloc (.cells #[] 35)).alloc (.cells #[.slice none 0 0, .slice none 0 0, .int .i64 0, .bool false] 25)) w1.heap.size 35 1 slE (.slice (some ⟨w1.heap.size, 0, none⟩) 0 0) [] := OA.alloc _
          have BB : Hid (Box4 ((w1.drew.alloc (.cells #[.slice none 0 0, .slice none 0 0, .int .i64 0, .bool false] 25)).alloc (.cells #[] 35)) w1.heap.size (.slice none 0 0) (.slice none 0 0) (.int .i64 0) (.bool false)) := Lib.hid ((Box4.new w1.drew _ _ _ _ _).step ((Below.refl _ _).alloc (Nat.le_refl _) _))
          have BC : Hid (Box4 ((w1.drew.alloc (.cells #[] 35)).alloc (.cells #[.slice none 0 0, .slice none 0 0, .int .i64 0, .bool false] 25)) (w1.heap.size + 1) (.slice none 0 0) (.slice none 0 0) (.int .i64 0) (.bool false)) := Lib.hid (Box4.at_ _ _ _ _ _ _ _ (by simp))
          have RA := Lib.hid ((HA.out.drew).alloc (w := w1.drew) (by show w.heap.size ≤ w1.heap.size; omega) (.cells #[] 35))
          have RB := Lib.hid (((HA.out.drew).alloc (w := w1.drew) (by show w.heap.size ≤ w1.heap.size; omega) (.cells #[.slice none 0 0, .slice none 0 0, .int .i64 0, .bool false] 25)).alloc (by simp; omega) (.cells #[] 35))
          have RCC := Lib.hid (RA.out.alloc (by simp; omega) (.cells #[.slice none 0 0, .slice none 0 0, .int .i64 0, .bool false] 25))
          go_cut [6] (fun s wx => LocD w1.heap.size w1 lf d.secs.length vs s wx)
          case first =>
            go_region_held_law (fun w' => w'.cell? ⟨w.heap.size, 0, none⟩ = some (.slice A d.secs.length c) ∧ w'.cell? ⟨w.heap.size, 2, none⟩ = some (.int .i64 lf)) (first | with_reducible exact ⟨q0, q2⟩ | with_reducible exact ⟨q0d, q2d⟩ | with_reducible exact ⟨e0, e2⟩ | with_reducible exact ⟨(put4_far (by omega) _ _ _ _).trans e0, (put4_far (by omega) _ _ _ _).trans e2⟩ | (refine ⟨?_, ?_⟩ <;> (simp [go_sem, q0, q2, qz]; done)) | (refine ⟨?_, ?_⟩ <;> (simp [go_sem, e0, e2, ez]; done))) (first | (refine step_append_reads (en := slE) (sz := 1) (by rfl) _ _ _ (by rfl) slE_len slE_one w1.heap.size 35 i1 _ _ Try.underlying22 HI1.out hz1 hz1' hz1'' rfl (by decide) (.slice (some ⟨w1.heap.size, 0, none⟩) 0 0) [] (by rfl) OA w.heap.size A c vs (by rw [hvl]; rfl) RA.out HNL.out (by simp [maxLen]; omega) (by simp; omega) (by simp <;> omega) ?_; intro v5 w5 k1 k2 k3; have ez : w.heap.size < w5.heap.size := Nat.lt_of_lt_of_le (by simp; omega) k2.size; have e0 : w5.cell? ⟨w.heap.size, 0, none⟩ = some (.slice A d.secs.length c) := (grown_cell (p := ⟨w.heap.size, 0, none⟩) k2 (by simp <;> omega) (by simp [Value.ownBlock] <;> omega)).trans (by simp [go_sem, q0, qz]); have e2 : w5.cell? ⟨w.heap.size, 2, none⟩ = some (.int .i64 lf) := (grown_cell (p := ⟨w.heap.size, 2, none⟩) k2 (by simp <;> omega) (by simp [Value.ownBlock] <;> omega)).trans (by simp [go_sem, q2, qz]); obtain ⟨A5, c5, rfl, _, _⟩ := k1.shape) | (refine step_append_reads (en := slE) (sz := 1) (by rfl) _ _ _ (by rfl) slE_len slE_one w1.heap.size 35 i1 _ _ Try.underlying22 HI1.out hz1 hz1' hz1'' rfl (by decide) (.slice (some ⟨w1.heap.size, 0, none⟩) 0 0) [] (by rfl) OC w.heap.size A c vs (by rw [hvl]; rfl) RCC.out HNL.out (by simp [maxLen]; omega) (by simp; omega) (by simp <;> omega) ?_; intro v5 w5 k1 k2 k3; have ez : w.heap.size < w5.heap.size := Nat.lt_of_lt_of_le (by simp; omega) k2.size; have e0 : w5.cell? ⟨w.heap.size, 0, none⟩ = some (.slice A d.secs.length c) := (grown_cell (p := ⟨w.heap.size, 0, none⟩) k2 (by simp <;> omega) (by simp [Value.ownBlock] <;> omega)).trans (by simp [go_sem, q0, qz]); have e2 : w5.cell? ⟨w.heap.size, 2, none⟩ = some (.int .i64 lf) := (grown_cell (p := ⟨w.heap.size, 2, none⟩) k2 (by simp <;> omega) (by simp [Value.ownBlock] <;> omega)).trans (by simp [go_sem, q2, qz]); obtain ⟨A5, c5, rfl, _, _⟩ := k1.shape; have hbx := BC.out.far k2 (by simp [Value.ownBlock]); have HBX := Lib.hid hbx; obtain ⟨b0, b1, b2, b3, bf0, bf1, bf2, bf3, bz⟩ := hbx) | (refine step_append_reads (en := slE) (sz := 1) (by rfl) _ _ _ (by rfl) slE_len slE_one w1.heap.size 35 i1 _ _ Try.underlying22 HI1.out hz1 hz1' hz1'' rfl (by decide) (.slice (some ⟨w1.heap.size + 1, 0, none⟩) 0 0) [] (by rfl) OB w.heap.size A c vs (by rw [hvl]; rfl) RB.out HNL.out (by simp [maxLen]; omega) (by simp; omega) (by simp <;> omega) ?_; intro v5 w5 k1 k2 k3; have ez : w.heap.size < w5.heap.size := Nat.lt_of_lt_of_le (by simp; omega) k2.size; have e0 : w5.cell? ⟨w.heap.size, 0, none⟩ = some (.slice A d.secs.length c) := (grown_cell (p := ⟨w.heap.size, 0, none⟩) k2 (by simp <;> omega) (by simp [Value.ownBlock] <;> omega)).trans (by simp [go_sem, q0, qz]); have e2 : w5.cell? ⟨w.heap.size, 2, none⟩ = some (.int .i64 lf) := (grown_cell (p := ⟨w.heap.size, 2, none⟩) k2 (by simp <;> omega) (by simp [Value.ownBlock] <;> omega)).trans (by simp [go_sem, q2, qz]); obtain ⟨A5, c5, rfl, _, _⟩ := k1.shape; have hbx := BB.out.far k2 (by simp [Value.ownBlock]); have HBX := Lib.hid hbx; obtain ⟨b0, b1, b2, b3, bf0, bf1, bf2, bf3, bz⟩ := hbx))
            all_goals
              have hb5 : Below w1.heap.size w1 w5 := by
                first
                | exact (((Below.refl w1.heap.size w1).drew.alloc (Nat.le_refl _) _)).grown k2 (by simp) (fun q e => OA.base_le q e)
                | exact (((Below.refl w1.heap.size w1).drew.alloc (Nat.le_refl _) _).alloc (by simp) _).grown k2 (by simp <;> omega) (fun q e => OC.base_le q e)
                | exact (((Below.refl w1.heap.size w1).drew.alloc (Nat.le_refl _) _).alloc (by simp) _).grown k2 (by simp <;> omega) (fun q e => OB.base_le q e)
              simp only [List.nil_append, hvl] at k1 k3
              go_simp
              go_wp2_with fail
              go_meet
              first
              | exact LocD.newBox k1 (by omega) hb5 hb5.size
              | exact LocD.oldBox k1 (by omega) hb5 (by omega) HBX.out (by rcases k3 with h | h <;> (rw [h]; simp [Value.ownBlock] <;> omega))
              | exact LocD.oldBox k1 (by omega) hb5 (by omega) HBX.out (by rcases k3 with h | h <;> (simp at h; simp [h, Value.ownBlock] <;> omega))
          case rest =>
            obtain ⟨W2, hwc⟩ : ∃ x, x = wc := ⟨_, rfl⟩
            subst hwc
            obtain ⟨gb, gr, c5, rfl, hgb, hgr, hne, hbx, how, hbw⟩ := hcut
            have HBX := Lib.hid hbx
            have HOW := Lib.hid how
            have HBW := Lib.hid hbw
            clear r0 r1 r2 r3 f0 f1 f2 f3 rz q0 q1 q2 q3 g0 g1 g2 g3 qz q0d q2d OA OB OC hbx how hbw
            go_wp2_with fail
            go_loopw [7] (fun i wr => ∃ (k : Nat) (us : List Sl), k ≤ d.pend.length ∧ i = .int .i64 k ∧ Box4 wr gb (.slice (some ⟨gr, 0, none⟩) d.secs.length c5) (.slice none 0 0) (.int .i64 lf) (.bool false) ∧ Owns wr w1.heap.size 35 1 slE (.slice (some ⟨gr, 0, none⟩) d.secs.length c5) us ∧ HS w (fun b => P b ∧ b < w.heap.size) us (performD d.secs (d.pend.take k)) ∧ Below w1.heap.size w1 wr) (fun i _ => d.pend.length - (intOf i).toNat)
            case atStart => exact ⟨0, vs, Nat.zero_le _, rfl, HBX.out, HOW.out, by simpa [performD] using HHS.out, HBW.out⟩
            case round =>
              obtain ⟨k, us, hk, rfl, hbx, hou, hus, hbr⟩ := hrel
              have HBR := Lib.hid hbr
              have HGR := Lib.hid (HG1.out.trans (hbr.mono HG1.out.size))
              have HDR := Lib.hid (HD2.out.step hbr)
              have HRR := Lib.hid (HR2.out.step hbr)
              have HXR := Lib.hid hbx
              have HOU := Lib.hid hou
              have HUS := Lib.hid hus
              have hzr := hbr.size
              clear hbx hou hus hbr
              obtain ⟨q0, q1, q2, q3, g0, g1, g2, g3, qz⟩ := HDR.out
              obtain ⟨x0, x1, x2, x3, xf0, xf1, xf2, xf3, xz⟩ := HXR.out
              obtain ⟨r0, r1, r2, r3, f0, f1, f2, f3, rz⟩ := HRR.out
              by_cases hlt : k < d.pend.length
              · have hltp : k < d.pend.length := by omega
                obtain ⟨bb, off, v, p, ha, hbl, hpk, hby, y0, y1⟩ := (HDP.out.step HGR.out).2.at_ hltp
                obtain ⟨_, _, v', p', ha', hbl', hpk', hby', z0, z1⟩ := HDP.out.2.at_ hltp
                simp only at ha ha'
                subst ha
                simp only [Option.some.injEq, Addr.mk.injEq] at ha'
                obtain ⟨rfl, rfl, _⟩ := ha'
                obtain rfl : p = p' := Option.some.inj (hpk.symm.trans hpk')
                have q1' := (HGR.out.cell (p := ⟨bb, off + k * 2 + 1, none⟩) hbl').trans z1
                rw [y1] at q1'
                simp only [Option.some.injEq, Value.slice.injEq] at q1'
                obtain ⟨e1, e2, e3⟩ := q1'
                have hvv : v = v' := by cases v; cases v'; simp only at e1 e2 e3; subst e1 e2 e3; rfl
                subst hvv
                obtain ⟨j, hj⟩ : ∃ j : Nat, p.1 = (j : Int) := ⟨p.1.toNat, by have := (HV1.out p (List.mem_of_getElem? hpk)).1; omega⟩
                have hjl : j < d.secs.length := by have := (HV1.out p (List.mem_of_getElem? hpk)).2.1; omega
                have hul : us.length = d.secs.length := by rw [HUS.out.1, perform_len]
                obtain ⟨g, y, hge, hgb2, hgl, _, c0, cf0⟩ := HOU.out.cell1 (i := j) (by omega)
                simp only [Option.some.injEq, Addr.mk.injEq] at hge
                obtain ⟨rfl, _⟩ := hge
                rw [hj] at y0
                have HPK := Lib.hid hpk
                have HBY := Lib.hid hby'
                have HJ := Lib.hid hj
                clear hpk hpk' hby hby' z0 z1 e1 e2 e3 hul
                have hj0 : (0 : Int) ≤ (j : Int) := by omega
                have hk0 : (0 : Int) ≤ (k : Int) := by omega
                have hlt2 : decide ((k : Int) < ((d.pend.length : Nat) : Int)) = true := by simpa using hlt
                have hlt3 : decide ((k : Int) < (d.pend.length : Int)) = true := by simpa using hltp
                have hjl2 : decide ((j : Int) < (d.secs.length : Int)) = true := by simpa using hjl
                go_upto_region 11 with fail
                refine wp_region_tail 15 (by kernel_rfl) (by kernel_rfl) ?_
                simp only [List.take_succ_cons, List.take_zero, List.drop_succ_cons, List.drop_zero]
                repeat still_step
                refine wpStill_nil ?_
                go_wp2_with fail
                go_roundw
                case rel =>
                  refine ⟨k + 1, us.set j v, by omega, by go_num, ?_, ?_, ?_, ?_⟩
                  · exact (HXR.out.far (grownBy_setCell' wr ⟨gr, j, none⟩ (.slice v.a v.n v.c)) (by simp only [ne_eq, Option.some.injEq]; omega)).drew
                  · exact HOU.out.set1 v
                  · rw [perform_snoc HPK.out, HJ.out, Int.toNat_natCast]; exact HUS.out.set j HBY.out
                  · exact (HBR.out.setCell (show w1.heap.size ≤ (⟨gr, j, none⟩ : Addr).block from hgr) _).drew
                case measure => simp [intOf]; omega
              · have hkm : d.pend.length = k := by omega
                subst hkm
                have hlt2 : decide (((d.pend.length : Nat) : Int) < ((d.pend.length : Nat) : Int)) = false := by simp
                have hus := HUS.out
                rw [List.take_length] at hus
                have HU2 := Lib.hid hus
                have hzz := HR2.out.z
                clear hus
                go_wp2_with fail
                have hr8 := (HRR.out.far (grownBy_setCell' wr ⟨gb, 2, none⟩ (.int .i64 (lf - (d.pend.length : Int)))) (by simp only [ne_eq, Option.some.injEq]; omega)).put (.slice (some ⟨gr, 0, none⟩) d.secs.length c5) (.slice none 0 0) (.int .i64 (lf - (d.pend.length : Int))) (.bool false)
                have ho8 := (Owns.base (HOU.out.kept (grownBy_setCell' wr ⟨gb, 2, none⟩ (.int .i64 (lf - (d.pend.length : Int)))) (fun g hg e => by simp [Value.ownBlock] at hg; injection e with e; simp only at e; omega)) (b' := w.heap.size + 2) (by omega)).put4 (b := w.heap.size + 1) (by omega) (.slice (some ⟨gr, 0, none⟩) d.secs.length c5) (.slice none 0 0) (.int .i64 (lf - (d.pend.length : Int))) (.bool false)
                have hg8 := put4_below (b := w.heap.size + 1) (HGR.out.setCell (show w.heap.size ≤ (⟨gb, 2, none⟩ : Addr).block by show w.heap.size ≤ gb; omega) (.int .i64 (lf - (d.pend.length : Int)))) (by omega) (.slice (some ⟨gr, 0, none⟩) d.secs.length c5) (.slice none 0 0) (.int .i64 (lf - (d.pend.length : Int))) (.bool false)
                have hd8 : Di (put4 (wr.setCell ⟨gb, 2, none⟩ (.int .i64 (lf - (d.pend.length : Int)))) (w.heap.size + 1) (.slice (some ⟨gr, 0, none⟩) d.secs.length c5) (.slice none 0 0) (.int .i64 (lf - (d.pend.length : Int))) (.bool false)) (Nw P w) ⟨some ⟨gr, 0, none⟩, d.secs.length, c5⟩ ⟨none, 0, 0⟩ ⟨performD d.secs d.pend, [], (lf - (d.pend.length : Int)), false⟩ :=
                  ⟨Se.of_row (by rw [perform_len]) ho8 ((HU2.out.step hg8).mono (fun b hb => .inl hb.1)) (fun b hb => .inr (by omega)), Pe.nil_ _ _⟩
                obtain ⟨p0, p1, p2, p3, _⟩ := hr8
                unfold put4 at p0 p1 p2 p3
                exact bodyPost_ret (v := .tuple #[.agg #[.slice (some ⟨gr, 0, none⟩) d.secs.length c5, .slice none 0 0, .int .i64 (lf - (d.pend.length : Int)), .bool false], .int .i64 0]) (by simp [results, Try.results48, go_sem, p0, p1, p2, p3]) rfl ⟨⟨⟨some ⟨gr, 0, none⟩, d.secs.length, c5⟩, ⟨none, 0, 0⟩, rfl, hd8⟩, hg8⟩
end Go.Proofs.Ytgbkhmoplocmkaa
