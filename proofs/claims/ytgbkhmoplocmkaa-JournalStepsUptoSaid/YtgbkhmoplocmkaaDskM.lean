/- Sync. -/
import Derived.Test.YtgbkhmoplocmkaaDskL
import Derived.Deep.RegionHeld3
namespace Go.Proofs.Ytgbkhmoplocmkaa
open Go.RowKit Go.Shelf
set_option linter.unusedSimpArgs false
set_option linter.unusedVariables false
set_option maxRecDepth 20000

theorem runs_facts {d : Dk} (h : runsD d = true) : (∀ p ∈ d.pend, 0 ≤ p.1 ∧ p.1 < (d.secs.length : Int) ∧ p.2.length = 128) ∧ (∀ b ∈ d.secs, b.length = 128) ∧ 1 ≤ d.secs.length ∧ d.secs.length ≤ 4096 ∧ d.pend.length ≤ 4096 ∧ -1 ≤ d.left ∧ d.left ≤ 65536 ∧ d.stopped = false := by
  simp only [runsD, validD, sizesOk, Bool.and_eq_true, decide_eq_true_eq, Bool.not_eq_true', List.any_eq_false] at h
  obtain ⟨⟨⟨h1, h2, h3, h4, h5⟩, h6, h7⟩, h8⟩ := h
  refine ⟨fun p hp => ?_, fun b hb => ?_, h1, h2, h3, h4, h5, h8⟩
  · have := h6 p hp
    simp [badW, isSec] at this
    omega
  · have := h7 b hb
    simpa [isSec] using this
theorem perform_all {ss : List (List Int)} {l : List (Int × List Int)} (h1 : ∀ b ∈ ss, b.length = 128) (h2 : ∀ p ∈ l, p.2.length = 128) : ∀ b ∈ performD ss l, b.length = 128 := by
  unfold performD
  induction l generalizing ss with
  | nil => exact h1
  | cons p l ih =>
    simp only [List.foldl_cons]
    refine ih (fun b hb => ?_) (fun q hq => h2 q (List.mem_cons_of_mem _ hq))
    rcases List.mem_or_eq_of_mem_set hb with h | h
    · exact h1 b h
    · rw [h]; exact h2 p (List.mem_cons_self ..)
theorem syncD_no {d : Dk} (h : runsD d = false) : syncD d = (Dk.zero, 450) := by simp [syncD, h]
def leftD (lf : Int) (n : Nat) : Int := if 0 ≤ lf then lf - (n : Int) else lf
theorem leftD_neg {lf : Int} {n : Nat} (h : decide (0 ≤ lf) = false) : leftD lf n = lf := if_neg (by simpa using h)
theorem leftD_pos {lf : Int} {n : Nat} (h : decide (0 ≤ lf) = true) : leftD lf n = lf - (n : Int) := if_pos (by simpa using h)
theorem syncD_go {d : Dk} (h : runsD d = true) (h2 : ¬ (0 ≤ d.left ∧ d.left < (d.pend.length : Int))) : syncD d = (⟨performD d.secs d.pend, [], leftD d.left d.pend.length, false⟩, 0) := by
  unfold syncD
  rw [if_pos h, if_neg h2]
  rfl
/-- a sector torn in the middle -/
def tornS (a b : List Int) : List Int := a.take 64 ++ b.drop 64
theorem syncD_stop {d : Dk} {m : Nat} {p : Int × List Int} {S : List Int} (h : runsD d = true) (h1 : d.left = (m : Int)) (h2 : d.pend[m]? = some p) (h3 : (performD d.secs (d.pend.take m))[p.1.toNat]? = some S) :
    syncD d = (⟨(performD d.secs (d.pend.take m)).set p.1.toNat (tornS p.2 S), [], 0, true⟩, 450) := by
  have hl := (List.getElem?_eq_some_iff.1 h2).1
  unfold syncD
  rw [if_pos h, if_pos (by omega), h1, Int.toNat_natCast, List.getD_eq_getElem?_getD, h2, List.getD_eq_getElem?_getD, Option.getD_some, h3]
  rfl
theorem Below.of_drew {B : Nat} {w w' : World} (h : Below B w.drew w') : Below B w w' := ⟨h.os, h.tape, h.output, h.size, h.block⟩
theorem Owns.put4 {α : Type} {w : World} {base : Nat} {e : TypeId} {sz : Nat} {en : α → List Value} {v : Value} {ys : List α} (h : Owns w base e sz en v ys) {b : Nat} (hb : b < base) (v0 v1 v2 v3 : Value) : Owns (put4 w b v0 v1 v2 v3) base e sz en v ys :=
  h.kept (put4_keep v0 v1 v2 v3) (fun g hg e => by have := h.base_le g hg; cases e; omega)
theorem Se.of_row {w : World} {Q : Nat → Prop} {A : Option Addr} {c base : Nat} {t : TypeId} {vs : List Sl} {ss : List (List Int)} {n : Nat} (hn : n = ss.length) (h : Owns w base t 1 slE (.slice A n c) vs) (hs : HS w Q vs ss) (hb : ∀ b, base ≤ b → Q b) : Se w Q ⟨A, n, c⟩ ss := by
  have h1 := (SlR.of_owns slE_len h).mono hb
  exact ⟨vs, h1, hs.1, hs.2⟩
theorem by_row {w : World} {P : Nat → Prop} {g c : Nat} {cur : List Value} {bs : List Int} {t : TypeId} (hg : w.heap[g]? = some (.cells cur.toArray t (0, 0))) (hc : cur.take bs.length = bs.map (Value.int .u8)) (hP : P g) (hl : bs.length ≤ c) (hm : c ≤ maxLen) (hb : ∀ b ∈ bs, 0 ≤ b ∧ b < 256) : By w P ⟨some ⟨g, 0, none⟩, bs.length, c⟩ bs := by
  refine ⟨⟨rfl, hl, hm, (fun h => by cases h), fun hn => ⟨g, 0, rfl, (Array.getElem?_eq_some_iff.1 hg).1, fun i x j v hi hj => ?_⟩, fun _ a e => by cases e; exact hP⟩, hb⟩
  cases j with
  | zero =>
    simp [byteE] at hj
    subst hj
    have hil := (List.getElem?_eq_some_iff.1 hi).1
    have h1 : (cur.take bs.length)[i]? = some (Value.int .u8 x) := by rw [hc]; simp [hi]
    rw [List.getElem?_take, if_pos hil] at h1
    simp [World.cell?, hg, h1]
  | succ j => simp [byteE] at hj
theorem Pe.take {w : World} {P : Nat → Prop} {D : Option Addr} {n c m : Nat} {ps : List (Int × List Int)} (h : Pe w P ⟨D, n, c⟩ ps) (hm : m ≤ ps.length) : Pe w P ⟨D, m, m⟩ (ps.take m) := by
  obtain ⟨vs, h1, h2, h3⟩ := h
  have hn := h1.1
  have hlc := h1.2.1
  have hcm := h1.2.2.1
  simp only at hn hlc hcm
  refine ⟨vs.take m, ⟨by simp; omega, Nat.le_refl _, (show m ≤ maxLen by omega), fun e => ?_, ?_, fun hp a e => h1.2.2.2.2.2 (by simp at hp; omega) a e⟩, by simp [h2], fun i v p hv hp => h3 i v p (by rw [List.getElem?_take] at hv; split at hv <;> simp_all) (by rw [List.getElem?_take] at hp; split at hp <;> simp_all)⟩
  · have := h1.2.2.2.1 e
    show m = 0
    have hx : c = 0 := this
    omega
  · exact h1.2.2.2.2.1.take
theorem Owns.base {α : Type} {w : World} {b b' sz : Nat} {e : TypeId} {en : α → List Value} {v : Value} {ys : List α} (h : Owns w b e sz en v ys) (hb : b' ≤ b) : Owns w b' e sz en v ys := by
  refine ⟨h.1, ?_⟩
  rcases h.2 with h1 | ⟨g, cap, cur, h1, h2, h3, h4⟩
  · exact .inl h1
  · exact .inr ⟨g, cap, cur, h1, Nat.le_trans hb h2, h3, h4⟩
theorem HS.via {w W1 W2 : World} {B : Nat} {Q : Nat → Prop} {us : List Sl} {ss : List (List Int)} (h : HS W1 Q us ss) (hq : ∀ b, Q b → b < B) (h1 : Below B w W1) (h2 : Below B w W2) (hs : W1.heap.size ≤ W2.heap.size) : HS W2 Q us ss :=
  ⟨h.1, fun i v bs a b => (h.2 i v bs a b).keep ⟨hs, fun k hk _ => (h2.block k (hq k hk)).trans (h1.block k (hq k hk)).symm⟩⟩
theorem put4_far {W : World} {b b' o : Nat} (h : b' ≠ b) (v0 v1 v2 v3 : Value) : ((((W.setCell ⟨b, 0, none⟩ v0).setCell ⟨b, 1, none⟩ v1).setCell ⟨b, 2, none⟩ v2).setCell ⟨b, 3, none⟩ v3).cell? ⟨b', o, none⟩ = W.cell? ⟨b', o, none⟩ := by
  rw [set_far _ _ _ _ (addr_ne (by omega)), set_far _ _ _ _ (addr_ne (by omega)), set_far _ _ _ _ (addr_ne (by omega)), set_far _ _ _ _ (addr_ne (by omega))]

set_option maxRecDepth 100000 in
set_option maxHeartbeats 8000000 in
theorem Sync_any {P : Nat → Prop} (d : Dk) (sv pv : Sl) (w : World) (h : Di w P sv pv d) :
    Calls Try.prog 27 #[dkV sv pv d] w fun e w' => (∃ sv' pv', e = .returned (.tuple #[dkV sv' pv' (syncD d).1, .int .i64 (syncD d).2]) ∧ Di w' (Nw P w) sv' pv' (syncD d).1) ∧ Below w.heap.size w w' := by
  have hs := h.1.len
  have hp := h.2.len
  have HD := Lib.hid h
  clear h
  have RC := Lib.hid (fun W (hW : Below w.heap.size w W) => runs_any d sv pv W (HD.out.step hW))
  obtain ⟨A, n, c⟩ := sv
  obtain ⟨D, m, c2⟩ := pv
  simp only at hs hp
  subst hs hp
  unfold dkV at RC ⊢
  simp only at RC ⊢
  obtain ⟨st, hst⟩ : ∃ st, st = d.stopped := ⟨_, rfl⟩
  obtain ⟨lf, hlf⟩ : ∃ lf, lf = d.left := ⟨_, rfl⟩
  rw [← hst, ← hlf] at RC
  rw [← hst, ← hlf]
  have HST := Lib.hid hst
  have HLF := Lib.hid hlf
  clear hst hlf
  obtain ⟨W0, hW0⟩ : ∃ W0, ((w.alloc (.cells #[.slice A d.secs.length c, .slice D d.pend.length c2, .int .i64 lf, .bool st] 25)).alloc (.cells #[.slice none 0 0, .slice none 0 0, .int .i64 0, .bool false] 25)) = W0 := ⟨_, rfl⟩
  have hB1 : Box4 W0 w.heap.size (.slice A d.secs.length c) (.slice D d.pend.length c2) (.int .i64 lf) (.bool st) := by rw [← hW0]; exact (Box4.new ..).step ((Below.refl _ _).alloc (Nat.le_refl _) _)
  have hB2 : Box4 W0 (w.heap.size + 1) (.slice none 0 0) (.slice none 0 0) (.int .i64 0) (.bool false) := by rw [← hW0]; exact Box4.at_ _ _ _ _ _ _ _ (by simp)
  have hG0 : Below w.heap.size w W0 := by rw [← hW0]; exact ((Below.refl _ _).alloc (Nat.le_refl _) _).alloc (by simp) _
  have HB1 := Lib.hid hB1
  have HB2 := Lib.hid hB2
  have HG := Lib.hid hG0
  have HW0 := Lib.hid hW0
  clear hB1 hB2 hG0 hW0
  cases hr : runsD d
  · rw [syncD_no hr]
    have HR := Lib.hid hr
    clear hr
    go_enter Try.func27, Try.ntmps27
    go_wp2_with fail
    rw [HW0.out]
    refine (RC.out _ HG.out).mono ?_
    rw [HR.out]
    rintro e w1 ⟨rfl, hb1⟩
    have HR2 := Lib.hid (HB2.out.step hb1)
    have HD2 := Lib.hid (HB1.out.step hb1)
    have HG1 := Lib.hid (HG.out.trans (hb1.mono HG.out.size))
    obtain ⟨r0, r1, r2, r3, f0, f1, f2, f3, rz⟩ := HR2.out
    obtain ⟨q0, q1, q2, q3, g0, g1, g2, g3, qz⟩ := HD2.out
    clear hb1
    go_wp2_with fail
    obtain ⟨p0, p1, p2, p3, _⟩ := HR2.out.put (.slice none 0 0) (.slice none 0 0) (.int .i64 0) (.bool false)
    unfold put4 at p0 p1 p2 p3
    exact bodyPost_ret (v := .tuple #[dkV ⟨none, 0, 0⟩ ⟨none, 0, 0⟩ Dk.zero, .int .i64 450]) (by simp [results, Try.results27, go_sem, p0, p1, p2, p3, dkV, Dk.zero]) rfl ⟨⟨⟨none, 0, 0⟩, ⟨none, 0, 0⟩, rfl, Di.zero _ _⟩, put4_below (b := w.heap.size + 1) HG1.out (by omega) _ _ _ _⟩
  · have HR := Lib.hid hr
    obtain ⟨v1, v2, v3, v4, v5, v6, v7, v8⟩ := runs_facts hr
    rw [← HLF.out] at v6 v7
    have HV1 := Lib.hid v1
    have HV2 := Lib.hid v2
    clear v1 v2 v8
    by_cases hstop : 0 ≤ lf ∧ lf < (d.pend.length : Int)
    · obtain ⟨m, hm⟩ : ∃ m : Nat, lf = (m : Int) := ⟨lf.toNat, by omega⟩
      have hml : m < d.pend.length := by omega
      obtain ⟨p, hpm⟩ : ∃ p, d.pend[m]? = some p := ⟨_, List.getElem?_eq_getElem hml⟩
      obtain ⟨hp1, hp2, hp3⟩ := HV1.out p (List.mem_of_getElem? hpm)
      obtain ⟨j, hj⟩ : ∃ j : Nat, p.1 = (j : Int) := ⟨p.1.toNat, by omega⟩
      have hjl : j < d.secs.length := by omega
      obtain ⟨S, hS⟩ : ∃ S, (performD d.secs (d.pend.take m))[j]? = some S := ⟨_, List.getElem?_eq_getElem (by rw [perform_len]; exact hjl)⟩
      have hSl : S.length = 128 := perform_all HV2.out (fun p hp => (HV1.out p (List.mem_of_mem_take hp)).2.2) S (List.mem_of_getElem? hS)
      rw [syncD_stop hr (by rw [← HLF.out]; exact hm) hpm (by rw [hj, Int.toNat_natCast]; exact hS), hj, Int.toNat_natCast]
      subst hm
      have d1 : decide (0 ≤ (m : Int)) = true := by simp
      have d2 : decide ((m : Int) < (d.pend.length : Int)) = true := by simpa using hml
      have HPM := Lib.hid hpm
      have HJ := Lib.hid hj
      have HSC := Lib.hid hS
      have HSL := Lib.hid hSl
      have HP3 := Lib.hid hp3
      have HDP := Lib.hid (HD.out.mono2 (Q := fun b => P b ∧ b < w.heap.size) (fun b hb hl => ⟨hb, hl⟩))
      have PF := Lib.hid (fun W (hW : Below w.heap.size w W) => perform_any (P := fun b => P b ∧ b < w.heap.size) d.secs (d.pend.take m) ⟨A, d.secs.length, c⟩ ⟨D, m, m⟩ W (HDP.out.step hW).1 ((HDP.out.step hW).2.take (by omega)) (by omega) (fun p hp => ⟨(HV1.out p (List.mem_of_mem_take hp)).1, (HV1.out p (List.mem_of_mem_take hp)).2.1⟩))
      have hm0 : (0 : Int) ≤ (m : Int) := by omega
      have hcp : d.pend.length ≤ c2 := by obtain ⟨us, hu, _⟩ := HD.out.2; exact hu.2.1
      obtain ⟨iw, hiw, _⟩ := info_parts Try.infoWr
      have hsl := fun W => run_slice_three (P := Try.prog) Try.underlying23 hiw D d.pend.length c2 .i64 .i64 (m : Int) (m : Int) (by omega) (by omega) (by omega) W
      simp only [Int.toNat_natCast] at hsl
      clear hr hstop hpm hj hS hSl hp1 hp2 hp3 v6 v7 hiw
      go_enter Try.func27, Try.ntmps27
      go_wp2_with fail
      rw [HW0.out]
      refine (RC.out _ HG.out).mono ?_
      rw [HR.out]
      rintro e w1 ⟨rfl, hb1⟩
      have HR2 := Lib.hid (HB2.out.step hb1)
      have HD2 := Lib.hid (HB1.out.step hb1)
      have HG1 := Lib.hid (HG.out.trans (hb1.mono HG.out.size))
      obtain ⟨r0, r1, r2, r3, f0, f1, f2, f3, rz⟩ := HR2.out
      obtain ⟨q0, q1, q2, q3, g0, g1, g2, g3, qz⟩ := HD2.out
      clear hb1
      go_wp2_with fail
      refine (PF.out _ HG1.out).mono ?_
      rintro e w4 ⟨⟨A4, c4, us, rfl, ho4, hs4⟩, hb4⟩
      have HG4 := Lib.hid (HG1.out.trans (hb4.mono HG1.out.size))
      have HR4 := Lib.hid (HR2.out.step hb4)
      have HD4 := Lib.hid (HD2.out.step hb4)
      have hz1 := HR2.out.z
      have HO4 := Lib.hid (ho4.base (b' := w.heap.size + 2) (by omega))
      have HS4 := Lib.hid (hs4.via (w := w) (B := w.heap.size) (fun b hb => hb.2) HG1.out HG4.out hb4.size)
      clear ho4 hb4 hs4 r0 r1 r2 r3 f0 f1 f2 f3 rz q0 q1 q2 q3 g0 g1 g2 g3 qz
      obtain ⟨r0, r1, r2, r3, f0, f1, f2, f3, rz⟩ := HR4.out
      obtain ⟨q0, q1, q2, q3, g0, g1, g2, g3, qz⟩ := HD4.out
      go_upto_region 7 with fail
      have HR5 := Lib.hid (HR4.out.put (.slice A4 d.secs.length c4) (.slice none 0 0) (.int .i64 0) (.bool true))
      have HD5 := Lib.hid (HD4.out.far (put4_keep (W := w4) (b := w.heap.size + 1) (.slice A4 d.secs.length c4) (.slice none 0 0) (.int .i64 0) (.bool true)) (by simp))
      have HO5 := Lib.hid (HO4.out.put4 (b := w.heap.size + 1) (by omega) (.slice A4 d.secs.length c4) (.slice none 0 0) (.int .i64 0) (.bool true))
      have HG5 := Lib.hid (put4_below (b := w.heap.size + 1) HG4.out (by omega) (.slice A4 d.secs.length c4) (.slice none 0 0) (.int .i64 0) (.bool true))
      have HS5 := Lib.hid (HS4.out.via (fun b hb => hb.2) HG4.out HG5.out (put4_keep _ _ _ _).size)
      unfold put4 at HR5 HD5 HO5 HG5 HS5
      generalize ((((w4.setCell ⟨w.heap.size + 1, 0, none⟩ (.slice A4 d.secs.length c4)).setCell ⟨w.heap.size + 1, 1, none⟩ (.slice none 0 0)).setCell ⟨w.heap.size + 1, 2, none⟩ (.int .i64 0)).setCell ⟨w.heap.size + 1, 3, none⟩ (.bool true)) = W5 at HR5 HD5 HO5 HG5 HS5 ⊢
      clear r0 r1 r2 r3 f0 f1 f2 f3 rz q0 q1 q2 q3 g0 g1 g2 g3 qz
      obtain ⟨r0, r1, r2, r3, f0, f1, f2, f3, rz⟩ := HR5.out
      obtain ⟨q0, q1, q2, q3, g0, g1, g2, g3, qz⟩ := HD5.out
      obtain ⟨bb, off, v, p', ha, hbl, hpk, hby, y0, y1⟩ := (HDP.out.step HG5.out).2.at_ hml
      simp only at ha
      subst ha
      obtain rfl : p = p' := Option.some.inj (HPM.out.symm.trans hpk)
      rw [HJ.out] at y0
      have HBY := Lib.hid hby
      have hul : us.length = d.secs.length := by rw [HS5.out.1, perform_len]
      obtain ⟨g, y, rfl, hgb, hgl, hyu, c0, cf0⟩ := HO5.out.cell1 (i := j) (by omega)
      have HYB := Lib.hid (HS5.out.2 j y S hyu HSC.out)
      have hyn : y.n = 128 := by rw [HYB.out.1.1]; exact HSL.out
      have hvn : v.n = 128 := by rw [HBY.out.1.1]; exact HP3.out
      have hj0 : (0 : Int) ≤ (j : Int) := by omega
      obtain ⟨Ya, yn, yc⟩ := y
      obtain ⟨Va, vn, vc⟩ := v
      simp only at hyn hvn c0 y1
      subst hyn hvn
      clear hpk hby hul hyu
      go_wp2_with fail
      refine (cloneB_any S ⟨Ya, 128, yc⟩ _ (HYB.out.1.step ((Below.refl _ _).alloc (Nat.le_refl _) _)) (by rw [HSL.out]; omega)).mono ?_
      rintro e w6 ⟨⟨A6, n6, c6, rfl, ho6⟩, hb6⟩
      have hSb : ∀ b ∈ S, 0 ≤ b ∧ b < 256 := HYB.out.2
      have hPb : ∀ b ∈ p.2, 0 ≤ b ∧ b < 256 := HBY.out.2
      obtain ⟨vb, voff, rfl, hvbl, hvc⟩ := HBY.out.1.reads (by rw [HP3.out]; omega)
      rcases ho6.2 with ⟨_, hl0⟩ | ⟨g6, cap6, cur, hv6, hg6b, hg6, hn6, hcm6, hcs6, hct6⟩
      · exfalso; rw [HSL.out] at hl0; omega
      simp only [Value.slice.injEq] at hv6
      obtain ⟨rfl, rfl, rfl⟩ := hv6
      rw [HSL.out] at hn6 hct6 ⊢
      simp only [World.size_alloc] at hg6b
      have hb6b : Below (W5.heap.size + 1) (W5.alloc (.cells #[.int .i64 j, .slice (some ⟨vb, voff, none⟩) 128 vc] 76)) w6 := hb6.mono (by simp)
      have hb6c : Below W5.heap.size W5 w6 := ((Below.refl _ _).alloc (Nat.le_refl _) _).trans (hb6b.mono (by omega))
      obtain ⟨bc, bf, bz⟩ := below_at W5.heap.size rfl hb6b (by omega)
      have b0 := bc 0
      have b1 := bc 1
      simp at b0 b1
      have HG6 := Lib.hid (HG5.out.trans (hb6c.mono HG5.out.size))
      have HR6 := Lib.hid (HR5.out.step hb6c)
      have HO6 := Lib.hid (HO5.out.below hb6c (Nat.le_refl _))
      have HS6 := Lib.hid (HS5.out.via (fun b hb => hb.2) HG5.out HG6.out hb6c.size)
      have c06 := (hb6c.cell (p := ⟨g, j, none⟩) hgl).trans c0
      have cf6 := (hb6c.frozen (p := ⟨g, j, none⟩) hgl).trans cf0
      have HCPY : Hid (∀ i u, ((p.2.take 64).map (Value.int .u8))[i]? = some u → w6.cell? ((⟨vb, voff, none⟩ : Addr).add i) = some u) := Lib.hid (by
        intro i u hi
        rw [List.getElem?_map, Option.map_eq_some_iff] at hi
        obtain ⟨b, hib, rfl⟩ := hi
        rw [List.getElem?_take] at hib
        split at hib
        · have := hvc i b 0 _ hib rfl
          simp only [Nat.mul_one, Nat.add_zero] at this
          rw [Go.WideShapes.add_plain]
          exact (hb6c.cell (p := ⟨vb, voff + i, none⟩) hvbl).trans this
        · cases hib)
      have HG6B := Lib.hid hg6
      have HCT := Lib.hid hct6
      have HSB := Lib.hid hSb
      have HPB := Lib.hid hPb
      have HZB : Hid ((Try.prog.info? 5).map (·.size) = some 1) := Lib.hid (by kernel_rfl)
      obtain ⟨iu, hiu, _⟩ := infoByte_parts
      have hc6i : (64 : Int) ≤ (c6 : Int) := by omega
      have hsl2 := fun W => run_slice_to (P := Try.prog) Try.underlying35 hiu (some ⟨g6, 0, none⟩) 128 c6 .i64 64 (by omega) hc6i W
      simp only [show (64 : Int).toNat = 64 from rfl] at hsl2
      have hcl : ((p.2.take 64).map (Value.int .u8)).length = 64 := by rw [List.length_map, List.length_take, HP3.out]; rfl
      have HCL := Lib.hid hcl
      have hg6l : g6 < w6.heap.size := (Array.getElem?_eq_some_iff.1 hg6).1
      have hcur : 64 ≤ cur.size := by omega
      have hbW := Lib.hid hb6c
      have hc0W := Lib.hid (And.intro c0 cf0)
      clear hb6 hb6b hb6c bc bf ho6 hvc hvbl hiu hcl hSb hPb hg6 hct6 r0 r1 r2 r3 f0 f1 f2 f3 rz q0 q1 q2 q3 g0 g1 g2 g3 qz y0 y1 c0 cf0 hsl
      obtain ⟨r0, r1, r2, r3, f0, f1, f2, f3, rz⟩ := HR6.out
      go_upto_region 9 with fail
      have b1d : w6.drew.cell? ⟨W5.heap.size, 1, none⟩ = some (.slice (some ⟨vb, voff, none⟩) 128 vc) := b1
      go_region_held_law (fun w' => w'.cell? ⟨W5.heap.size, 1, none⟩ = some (.slice (some ⟨vb, voff, none⟩) 128 vc)) (first | with_reducible exact b1 | with_reducible exact b1d | exact (hb7.cell (p := ⟨W5.heap.size, 1, none⟩) (show W5.heap.size < g6 by omega)).trans b1) ((refine step_copy_splice (by rfl) (.tmp 50) (.tmp 52) _ _ (by rfl) 5 Try.underlying35 HZB.out (some ⟨g6, 0, none⟩) (some ⟨vb, voff, none⟩) 64 c6 128 vc (by rfl) (by rfl) g6 0 cur.toList 5 HG6B.out ((p.2.take 64).map (Value.int .u8)) HCL.out (fun _ => ⟨rfl, _, rfl, fun j u hj => HCPY.out j u hj⟩) (by rw [HCL.out, Array.length_toList]; omega) (fun u hu => by obtain ⟨b, _, rfl⟩ := List.mem_map.1 hu; rfl) g6 w6 (Below.refl g6 w6).drew (Nat.le_refl _) ?_; intro w7 hg7 hb7))
      have hb7c : Below W5.heap.size W5 w7 := by
        have hz : Below w6.heap.size w6 w6 := Below.refl _ _
        exact (hbW.out).trans (hb7.mono (by omega))
      have HG7 := Lib.hid (HG5.out.trans (hb7c.mono HG5.out.size))
      have HR7 := Lib.hid (HR5.out.step hb7c)
      have HO7 := Lib.hid (HO5.out.below hb7c (Nat.le_refl _))
      have HS7 := Lib.hid (HS5.out.via (fun b hb => hb.2) HG5.out HG7.out hb7c.size)
      have c07 := (hb7c.cell (p := ⟨g, j, none⟩) hgl).trans hc0W.out.1
      have cf7 := (hb7c.frozen (p := ⟨g, j, none⟩) hgl).trans hc0W.out.2
      have b07 := (hb7.cell (p := ⟨W5.heap.size, 0, none⟩) (show W5.heap.size < g6 by omega)).trans b0
      have HB7 : Hid (By w7 (fun b => W5.heap.size + 1 ≤ b) ⟨some ⟨g6, 0, none⟩, 128, c6⟩ (tornS p.2 S)) := Lib.hid (by
        have hl : (tornS p.2 S).length = 128 := by simp [tornS, HP3.out, HSL.out]
        have h0 := by_row (P := fun b => W5.heap.size + 1 ≤ b) (c := c6) (bs := tornS p.2 S) hg7.out ?_ (by omega) (by rw [hl]; omega) hcm6 ?_
        · rw [hl] at h0; exact h0
        · have hct := HCT.out
          rw [flat_byte, Nat.mul_one] at hct
          have h2 : (cur.toList.drop 64).take 64 = (S.drop 64).map (Value.int .u8) := by
            rw [List.map_drop, ← hct, List.drop_take]
          unfold splice tornS
          rw [HCL.out, List.take_zero, List.nil_append, List.length_append, List.length_take, HP3.out, List.length_drop, HSL.out, List.map_append, ← h2, List.take_append, HCL.out]
          simp
          rw [List.take_of_length_le (by simp [HP3.out])]
        · intro b hb
          rcases List.mem_append.1 hb with h | h
          · exact HPB.out b (List.mem_of_mem_take h)
          · exact HSB.out b (List.mem_of_mem_drop h))
      clear hb7 hb7c hg7 r0 r1 r2 r3 f0 f1 f2 f3 rz b0 b1 b1d hsl2
      obtain ⟨r0, r1, r2, r3, f0, f1, f2, f3, rz⟩ := HR7.out
      have hgl7 : g < w7.heap.size := by have := HG7.out.size; have := (HO7.out.lt g rfl); omega
      go_simp
      go_wp2_with fail
      have hkp0 : Kp (fun b => (P b ∧ b < w.heap.size) ∨ W5.heap.size + 1 ≤ b) w7 (put4 (w7.setCell ⟨g, j, none⟩ (.slice (some ⟨g6, 0, none⟩) 128 c6)) (w.heap.size + 1) (.slice (some ⟨g, 0, none⟩) d.secs.length c4) (.slice none 0 0) (.int .i64 0) (.bool true)) :=
        (Kp.of_grown (grownBy_setCell' w7 ⟨g, j, none⟩ (.slice (some ⟨g6, 0, none⟩) 128 c6)) (by show ¬ ((P g ∧ g < w.heap.size) ∨ W5.heap.size + 1 ≤ g); have := HG5.out.size; omega)).trans (Kp.of_grown (put4_keep _ _ _ _) (by have := HG5.out.size; have := HR5.out.z; omega))
      have hs9 : HS w7 (fun b => (P b ∧ b < w.heap.size) ∨ W5.heap.size + 1 ≤ b) (us.set j ⟨some ⟨g6, 0, none⟩, 128, c6⟩) ((performD d.secs (d.pend.take m)).set j (tornS p.2 S)) := (HS7.out.mono (fun b hb => .inl hb)).set j (HB7.out.mono (fun b hb => .inr hb))
      have hs10 : HS _ (Nw P w) (us.set j ⟨some ⟨g6, 0, none⟩, 128, c6⟩) ((performD d.secs (d.pend.take m)).set j (tornS p.2 S)) := HS.mono ⟨hs9.1, fun i v bs a b => (hs9.2 i v bs a b).keep hkp0⟩ (fun b hb => hb.elim (fun h => .inl h.1) (fun h => .inr (by have := HG5.out.size; omega)))
      have ho9 := (HO7.out.set1 (i := j) ⟨some ⟨g6, 0, none⟩, 128, c6⟩).put4 (b := w.heap.size + 1) (by omega) (.slice (some ⟨g, 0, none⟩) d.secs.length c4) (.slice none 0 0) (.int .i64 0) (.bool true)
      have hr9 := (HR7.out.far (grownBy_setCell' w7 ⟨g, j, none⟩ (.slice (some ⟨g6, 0, none⟩) 128 c6)) (by simp only [ne_eq, Option.some.injEq]; omega)).put (.slice (some ⟨g, 0, none⟩) d.secs.length c4) (.slice none 0 0) (.int .i64 0) (.bool true)
      have hg9 := put4_below (b := w.heap.size + 1) (HG7.out.setCell (show w.heap.size ≤ (⟨g, j, none⟩ : Addr).block by show w.heap.size ≤ g; omega) (.slice (some ⟨g6, 0, none⟩) 128 c6)) (by omega) (.slice (some ⟨g, 0, none⟩) d.secs.length c4) (.slice none 0 0) (.int .i64 0) (.bool true)
      have hd9 : Di (put4 (w7.setCell ⟨g, j, none⟩ (.slice (some ⟨g6, 0, none⟩) 128 c6)) (w.heap.size + 1) (.slice (some ⟨g, 0, none⟩) d.secs.length c4) (.slice none 0 0) (.int .i64 0) (.bool true)) (Nw P w) ⟨some ⟨g, 0, none⟩, d.secs.length, c4⟩ ⟨none, 0, 0⟩ ⟨(performD d.secs (d.pend.take m)).set j (tornS p.2 S), [], 0, true⟩ :=
        ⟨Se.of_row (by rw [List.length_set, perform_len]) ho9 hs10 (fun b hb => .inr (by omega)), Pe.nil_ _ _⟩
      obtain ⟨p0, p1, p2, p3, _⟩ := hr9
      unfold put4 at p0 p1 p2 p3
      exact bodyPost_ret (v := .tuple #[.agg #[.slice (some ⟨g, 0, none⟩) d.secs.length c4, .slice none 0 0, .int .i64 0, .bool true], .int .i64 450]) (by simp [results, Try.results27, go_sem, p0, p1, p2, p3]) rfl ⟨⟨⟨some ⟨g, 0, none⟩, d.secs.length, c4⟩, ⟨none, 0, 0⟩, rfl, hd9⟩, hg9⟩
    · rw [syncD_go hr (by rw [← HLF.out]; exact hstop), ← HLF.out]
      have hways : decide (0 ≤ lf) = false ∨ (decide (0 ≤ lf) = true ∧ decide (lf < (d.pend.length : Int)) = false) := by simp; omega
      clear hr hstop
      have HDP := Lib.hid (HD.out.mono2 (Q := fun b => P b ∧ b < w.heap.size) (fun b hb hl => ⟨hb, hl⟩))
      have PF := Lib.hid (fun W (hW : Below w.heap.size w W) => perform_any (P := fun b => P b ∧ b < w.heap.size) d.secs d.pend ⟨A, d.secs.length, c⟩ ⟨D, d.pend.length, c2⟩ W (HDP.out.step hW).1 (HDP.out.step hW).2 (by omega) (fun p hp => ⟨(HV1.out p hp).1, (HV1.out p hp).2.1⟩))
      rcases hways with d1 | ⟨d1, d2⟩
      · rw [leftD_neg d1]
        go_enter Try.func27, Try.ntmps27
        go_wp2_with fail
        rw [HW0.out]
        refine (RC.out _ HG.out).mono ?_
        rw [HR.out]
        rintro e w1 ⟨rfl, hb1⟩
        have HR2 := Lib.hid (HB2.out.step hb1)
        have HD2 := Lib.hid (HB1.out.step hb1)
        have HG1 := Lib.hid (HG.out.trans (hb1.mono HG.out.size))
        obtain ⟨r0, r1, r2, r3, f0, f1, f2, f3, rz⟩ := HR2.out
        obtain ⟨q0, q1, q2, q3, g0, g1, g2, g3, qz⟩ := HD2.out
        clear hb1
        go_upto_region 12 with fail
        have q0d : w1.drew.cell? ⟨w.heap.size, 0, none⟩ = some (.slice A d.secs.length c) := q0
        have q1d : w1.drew.cell? ⟨w.heap.size, 1, none⟩ = some (.slice D d.pend.length c2) := q1
        have q2d : w1.drew.cell? ⟨w.heap.size, 2, none⟩ = some (.int .i64 lf) := q2
        go_region_held3 (fun w' => w'.cell? ⟨w.heap.size, 0, none⟩ = some (.slice A d.secs.length c) ∧ w'.cell? ⟨w.heap.size, 1, none⟩ = some (.slice D d.pend.length c2) ∧ w'.cell? ⟨w.heap.size, 2, none⟩ = some (.int .i64 lf)) (first | with_reducible exact ⟨q0, q1, q2⟩ | with_reducible exact ⟨q0d, q1d, q2d⟩ | with_reducible exact ⟨e0, e1, e2⟩ | with_reducible exact ⟨(put4_far (by omega) _ _ _ _).trans e0, (put4_far (by omega) _ _ _ _).trans e1, (put4_far (by omega) _ _ _ _).trans e2⟩) ((go_at_call 54; refine Calls.mono (PF.out _ (by first | exact HG1.out | exact below_drewN HG1.out 1)) ?_; rintro e w4 ⟨⟨A4, c4, us, rfl, ho4, hs4⟩, hb4⟩; have hb5 : Below w1.heap.size w1 w4 := (by first | exact hb4 | exact Below.of_drew hb4); obtain ⟨e0, e1, e2, e3, _, _, _, _, _⟩ := HD2.out.step hb5; obtain ⟨s0, s1, s2, s3, t0, t1, t2, t3, sz⟩ := HR2.out.step hb5))
        have hb5 : Below w1.heap.size w1 w4 := by first | exact hb4 | exact Below.of_drew hb4
        have HG4 := Lib.hid (HG1.out.trans (hb5.mono HG1.out.size))
        have HR4 := Lib.hid ((HR2.out.step hb5).put (.slice A4 d.secs.length c4) (.slice none 0 0) (.int .i64 lf) (.bool false))
        have ho5 : Owns w4 (w.heap.size + 2) 35 1 slE (.slice A4 d.secs.length c4) us := by
          have hz1 := HR2.out.z
          exact ho4.base (by first | (show w.heap.size + 2 ≤ w1.heap.size; omega) | omega)
        have HO5 := Lib.hid (ho5.put4 (b := w.heap.size + 1) (by omega) (.slice A4 d.secs.length c4) (.slice none 0 0) (.int .i64 lf) (.bool false))
        have HG5 := Lib.hid (put4_below (b := w.heap.size + 1) HG4.out (by omega) (.slice A4 d.secs.length c4) (.slice none 0 0) (.int .i64 lf) (.bool false))
        have HS4 : Hid (HS (put4 w4 (w.heap.size + 1) (.slice A4 d.secs.length c4) (.slice none 0 0) (.int .i64 lf) (.bool false)) (fun b => P b ∧ b < w.heap.size) us (performD d.secs d.pend)) := Lib.hid (hs4.via (fun b hb => hb.2) (by first | exact HG1.out | exact below_drewN HG1.out 1) HG5.out (Nat.le_trans hb5.size (put4_keep _ _ _ _).size))
        unfold put4 at HR4 HO5 HG5 HS4
        generalize ((((w4.setCell ⟨w.heap.size + 1, 0, none⟩ (.slice A4 d.secs.length c4)).setCell ⟨w.heap.size + 1, 1, none⟩ (.slice none 0 0)).setCell ⟨w.heap.size + 1, 2, none⟩ (.int .i64 lf)).setCell ⟨w.heap.size + 1, 3, none⟩ (.bool false)) = W5 at HR4 HO5 HG5 HS4 ⊢
        clear ho4 ho5 hb4 hb5 hs4
        clear r0 r1 r2 r3 f0 f1 f2 f3 rz
        obtain ⟨r0, r1, r2, r3, f0, f1, f2, f3, rz⟩ := HR4.out
        go_wp2_with fail
        have hr8 := HR4.out.put (.slice A4 d.secs.length c4) (.slice none 0 0) (.int .i64 lf) (.bool false)
        have ho8 := HO5.out.put4 (b := w.heap.size + 1) (by omega) (.slice A4 d.secs.length c4) (.slice none 0 0) (.int .i64 lf) (.bool false)
        have hg8 := put4_below (b := w.heap.size + 1) HG5.out (by omega) (.slice A4 d.secs.length c4) (.slice none 0 0) (.int .i64 lf) (.bool false)
        have HZZ : W5.heap.size ≤ (put4 W5 (w.heap.size + 1) (.slice A4 d.secs.length c4) (.slice none 0 0) (.int .i64 lf) (.bool false)).heap.size := by have := (put4_keep (W := W5) (b := w.heap.size + 1) (.slice A4 d.secs.length c4) (.slice none 0 0) (.int .i64 lf) (.bool false)).size; simpa [World.setCell] using this
        have hd8 : Di (put4 W5 (w.heap.size + 1) (.slice A4 d.secs.length c4) (.slice none 0 0) (.int .i64 lf) (.bool false)) (Nw P w) ⟨A4, d.secs.length, c4⟩ ⟨none, 0, 0⟩ ⟨performD d.secs d.pend, [], lf, false⟩ :=
          ⟨Se.of_row (by rw [perform_len]) ho8 ((HS4.out.via (fun b hb => hb.2) HG5.out hg8 HZZ).mono (fun b hb => .inl hb.1)) (fun b hb => .inr (by omega)), Pe.nil_ _ _⟩
        obtain ⟨p0, p1, p2, p3, _⟩ := hr8
        unfold put4 at p0 p1 p2 p3
        exact bodyPost_ret (v := .tuple #[.agg #[.slice A4 d.secs.length c4, .slice none 0 0, .int .i64 lf, .bool false], .int .i64 0]) (by simp [results, Try.results27, go_sem, p0, p1, p2, p3]) rfl ⟨⟨⟨A4, d.secs.length, c4⟩, ⟨none, 0, 0⟩, rfl, hd8⟩, hg8⟩
      · rw [leftD_pos d1]
        go_enter Try.func27, Try.ntmps27
        go_wp2_with fail
        rw [HW0.out]
        refine (RC.out _ HG.out).mono ?_
        rw [HR.out]
        rintro e w1 ⟨rfl, hb1⟩
        have HR2 := Lib.hid (HB2.out.step hb1)
        have HD2 := Lib.hid (HB1.out.step hb1)
        have HG1 := Lib.hid (HG.out.trans (hb1.mono HG.out.size))
        obtain ⟨r0, r1, r2, r3, f0, f1, f2, f3, rz⟩ := HR2.out
        obtain ⟨q0, q1, q2, q3, g0, g1, g2, g3, qz⟩ := HD2.out
        clear hb1
        go_upto_region 12 with fail
        have q0d : w1.drew.cell? ⟨w.heap.size, 0, none⟩ = some (.slice A d.secs.length c) := q0
        have q1d : w1.drew.cell? ⟨w.heap.size, 1, none⟩ = some (.slice D d.pend.length c2) := q1
        have q2d : w1.drew.cell? ⟨w.heap.size, 2, none⟩ = some (.int .i64 lf) := q2
        go_region_held3 (fun w' => w'.cell? ⟨w.heap.size, 0, none⟩ = some (.slice A d.secs.length c) ∧ w'.cell? ⟨w.heap.size, 1, none⟩ = some (.slice D d.pend.length c2) ∧ w'.cell? ⟨w.heap.size, 2, none⟩ = some (.int .i64 lf)) (first | with_reducible exact ⟨q0, q1, q2⟩ | with_reducible exact ⟨q0d, q1d, q2d⟩ | with_reducible exact ⟨e0, e1, e2⟩ | with_reducible exact ⟨(put4_far (by omega) _ _ _ _).trans e0, (put4_far (by omega) _ _ _ _).trans e1, (put4_far (by omega) _ _ _ _).trans e2⟩) ((go_at_call 54; refine Calls.mono (PF.out _ (by first | exact HG1.out | exact below_drewN HG1.out 1)) ?_; rintro e w4 ⟨⟨A4, c4, us, rfl, ho4, hs4⟩, hb4⟩; have hb5 : Below w1.heap.size w1 w4 := (by first | exact hb4 | exact Below.of_drew hb4); obtain ⟨e0, e1, e2, e3, _, _, _, _, _⟩ := HD2.out.step hb5; obtain ⟨s0, s1, s2, s3, t0, t1, t2, t3, sz⟩ := HR2.out.step hb5))
        have hb5 : Below w1.heap.size w1 w4 := by first | exact hb4 | exact Below.of_drew hb4
        have HG4 := Lib.hid (HG1.out.trans (hb5.mono HG1.out.size))
        have HR4 := Lib.hid ((HR2.out.step hb5).put (.slice A4 d.secs.length c4) (.slice none 0 0) (.int .i64 lf) (.bool false))
        have ho5 : Owns w4 (w.heap.size + 2) 35 1 slE (.slice A4 d.secs.length c4) us := by
          have hz1 := HR2.out.z
          exact ho4.base (by first | (show w.heap.size + 2 ≤ w1.heap.size; omega) | omega)
        have HO5 := Lib.hid (ho5.put4 (b := w.heap.size + 1) (by omega) (.slice A4 d.secs.length c4) (.slice none 0 0) (.int .i64 lf) (.bool false))
        have HG5 := Lib.hid (put4_below (b := w.heap.size + 1) HG4.out (by omega) (.slice A4 d.secs.length c4) (.slice none 0 0) (.int .i64 lf) (.bool false))
        have HS4 : Hid (HS (put4 w4 (w.heap.size + 1) (.slice A4 d.secs.length c4) (.slice none 0 0) (.int .i64 lf) (.bool false)) (fun b => P b ∧ b < w.heap.size) us (performD d.secs d.pend)) := Lib.hid (hs4.via (fun b hb => hb.2) (by first | exact HG1.out | exact below_drewN HG1.out 1) HG5.out (Nat.le_trans hb5.size (put4_keep _ _ _ _).size))
        unfold put4 at HR4 HO5 HG5 HS4
        generalize ((((w4.setCell ⟨w.heap.size + 1, 0, none⟩ (.slice A4 d.secs.length c4)).setCell ⟨w.heap.size + 1, 1, none⟩ (.slice none 0 0)).setCell ⟨w.heap.size + 1, 2, none⟩ (.int .i64 lf)).setCell ⟨w.heap.size + 1, 3, none⟩ (.bool false)) = W5 at HR4 HO5 HG5 HS4 ⊢
        clear ho4 ho5 hb4 hb5 hs4
        clear r0 r1 r2 r3 f0 f1 f2 f3 rz
        obtain ⟨r0, r1, r2, r3, f0, f1, f2, f3, rz⟩ := HR4.out
        go_wp2_with fail
        have hr8 := (HR4.out.setC (.int .i64 (lf - (d.pend.length : Int)))).put (.slice A4 d.secs.length c4) (.slice none 0 0) (.int .i64 (lf - (d.pend.length : Int))) (.bool false)
        have ho8 := (HO5.out.kept (grownBy_setCell' W5 ⟨w.heap.size + 1, 2, none⟩ (.int .i64 (lf - (d.pend.length : Int)))) (fun g hg e => by have := HO5.out.base_le g hg; injection e with e; simp only at e; omega)).put4 (b := w.heap.size + 1) (by omega) (.slice A4 d.secs.length c4) (.slice none 0 0) (.int .i64 (lf - (d.pend.length : Int))) (.bool false)
        have hg8 := put4_below (b := w.heap.size + 1) (HG5.out.setCell (show w.heap.size ≤ (⟨w.heap.size + 1, 2, none⟩ : Addr).block from by simp) (.int .i64 (lf - (d.pend.length : Int)))) (by omega) (.slice A4 d.secs.length c4) (.slice none 0 0) (.int .i64 (lf - (d.pend.length : Int))) (.bool false)
        have HZZ : W5.heap.size ≤ (put4 (W5.setCell ⟨w.heap.size + 1, 2, none⟩ (.int .i64 (lf - (d.pend.length : Int)))) (w.heap.size + 1) (.slice A4 d.secs.length c4) (.slice none 0 0) (.int .i64 (lf - (d.pend.length : Int))) (.bool false)).heap.size := by have := (put4_keep (W := (W5.setCell ⟨w.heap.size + 1, 2, none⟩ (.int .i64 (lf - (d.pend.length : Int))))) (b := w.heap.size + 1) (.slice A4 d.secs.length c4) (.slice none 0 0) (.int .i64 (lf - (d.pend.length : Int))) (.bool false)).size; simpa [World.setCell] using this
        have hd8 : Di (put4 (W5.setCell ⟨w.heap.size + 1, 2, none⟩ (.int .i64 (lf - (d.pend.length : Int)))) (w.heap.size + 1) (.slice A4 d.secs.length c4) (.slice none 0 0) (.int .i64 (lf - (d.pend.length : Int))) (.bool false)) (Nw P w) ⟨A4, d.secs.length, c4⟩ ⟨none, 0, 0⟩ ⟨performD d.secs d.pend, [], (lf - (d.pend.length : Int)), false⟩ :=
          ⟨Se.of_row (by rw [perform_len]) ho8 ((HS4.out.via (fun b hb => hb.2) HG5.out hg8 HZZ).mono (fun b hb => .inl hb.1)) (fun b hb => .inr (by omega)), Pe.nil_ _ _⟩
        obtain ⟨p0, p1, p2, p3, _⟩ := hr8
        unfold put4 at p0 p1 p2 p3
        exact bodyPost_ret (v := .tuple #[.agg #[.slice A4 d.secs.length c4, .slice none 0 0, .int .i64 (lf - (d.pend.length : Int)), .bool false], .int .i64 0]) (by simp [results, Try.results27, go_sem, p0, p1, p2, p3]) rfl ⟨⟨⟨A4, d.secs.length, c4⟩, ⟨none, 0, 0⟩, rfl, hd8⟩, hg8⟩
end Go.Proofs.Ytgbkhmoplocmkaa
