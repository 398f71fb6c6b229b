/- The reference's Check of programmes; eligible, total, asked, Few. -/
import Derived.Test.YtgimpbcdgfkdmaaProB
namespace Go.Proofs.Ytgimpbcdgfkdmaa
open Go.RowKit Go.Shelf
set_option linter.unusedSimpArgs false
set_option linter.unusedVariables false

theorem goodP_iff (p : Pg) : goodP p = true ↔ (0 ≤ p.number ∧ p.number ≤ 255) ∧ (1 ≤ p.uses ∧ p.uses ≤ 4) ∧ (0 ≤ p.earn ∧ p.earn ≤ 10000) ∧ checkR p.mean = 0 ∧ (0 ≤ p.mean.num ∧ p.mean.num ≤ 12 * p.mean.den) ∧ p.reqs.length ≤ 64 ∧ (p.reqs.any (fun q => !goodQ q)) = false := by
  simp only [goodP, inB, okR', Bool.and_eq_true, decide_eq_true_eq, Bool.not_eq_true']
theorem goodQ_iff (q : Rq) : goodQ q = true ↔ (1 ≤ q.credits ∧ q.credits ≤ 10000) ∧ (0 ≤ q.grade ∧ q.grade ≤ 12) ∧ (q.fr.any (fun c => !inB c 0 4095)) = false := by
  simp only [goodQ, inB, Bool.and_eq_true, decide_eq_true_eq, Bool.not_eq_true']
theorem checkP_no {p : Pg} (h : ¬ goodP p = true) : checkP p = 190 := by unfold checkP; rw [if_neg h]
theorem checkP_ok {p : Pg} (h : goodP p = true) : checkP p = 0 := by unfold checkP; rw [if_pos h]
theorem goodP_of {p : Pg} (h : checkP p = 0) : goodP p = true := by
  unfold checkP at h
  split at h
  · assumption
  · simp at h

set_option maxHeartbeats 8000000 in
theorem RdgCheck_any {P : Nat → Prop} (p : Pg) (s : Sl) (w : World) (hr : Rqs w P s p.reqs) (hi : p.mean.i64) (hfr : ∀ q ∈ p.reqs, q.fr.length ≤ 9223372036854775807) (hln : p.reqs.length ≤ 9223372036854775807) :
    Calls Try.prog 24 #[pgV p s] w fun e w' => e = .returned (.int .i64 (checkP p)) ∧ Below w.heap.size w w' := by
  have hn := hr.len
  have HR := Lib.hid hr
  have HFR := Lib.hid hfr
  have HC := Lib.hid (fun W => RRaCheck_any p.mean hi W)
  obtain ⟨A, n, c⟩ := s
  simp only at hn
  subst hn
  clear hr hi hfr
  obtain ⟨E, hE⟩ : ∃ E, E = checkP p := ⟨_, rfl⟩
  rw [← hE]
  have HE0 := Lib.hid hE
  clear hE
  unfold pgV
  simp only [Ra.v] at HC ⊢
  cases h1 : decide (p.number < 0)
  rotate_left
  · obtain rfl : E = 190 := by rw [HE0.out]; refine checkP_no (fun hg => ?_); obtain ⟨⟨_, _⟩, ⟨_, _⟩, ⟨_, _⟩, _, ⟨_, _⟩, _, _⟩ := (goodP_iff p).1 hg; simp at h1; omega
    clear HE0
    go_enter Try.func24, Try.ntmps24
    go_wp2_with fail
    go_ret
    exact ⟨rfl, by go_grown⟩
  cases h2 : decide (256 ≤ p.number)
  rotate_left
  · obtain rfl : E = 190 := by rw [HE0.out]; refine checkP_no (fun hg => ?_); obtain ⟨⟨_, _⟩, ⟨_, _⟩, ⟨_, _⟩, _, ⟨_, _⟩, _, _⟩ := (goodP_iff p).1 hg; simp at h2; omega
    clear HE0
    go_enter Try.func24, Try.ntmps24
    go_wp2_with fail
    go_ret
    exact ⟨rfl, by go_grown⟩
  cases h3 : decide (p.uses < 1)
  rotate_left
  · obtain rfl : E = 190 := by rw [HE0.out]; refine checkP_no (fun hg => ?_); obtain ⟨⟨_, _⟩, ⟨_, _⟩, ⟨_, _⟩, _, ⟨_, _⟩, _, _⟩ := (goodP_iff p).1 hg; simp at h3; omega
    clear HE0
    go_enter Try.func24, Try.ntmps24
    go_wp2_with fail
    go_ret
    exact ⟨rfl, by go_grown⟩
  cases h4 : decide (4 < p.uses)
  rotate_left
  · obtain rfl : E = 190 := by rw [HE0.out]; refine checkP_no (fun hg => ?_); obtain ⟨⟨_, _⟩, ⟨_, _⟩, ⟨_, _⟩, _, ⟨_, _⟩, _, _⟩ := (goodP_iff p).1 hg; simp at h4; omega
    clear HE0
    go_enter Try.func24, Try.ntmps24
    go_wp2_with fail
    go_ret
    exact ⟨rfl, by go_grown⟩
  cases h5 : decide (p.earn < 0)
  rotate_left
  · obtain rfl : E = 190 := by rw [HE0.out]; refine checkP_no (fun hg => ?_); obtain ⟨⟨_, _⟩, ⟨_, _⟩, ⟨_, _⟩, _, ⟨_, _⟩, _, _⟩ := (goodP_iff p).1 hg; simp at h5; omega
    clear HE0
    go_enter Try.func24, Try.ntmps24
    go_wp2_with fail
    go_ret
    exact ⟨rfl, by go_grown⟩
  cases h6 : decide (10000 < p.earn)
  rotate_left
  · obtain rfl : E = 190 := by rw [HE0.out]; refine checkP_no (fun hg => ?_); obtain ⟨⟨_, _⟩, ⟨_, _⟩, ⟨_, _⟩, _, ⟨_, _⟩, _, _⟩ := (goodP_iff p).1 hg; simp at h6; omega
    clear HE0
    go_enter Try.func24, Try.ntmps24
    go_wp2_with fail
    go_ret
    exact ⟨rfl, by go_grown⟩
  by_cases h7 : checkR p.mean = 0
  rotate_left
  · obtain rfl : E = 190 := by rw [HE0.out]; refine checkP_no (fun hg => ?_); obtain ⟨_, _, _, h4, _⟩ := (goodP_iff p).1 hg; exact h7 h4
    have B7 : Hid (checkR p.mean = 50) := Lib.hid (by unfold checkR at h7 ⊢; split <;> simp_all)
    clear h7 HE0
    go_enter Try.func24, Try.ntmps24
    go_wp2_with fail
    refine (HC.out _).mono ?_
    rw [B7.out]
    rintro e w2 ⟨rfl, hb2⟩
    have hbx := (Bx.new w (pgC p ⟨A, p.reqs.length, c⟩) 26).step hb2
    have hbe : Below w.heap.size w w2 := ((Below.refl _ _).alloc (Nat.le_refl _) _).trans (hb2.mono (by simp))
    have p0 := hbx.1 0 _ rfl
    have p1 := hbx.1 1 _ rfl
    have p2 := hbx.1 2 _ rfl
    have p3 := hbx.1 3 _ rfl
    have p4 := hbx.1 4 _ rfl
    have p5 := hbx.1 5 _ rfl
    have p6 := hbx.1 6 _ rfl
    have pz := hbx.2.2
    have HBX := Lib.hid hbx
    have HBE := Lib.hid hbe
    clear hbx hbe hb2
    go_wp2_with fail
    go_ret
    exact ⟨rfl, HBE.out⟩
  have B7 : Hid (checkR p.mean = 0) := Lib.hid h7
  have hd1 : p.mean.den ≤ 1073741824 := (checkR_zero h7).2.1
  have hd0 : 1 ≤ p.mean.den := (checkR_zero h7).1
  have hdm : ∃ D : Int, D = 12 * p.mean.den := ⟨_, rfl⟩
  clear h7
  cases h8 : decide (p.mean.num < 0)
  rotate_left
  · obtain rfl : E = 190 := by rw [HE0.out]; refine checkP_no (fun hg => ?_); obtain ⟨⟨_, _⟩, ⟨_, _⟩, ⟨_, _⟩, _, ⟨_, _⟩, _, _⟩ := (goodP_iff p).1 hg; simp at h8; omega
    clear HE0
    go_enter Try.func24, Try.ntmps24
    go_wp2_with fail
    refine (HC.out _).mono ?_
    rw [B7.out]
    rintro e w2 ⟨rfl, hb2⟩
    have hbx := (Bx.new w (pgC p ⟨A, p.reqs.length, c⟩) 26).step hb2
    have hbe : Below w.heap.size w w2 := ((Below.refl _ _).alloc (Nat.le_refl _) _).trans (hb2.mono (by simp))
    have p0 := hbx.1 0 _ rfl
    have p1 := hbx.1 1 _ rfl
    have p2 := hbx.1 2 _ rfl
    have p3 := hbx.1 3 _ rfl
    have p4 := hbx.1 4 _ rfl
    have p5 := hbx.1 5 _ rfl
    have p6 := hbx.1 6 _ rfl
    have pz := hbx.2.2
    have HBX := Lib.hid hbx
    have HBE := Lib.hid hbe
    clear hbx hbe hb2
    go_wp2_with fail
    go_ret
    exact ⟨rfl, HBE.out⟩
  cases h9 : decide (12 * p.mean.den < p.mean.num)
  rotate_left
  · obtain rfl : E = 190 := by rw [HE0.out]; refine checkP_no (fun hg => ?_); obtain ⟨⟨_, _⟩, ⟨_, _⟩, ⟨_, _⟩, _, ⟨_, _⟩, _, _⟩ := (goodP_iff p).1 hg; simp at h9; omega
    clear HE0
    go_enter Try.func24, Try.ntmps24
    go_wp2_with fail
    refine (HC.out _).mono ?_
    rw [B7.out]
    rintro e w2 ⟨rfl, hb2⟩
    have hbx := (Bx.new w (pgC p ⟨A, p.reqs.length, c⟩) 26).step hb2
    have hbe : Below w.heap.size w w2 := ((Below.refl _ _).alloc (Nat.le_refl _) _).trans (hb2.mono (by simp))
    have p0 := hbx.1 0 _ rfl
    have p1 := hbx.1 1 _ rfl
    have p2 := hbx.1 2 _ rfl
    have p3 := hbx.1 3 _ rfl
    have p4 := hbx.1 4 _ rfl
    have p5 := hbx.1 5 _ rfl
    have p6 := hbx.1 6 _ rfl
    have pz := hbx.2.2
    have HBX := Lib.hid hbx
    have HBE := Lib.hid hbe
    clear hbx hbe hb2
    go_wp2_with fail
    go_ret
    exact ⟨rfl, HBE.out⟩
  cases h10 : decide (64 < (p.reqs.length : Int))
  rotate_left
  · obtain rfl : E = 190 := by rw [HE0.out]; refine checkP_no (fun hg => ?_); obtain ⟨⟨_, _⟩, ⟨_, _⟩, ⟨_, _⟩, _, ⟨_, _⟩, _, _⟩ := (goodP_iff p).1 hg; simp at h10; omega
    clear HE0
    go_enter Try.func24, Try.ntmps24
    go_wp2_with fail
    refine (HC.out _).mono ?_
    rw [B7.out]
    rintro e w2 ⟨rfl, hb2⟩
    have hbx := (Bx.new w (pgC p ⟨A, p.reqs.length, c⟩) 26).step hb2
    have hbe : Below w.heap.size w w2 := ((Below.refl _ _).alloc (Nat.le_refl _) _).trans (hb2.mono (by simp))
    have p0 := hbx.1 0 _ rfl
    have p1 := hbx.1 1 _ rfl
    have p2 := hbx.1 2 _ rfl
    have p3 := hbx.1 3 _ rfl
    have p4 := hbx.1 4 _ rfl
    have p5 := hbx.1 5 _ rfl
    have p6 := hbx.1 6 _ rfl
    have pz := hbx.2.2
    have HBX := Lib.hid hbx
    have HBE := Lib.hid hbe
    clear hbx hbe hb2
    go_wp2_with fail
    go_ret
    exact ⟨rfl, HBE.out⟩
  have HA1 : Hid (p.reqs.any (fun q => !goodQ q) = true → E = 190) := Lib.hid (fun h => by rw [HE0.out]; refine checkP_no (fun hg => ?_); obtain ⟨_, _, _, _, _, _, ha⟩ := (goodP_iff p).1 hg; rw [h] at ha; cases ha)
  have HA0 : Hid (p.reqs.any (fun q => !goodQ q) = false → E = 0) := Lib.hid (fun h => by rw [HE0.out]; refine checkP_ok ((goodP_iff p).2 ?_); simp at h1 h2 h3 h4 h5 h6 h8 h9 h10; exact ⟨by omega, by omega, by omega, B7.out, by omega, by omega, h⟩)
  clear HE0 hdm
  go_enter Try.func24, Try.ntmps24
  go_wp2_with fail
  refine (HC.out _).mono ?_
  rw [B7.out]
  rintro e w2 ⟨rfl, hb2⟩
  have hbx := (Bx.new w (pgC p ⟨A, p.reqs.length, c⟩) 26).step hb2
  have hbe : Below w.heap.size w w2 := ((Below.refl _ _).alloc (Nat.le_refl _) _).trans (hb2.mono (by simp))
  have p0 := hbx.1 0 _ rfl
  have p1 := hbx.1 1 _ rfl
  have p2 := hbx.1 2 _ rfl
  have p3 := hbx.1 3 _ rfl
  have p4 := hbx.1 4 _ rfl
  have p5 := hbx.1 5 _ rfl
  have p6 := hbx.1 6 _ rfl
  have pz := hbx.2.2
  have HBX := Lib.hid hbx
  have HBE := Lib.hid hbe
  clear hbx hbe hb2
  go_wp2_with fail
  clear p0 p1 p2 p3 p4 p5 p6 h1 h2 h3 h4 h5 h6 h8 h9
  go_loopw [3] (fun i wr => ∃ k : Nat, k ≤ p.reqs.length ∧ i = .int .i64 k ∧ (∀ j (h : j < p.reqs.length), j < k → (!goodQ p.reqs[j]) = false) ∧ Below w2.heap.size w2 wr) (fun i _ => p.reqs.length - (intOf i).toNat)
  case atStart => exact ⟨0, Nat.zero_le _, rfl, fun _ _ h => absurd h (by omega), Below.refl _ _⟩
  case round =>
    obtain ⟨k, hk, rfl, hno, hB⟩ := hrel
    have HNO := Lib.hid hno
    clear hno
    have hBE2 : Below w.heap.size w wr := HBE.out.trans (hB.mono HBE.out.size)
    have hbx2 := HBX.out.step hB
    have p6 := hbx2.1 6 _ rfl
    have pz2 := hbx2.2.2
    by_cases hlt : k < p.reqs.length
    · obtain ⟨bb, off, q, nm, ns, f, ha, hbb, hxk, hq, c0, c1, c2, c3, c4, c5⟩ := (HR.out.step hBE2).at_ hlt
      simp only at ha
      subst ha
      obtain ⟨Af, nf, cf⟩ := f
      have hfn := hq.1
      simp only at hfn c5
      subst hfn
      have HXK := Lib.hid hxk
      have HQ := Lib.hid hq
      have HB := Lib.hid hB
      have HE := Lib.hid hBE2
      have HBX2 := Lib.hid hbx2
      have hfl := HFR.out q (List.mem_of_getElem? hxk)
      have hbad : Hid (¬ goodQ q = true → E = 190) := Lib.hid (fun h => HA1.out (any_true HXK.out (by simpa using h)))
      clear hxk hq hB hBE2 hbx2
      cases g1 : decide (q.credits < 1)
      rotate_left
      · obtain rfl : E = 190 := hbad.out (fun hg => by obtain ⟨⟨_, _⟩, ⟨_, _⟩, _⟩ := (goodQ_iff q).1 hg; simp at g1; omega)
        clear HA1 HA0 hbad
        go_wp2_with fail
        go_ret
        exact ⟨rfl, HE.out.trans (((Below.refl _ _).alloc (Nat.le_refl _) _).mono HE.out.size)⟩
      cases g2 : decide (10000 < q.credits)
      rotate_left
      · obtain rfl : E = 190 := hbad.out (fun hg => by obtain ⟨⟨_, _⟩, ⟨_, _⟩, _⟩ := (goodQ_iff q).1 hg; simp at g2; omega)
        clear HA1 HA0 hbad
        go_wp2_with fail
        go_ret
        exact ⟨rfl, HE.out.trans (((Below.refl _ _).alloc (Nat.le_refl _) _).mono HE.out.size)⟩
      cases g3 : decide (q.grade < 0)
      rotate_left
      · obtain rfl : E = 190 := hbad.out (fun hg => by obtain ⟨⟨_, _⟩, ⟨_, _⟩, _⟩ := (goodQ_iff q).1 hg; simp at g3; omega)
        clear HA1 HA0 hbad
        go_wp2_with fail
        go_ret
        exact ⟨rfl, HE.out.trans (((Below.refl _ _).alloc (Nat.le_refl _) _).mono HE.out.size)⟩
      cases g4 : decide (12 < q.grade)
      rotate_left
      · obtain rfl : E = 190 := hbad.out (fun hg => by obtain ⟨⟨_, _⟩, ⟨_, _⟩, _⟩ := (goodQ_iff q).1 hg; simp at g4; omega)
        clear HA1 HA0 hbad
        go_wp2_with fail
        go_ret
        exact ⟨rfl, HE.out.trans (((Below.refl _ _).alloc (Nat.le_refl _) _).mono HE.out.size)⟩
      go_wp2_with fail
      have hbq := Bx.new wr [.string nm, .int .i64 q.credits, .int .i64 q.grade, .bool q.home, .slice ns.a ns.n ns.c, .slice Af q.fr.length cf] 57
      have hbw : Below wr.heap.size wr (wr.alloc (.cells #[.string nm, .int .i64 q.credits, .int .i64 q.grade, .bool q.home, .slice ns.a ns.n ns.c, .slice Af q.fr.length cf] 57)) := (Below.refl _ _).alloc (Nat.le_refl _) _
      obtain ⟨w4, hw4⟩ : ∃ X, X = wr.alloc (.cells #[.string nm, .int .i64 q.credits, .int .i64 q.grade, .bool q.home, .slice ns.a ns.n ns.c, .slice Af q.fr.length cf] 57) := ⟨_, rfl⟩
      rw [← hw4] at hbq hbw ⊢
      clear hw4
      have HBQ := Lib.hid hbq
      have HBW := Lib.hid hbw
      have hrw : wr.heap.size < w4.heap.size := hbq.2.2
      clear hbq hbw c0 c1 c2 c3 c4 c5
      obtain ⟨wo, hwo⟩ : ∃ X, X = wr := ⟨_, rfl⟩
      subst hwo
      go_loopw [5] (fun i wr => ∃ j : Nat, j ≤ q.fr.length ∧ i = .int .i64 j ∧ (∀ t (h : t < q.fr.length), t < j → (!inB q.fr[t] 0 4095) = false) ∧ Below w4.heap.size w4 wr) (fun i _ => q.fr.length - (intOf i).toNat)
      case atStart => exact ⟨0, Nat.zero_le _, rfl, fun _ _ h => absurd h (by omega), Below.refl _ _⟩
      case round =>
        obtain ⟨j, hj, rfl, hno, hB⟩ := hrel
        have HNO2 := Lib.hid hno
        have hbq := HBQ.out.step hB
        have q5 := hbq.1 5 _ rfl
        have qz := hbq.2.2
        have HB4 := Lib.hid hB
        clear hno hbq
        by_cases hlj : j < q.fr.length
        · obtain ⟨bf, of, x, hfa, hbf, hxj, hcx⟩ := (HQ.out.step (HBW.out.trans (hB.mono HBW.out.size))).reads.at_ (k := j) hlj
          simp only at hfa
          subst hfa
          have cx := hcx 0 _ rfl
          simp only [Nat.add_zero, Nat.mul_one] at cx
          have HXJ := Lib.hid hxj
          clear hcx hxj hB
          cases g5 : decide (x < 0)
          rotate_left
          · obtain rfl : E = 190 := hbad.out (fun hg => by obtain ⟨_, _, ha⟩ := (goodQ_iff q).1 hg; rw [any_true HXJ.out (by simp [inB] at g5 ⊢; omega)] at ha; cases ha)
            clear HA1 HA0 hbad
            go_wp2_with fail
            go_ret
            exact ⟨rfl, HE.out.trans ((HBW.out.trans (HB4.out.mono HBW.out.size)).mono HE.out.size)⟩
          cases g6 : decide (4096 ≤ x)
          rotate_left
          · obtain rfl : E = 190 := hbad.out (fun hg => by obtain ⟨_, _, ha⟩ := (goodQ_iff q).1 hg; rw [any_true HXJ.out (by simp [inB] at g6 ⊢; omega)] at ha; cases ha)
            clear HA1 HA0 hbad
            go_wp2_with fail
            go_ret
            exact ⟨rfl, HE.out.trans ((HBW.out.trans (HB4.out.mono HBW.out.size)).mono HE.out.size)⟩
          have hin : Hid ((!inB x 0 4095) = false) := Lib.hid (by simp [inB] at g5 g6 ⊢; omega)
          go_wp2_with fail
          go_roundw
          case rel => exact ⟨j + 1, by omega, by go_num, step_no (p := fun c => !inB c 0 4095) HNO2.out HXJ.out hin.out, HB4.out⟩
          case measure => simp [intOf]; omega
        · obtain rfl : j = q.fr.length := by omega
          have hgq : Hid ((!goodQ q) = false) := Lib.hid (by rw [(goodQ_iff q).2 ⟨by simp at g1 g2; omega, by simp at g3 g4; omega, any_false (fun i hi => HNO2.out i hi hi)⟩]; rfl)
          go_wp2_with fail
          go_roundw
          case rel => exact ⟨k + 1, by omega, by go_num, step_no (p := fun q => !goodQ q) HNO.out HXK.out hgq.out, HB.out.trans ((HBW.out.trans (HB4.out.mono HBW.out.size)).mono HB.out.size)⟩
          case measure => simp [intOf]; omega
    · obtain rfl : k = p.reqs.length := by omega
      have HA : Hid (p.reqs.any (fun q => !goodQ q) = false) := Lib.hid (any_false (fun j hj => HNO.out j hj hj))
      have HE := Lib.hid hBE2
      obtain rfl : E = 0 := HA0.out HA.out
      clear hBE2 HA1 HA0
      go_wp2_with fail
      go_ret
      exact ⟨rfl, HE.out⟩
end Go.Proofs.Ytgimpbcdgfkdmaa
