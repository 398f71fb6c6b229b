/- degree.Check. -/
import Derived.Test.YtgimpbcdgfkdmaaProA
namespace Go.Proofs.Ytgimpbcdgfkdmaa
open Go.RowKit Go.Shelf
set_option linter.unusedSimpArgs false
set_option linter.unusedVariables false

set_option maxHeartbeats 4000000 in
theorem dgCheck_any {P : Nat → Prop} (p : Pg) (s : Sl) (w : World) (hr : Rqs w P s p.reqs) (hi : p.mean.i64) :
    Calls Try.prog 23 #[pgV p s] w fun e w' => e = .returned (.int .i64 (checkP p)) ∧ Below w.heap.size w w' := by
  have hn := hr.len
  have HR := Lib.hid hr
  have HC := Lib.hid (fun W => Check_any p.mean hi W)
  have hden : okR' p.mean = true → 1 ≤ p.mean.den ∧ p.mean.den ≤ 1073741824 := fun h => by
    have := checkR_zero (of_decide_eq_true h)
    exact ⟨this.1, this.2.1⟩
  obtain ⟨A, n, c⟩ := s
  simp only at hn
  subst hn
  clear hr hi
  obtain ⟨E, hE⟩ : ∃ E, E = checkP p := ⟨_, rfl⟩
  rw [← hE]
  unfold pgV
  simp only [Ra.v] at HC ⊢
  cases b1 : inB p.number 0 255
  · obtain rfl : E = 190 := by rw [hE]; simp [checkP, goodP, b1]
    have B1 := Lib.hid b1
    clear hE b1 hden
    go_enter Try.func23, Try.ntmps23
    go_wp2_with fail
    refine (dgWithin_any _ _ _ _).mono ?_
    rw [B1.out]
    rintro e w1 ⟨rfl, rfl⟩
    go_wp2_with fail
    go_ret
    exact ⟨rfl, by go_grown⟩
  have B1 := Lib.hid b1
  cases b2 : inB p.uses 1 4
  · obtain rfl : E = 190 := by rw [hE]; simp [checkP, goodP, b1, b2]
    have B2 := Lib.hid b2
    clear hE b1 b2 hden
    go_enter Try.func23, Try.ntmps23
    go_wp2_with fail
    refine (dgWithin_any _ _ _ _).mono ?_
    rw [B1.out]
    rintro e w1 ⟨rfl, rfl⟩
    go_wp2_with fail
    refine (dgWithin_any _ _ _ _).mono ?_
    rw [B2.out]
    rintro e w1 ⟨rfl, rfl⟩
    go_wp2_with fail
    go_ret
    exact ⟨rfl, by go_grown⟩
  have B2 := Lib.hid b2
  cases b3 : inB p.earn 0 10000
  · obtain rfl : E = 190 := by rw [hE]; simp [checkP, goodP, b1, b2, b3]
    have B3 := Lib.hid b3
    clear hE b1 b2 b3 hden
    go_enter Try.func23, Try.ntmps23
    go_wp2_with fail
    refine (dgWithin_any _ _ _ _).mono ?_
    rw [B1.out]
    rintro e w1 ⟨rfl, rfl⟩
    go_wp2_with fail
    refine (dgWithin_any _ _ _ _).mono ?_
    rw [B2.out]
    rintro e w1 ⟨rfl, rfl⟩
    go_wp2_with fail
    refine (dgWithin_any _ _ _ _).mono ?_
    rw [B3.out]
    rintro e w1 ⟨rfl, rfl⟩
    go_wp2_with fail
    go_ret
    exact ⟨rfl, by go_grown⟩
  have B3 := Lib.hid b3
  cases b4 : okR' p.mean
  · obtain rfl : E = 190 := by rw [hE]; simp [checkP, goodP, b1, b2, b3, b4]
    have B4 : Hid (checkR p.mean = 50) := Lib.hid (by unfold okR' at b4; have := of_decide_eq_false b4; unfold checkR at this ⊢; split <;> simp_all)
    clear hE b1 b2 b3 b4 hden
    go_enter Try.func23, Try.ntmps23
    go_wp2_with fail
    refine (dgWithin_any _ _ _ _).mono ?_
    rw [B1.out]
    rintro e w1 ⟨rfl, rfl⟩
    go_wp2_with fail
    refine (dgWithin_any _ _ _ _).mono ?_
    rw [B2.out]
    rintro e w1 ⟨rfl, rfl⟩
    go_wp2_with fail
    refine (dgWithin_any _ _ _ _).mono ?_
    rw [B3.out]
    rintro e w1 ⟨rfl, rfl⟩
    go_wp2_with fail
    refine (HC.out _).mono ?_
    rw [B4.out]
    rintro e w2 ⟨rfl, hb2⟩
    have hbx := (Bx.new w (pgC p ⟨A, p.reqs.length, c⟩) 26).step hb2
    have hbe : Below w.heap.size w w2 := ((Below.refl _ _).alloc (Nat.le_refl _) _).trans (hb2.mono (by simp))
    have p0 := hbx.1 0 _ rfl
    have p1 := hbx.1 1 _ rfl
    have p2 := hbx.1 2 _ rfl
    have p3 := hbx.1 3 _ rfl
    have p4 := hbx.1 4 _ rfl
    have p5 := hbx.1 5 _ rfl
    have p6 := hbx.1 6 _ rfl
    have pz := hbx.2.2
    have HBX := Lib.hid hbx
    have HBE := Lib.hid hbe
    clear hbx hbe hb2
    go_wp2_with fail
    go_ret
    exact ⟨rfl, HBE.out⟩
  have B4 : Hid (checkR p.mean = 0) := Lib.hid (of_decide_eq_true b4)
  obtain ⟨hd1, hd2⟩ := hden b4
  clear hden
  cases b5 : inB p.mean.num 0 (12 * p.mean.den)
  · obtain rfl : E = 190 := by rw [hE]; simp [checkP, goodP, b1, b2, b3, b4, b5]
    have B5 := Lib.hid b5
    clear hE b1 b2 b3 b4 b5
    go_enter Try.func23, Try.ntmps23
    go_wp2_with fail
    refine (dgWithin_any _ _ _ _).mono ?_
    rw [B1.out]
    rintro e w1 ⟨rfl, rfl⟩
    go_wp2_with fail
    refine (dgWithin_any _ _ _ _).mono ?_
    rw [B2.out]
    rintro e w1 ⟨rfl, rfl⟩
    go_wp2_with fail
    refine (dgWithin_any _ _ _ _).mono ?_
    rw [B3.out]
    rintro e w1 ⟨rfl, rfl⟩
    go_wp2_with fail
    refine (HC.out _).mono ?_
    rw [B4.out]
    rintro e w2 ⟨rfl, hb2⟩
    have hbx := (Bx.new w (pgC p ⟨A, p.reqs.length, c⟩) 26).step hb2
    have hbe : Below w.heap.size w w2 := ((Below.refl _ _).alloc (Nat.le_refl _) _).trans (hb2.mono (by simp))
    have p0 := hbx.1 0 _ rfl
    have p1 := hbx.1 1 _ rfl
    have p2 := hbx.1 2 _ rfl
    have p3 := hbx.1 3 _ rfl
    have p4 := hbx.1 4 _ rfl
    have p5 := hbx.1 5 _ rfl
    have p6 := hbx.1 6 _ rfl
    have pz := hbx.2.2
    have HBX := Lib.hid hbx
    have HBE := Lib.hid hbe
    clear hbx hbe hb2
    go_wp2_with fail
    refine (dgWithin_any _ _ _ _).mono ?_
    rw [B5.out]
    rintro e w1 ⟨rfl, rfl⟩
    go_wp2_with fail
    go_ret
    exact ⟨rfl, HBE.out⟩
  have B5 := Lib.hid b5
  by_cases hl : p.reqs.length ≤ 64
  rotate_left
  · have b6 : decide ((64 : Int) < (p.reqs.length : Int)) = true := by simp; omega
    have b7 : decide (p.reqs.length ≤ 64) = false := by simp; omega
    obtain rfl : E = 190 := by rw [hE]; simp only [checkP, goodP, b1, b2, b3, b4, b5, b7]; rfl
    clear b7 hl hE b1 b2 b3 b4 b5
    go_enter Try.func23, Try.ntmps23
    go_wp2_with fail
    refine (dgWithin_any _ _ _ _).mono ?_
    rw [B1.out]
    rintro e w1 ⟨rfl, rfl⟩
    go_wp2_with fail
    refine (dgWithin_any _ _ _ _).mono ?_
    rw [B2.out]
    rintro e w1 ⟨rfl, rfl⟩
    go_wp2_with fail
    refine (dgWithin_any _ _ _ _).mono ?_
    rw [B3.out]
    rintro e w1 ⟨rfl, rfl⟩
    go_wp2_with fail
    refine (HC.out _).mono ?_
    rw [B4.out]
    rintro e w2 ⟨rfl, hb2⟩
    have hbx := (Bx.new w (pgC p ⟨A, p.reqs.length, c⟩) 26).step hb2
    have hbe : Below w.heap.size w w2 := ((Below.refl _ _).alloc (Nat.le_refl _) _).trans (hb2.mono (by simp))
    have p0 := hbx.1 0 _ rfl
    have p1 := hbx.1 1 _ rfl
    have p2 := hbx.1 2 _ rfl
    have p3 := hbx.1 3 _ rfl
    have p4 := hbx.1 4 _ rfl
    have p5 := hbx.1 5 _ rfl
    have p6 := hbx.1 6 _ rfl
    have pz := hbx.2.2
    have HBX := Lib.hid hbx
    have HBE := Lib.hid hbe
    clear hbx hbe hb2
    go_wp2_with fail
    refine (dgWithin_any _ _ _ _).mono ?_
    rw [B5.out]
    rintro e w1 ⟨rfl, rfl⟩
    go_wp2_with fail
    go_ret
    exact ⟨rfl, HBE.out⟩
  have b6 : decide ((64 : Int) < (p.reqs.length : Int)) = false := by simp; omega
  have b7 : decide (p.reqs.length ≤ 64) = true := by simp; omega
  have HA1 : Hid (p.reqs.any (fun q => !goodQ q) = true → E = 190) := Lib.hid (fun h => by rw [hE]; simp only [checkP, goodP, b1, b2, b3, b4, b5, b7, h]; rfl)
  have HA0 : Hid (p.reqs.any (fun q => !goodQ q) = false → E = 0) := Lib.hid (fun h => by rw [hE]; simp only [checkP, goodP, b1, b2, b3, b4, b5, b7, h]; rfl)
  clear b7 hE b1 b2 b3 b4 b5
  have HL := Lib.hid hl
  have hl2 : p.reqs.length ≤ 9223372036854775807 := by omega
  clear hl
  go_enter Try.func23, Try.ntmps23
  go_wp2_with fail
  refine (dgWithin_any _ _ _ _).mono ?_
  rw [B1.out]
  rintro e w1 ⟨rfl, rfl⟩
  go_wp2_with fail
  refine (dgWithin_any _ _ _ _).mono ?_
  rw [B2.out]
  rintro e w1 ⟨rfl, rfl⟩
  go_wp2_with fail
  refine (dgWithin_any _ _ _ _).mono ?_
  rw [B3.out]
  rintro e w1 ⟨rfl, rfl⟩
  go_wp2_with fail
  refine (HC.out _).mono ?_
  rw [B4.out]
  rintro e w2 ⟨rfl, hb2⟩
  have hbx := (Bx.new w (pgC p ⟨A, p.reqs.length, c⟩) 26).step hb2
  have hbe : Below w.heap.size w w2 := ((Below.refl _ _).alloc (Nat.le_refl _) _).trans (hb2.mono (by simp))
  have p0 := hbx.1 0 _ rfl
  have p1 := hbx.1 1 _ rfl
  have p2 := hbx.1 2 _ rfl
  have p3 := hbx.1 3 _ rfl
  have p4 := hbx.1 4 _ rfl
  have p5 := hbx.1 5 _ rfl
  have p6 := hbx.1 6 _ rfl
  have pz := hbx.2.2
  have HBX := Lib.hid hbx
  have HBE := Lib.hid hbe
  clear hbx hbe hb2
  go_wp2_with fail
  refine (dgWithin_any _ _ _ _).mono ?_
  rw [B5.out]
  rintro e w1 ⟨rfl, rfl⟩
  go_wp2_with fail
  go_loopw [48] (fun i wr => ∃ k : Nat, k ≤ p.reqs.length ∧ i = .int .i64 k ∧ (∀ j (h : j < p.reqs.length), j < k → (!goodQ p.reqs[j]) = false) ∧ Below w2.heap.size w2 wr) (fun i _ => p.reqs.length - (intOf i).toNat)
  case atStart => exact ⟨0, Nat.zero_le _, rfl, fun _ _ h => absurd h (by omega), Below.refl _ _⟩
  case round =>
    clear p0 p1 p2 p3 p4 p5 p6 b6
    obtain ⟨k, hk, rfl, hno, hB⟩ := hrel
    have HNO := Lib.hid hno
    clear hno
    have hBE2 : Below w.heap.size w wr := HBE.out.trans (hB.mono HBE.out.size)
    by_cases hlt : k < p.reqs.length
    · obtain ⟨bb, off, q, nm, ns, f, ha, hbb, hxk, hq, c0, c1, c2, c3, c4, c5⟩ := (HR.out.step hBE2).at_ hlt
      simp only at ha
      subst ha
      have HXK := Lib.hid hxk
      have HQ := Lib.hid hq
      have HB := Lib.hid hB
      have HE := Lib.hid hBE2
      clear hxk hq hB hBE2
      cases hp : goodQ q
      all_goals
        have HP := Lib.hid hp
        clear hp
        go_wp2_with fail
        refine (dgGood_any (P := P) q nm ns f _ (HQ.out.step ((Below.refl _ _).alloc (Nat.le_refl _) _))).mono ?_
        rw [HP.out]
        rintro e w3 ⟨rfl, hb3⟩
        have hb4 : Below wr.heap.size wr w3 := ((Below.refl _ _).alloc (Nat.le_refl _) _).trans (hb3.mono (by simp))
        go_wp2_with fail
      · go_ret
        exact ⟨by rw [HA1.out (any_true HXK.out (by simp [HP.out]))]; rfl, HE.out.trans (hb4.mono HE.out.size)⟩
      · go_roundw
        case rel => exact ⟨k + 1, by omega, by go_num, step_no (p := fun q => !goodQ q) HNO.out HXK.out (by simp [HP.out]), HB.out.trans (hb4.mono HB.out.size)⟩
        case measure => simp [intOf]; omega
    · obtain rfl : k = p.reqs.length := by omega
      have HA : Hid (p.reqs.any (fun q => !goodQ q) = false) := Lib.hid (any_false (fun j hj => HNO.out j hj hj))
      have HE := Lib.hid hBE2
      clear hBE2
      go_wp2_with fail
      go_ret
      exact ⟨by rw [HA0.out HA.out]; rfl, HE.out⟩
end Go.Proofs.Ytgimpbcdgfkdmaa
