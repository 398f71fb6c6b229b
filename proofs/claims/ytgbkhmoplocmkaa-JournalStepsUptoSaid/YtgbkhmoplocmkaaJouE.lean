/- Journals: bytes.Equal; the form of a sector, by the program. -/
import Derived.Test.YtgbkhmoplocmkaaJouD
import Derived.Test.YtgbkhmoplocmkaaDskO
import Derived.Lib.Bytes
namespace Go.Proofs.Ytgbkhmoplocmkaa
open Go.RowKit Go.Shelf
set_option linter.unusedSimpArgs false
set_option linter.unusedVariables false
set_option maxRecDepth 20000

theorem back_byte {n : Int} (h : 0 ≤ n ∧ n < 256) : ((UInt8.ofNat n.toNat).toNat : Int) = n := by
  rw [UInt8.toNat_ofNat']
  omega
theorem strOf_inj {xs ys : List Int} (hx : ∀ b ∈ xs, 0 ≤ b ∧ b < 256) (hy : ∀ b ∈ ys, 0 ≤ b ∧ b < 256) (h : strOfNums xs = strOfNums ys) : xs = ys := by
  have h1 : (strOfNums xs).data.toList = (strOfNums ys).data.toList := by rw [h]
  rw [strOfNums_data, strOfNums_data] at h1
  have h2 := congrArg (List.map (fun u : UInt8 => (u.toNat : Int))) h1
  rw [List.map_map, List.map_map] at h2
  have e : ∀ zs : List Int, (∀ b ∈ zs, 0 ≤ b ∧ b < 256) → zs.map ((fun u : UInt8 => (u.toNat : Int)) ∘ fun n => UInt8.ofNat n.toNat) = zs := by
    intro zs hz
    conv => rhs; rw [← List.map_id zs]
    exact List.map_congr_left fun b hb => back_byte (hz b hb)
  rw [e xs hx, e ys hy] at h2
  exact h2
theorem strOf_beq {xs ys : List Int} (hx : ∀ b ∈ xs, 0 ≤ b ∧ b < 256) (hy : ∀ b ∈ ys, 0 ≤ b ∧ b < 256) : ((strOfNums xs).toList == (strOfNums ys).toList) = decide (xs = ys) := by
  by_cases h : xs = ys
  · rw [h]; simp
  · rw [decide_eq_false h]
    cases e : ((strOfNums xs).toList == (strOfNums ys).toList)
    · rfl
    · refine absurd (strOf_inj hx hy ?_) h
      have e1 : (strOfNums xs).toList = (strOfNums ys).toList := by simpa using e
      rw [Lib.strOfNums_toList, Lib.strOfNums_toList] at e1
      have e2 : (strOfNums xs).data.toList = (strOfNums ys).data.toList := e1
      exact ByteArray.ext (Array.ext' e2)
theorem strOf_dec {xs ys : List Int} (hx : ∀ b ∈ xs, 0 ≤ b ∧ b < 256) (hy : ∀ b ∈ ys, 0 ≤ b ∧ b < 256) : decide (strOfNums xs = strOfNums ys) = decide (xs = ys) := by
  by_cases h : xs = ys
  · rw [h]; simp
  · rw [decide_eq_false h, decide_eq_false (fun e => h (strOf_inj hx hy e))]
theorem equal_any {P Q : Nat → Prop} (u v : Sl) (xs ys : List Int) (w : World) (hx : By w P u xs) (hy : By w Q v ys) :
    Calls Try.prog 43 #[.slice u.a u.n u.c, .slice v.a v.n v.c] w fun e w' => e = .returned (.bool (decide (xs = ys))) ∧ w = w' := by
  have h1 := conv_by hx
  have h2 := conv_by hy
  have hd := strOf_beq hx.2 hy.2
  have HD := Lib.hid hd
  clear hd
  generalize strOfNums xs = X at *
  generalize strOfNums ys = Y at *
  go_enter Try.func43, Try.ntmps43
  go_wp2_with fail
  go_ret
  exact ⟨ret_bool HD.out, rfl⟩

theorem run_slice_mid {P : Program} {t e : TypeId} {i : TypeInfo} (ht : P.underlying t = some (.slice e)) (hi : P.info? e = some i) (A : Option Addr) (n c : Nat) (k k2 : IntKind) (lo hh : Int) (h0 : 0 ≤ lo) (h1 : lo ≤ hh) (h2 : hh ≤ c) (W : World) :
    (Instr.slice t (.slice A n c) (some (.int k lo)) (some (.int k2 hh)) none).run P W = .ok (.slice (if c = lo.toNat then A else A.map (·.add (lo.toNat * i.size))) (hh.toNat - lo.toNat) (c - lo.toNat)) W := by
  have eh : (hh.toNat : Int) = hh := Int.toNat_of_nonneg (by omega)
  simp [Instr.slice, run_underlying ht, Instr.sliceBounds, run_sliceBound, eh, h0, h1, h2, (by omega : 0 ≤ hh), sizeOf, typeInfo, hi]
/-- a part of bytes, as a slice -/
theorem By.sub {w : World} {P : Nat → Prop} {b off n c : Nat} {bs : List Int} (h : By w P ⟨some ⟨b, off, none⟩, n, c⟩ bs) (lo m : Nat) (hm : lo + m ≤ bs.length) : By w P ⟨some ⟨b, off + lo, none⟩, m, c - lo⟩ ((bs.drop lo).take m) := by
  obtain ⟨⟨h1, h2, h3, h4, h5, h6⟩, h7⟩ := h
  simp only at h1 h2 h3 h4 h5 h6
  refine ⟨⟨by simp; omega, by simp only; omega, by simp only; omega, (fun h => by cases h), fun hp => ?_, fun hp a e => ?_⟩, fun x hx => h7 x (List.mem_of_mem_drop (List.mem_of_mem_take hx))⟩
  · simp at hp
    obtain ⟨b', off', e, hb, hc⟩ := h5 (by omega)
    cases e
    refine ⟨b, off + lo, rfl, hb, fun i x j v hi hj => ?_⟩
    rw [List.getElem?_take] at hi
    split at hi
    case isFalse => cases hi
    case isTrue hlt =>
      rw [List.getElem?_drop] at hi
      have := hc (lo + i) x j v hi hj
      rw [← this]
      congr 2
      omega
  · simp at hp
    cases e
    exact h6 (by omega) ⟨b, off, none⟩ rfl

/-- what the kind and the length of a piece must be -/
def shapeOk (n m : Int) : Bool := !(decide (112 < n) || (decide (3 < m) || ((bits .and .u8 m 2 == 0 && decide (n < 112)) || (bits .and .u8 m 1 == 0 && n == 0))))
/-- the form of a sector -/
def goodB (bs : List Int) (k : Int) : Bool :=
  shapeOk (bs.getD 11 0) (bs.getD 10 0) && (decide (0 < numB (bs.take 4)) && decide (bs = encB (numB (bs.take 4)) k (bs.getD 10 0) ((bs.drop 12).take (bs.getD 11 0).toNat)))

set_option maxHeartbeats 1000000 in
theorem good_any {P : Nat → Prop} (v : Sl) (bs : List Int) (k : Int) (w : World) (h : By w P v bs) (hl : bs.length = 128) (hk : 0 ≤ k ∧ k < 65536) :
    Calls Try.prog 61 #[.slice v.a v.n v.c, .int .i64 k] w fun e w' => e = .returned (.bool (goodB bs k)) ∧ Below w.heap.size w w' := by
  obtain ⟨A, n, c⟩ := v
  obtain rfl : n = bs.length := h.1.1
  obtain ⟨b, off, n, ha, hbl, hx11, hn0, hn1, hc11⟩ := h.at_ (k := 11) (by omega)
  obtain ⟨b', off', m, ha', _, hx10, hm0, hm1, hc10⟩ := h.at_ (k := 10) (by omega)
  simp only at ha ha'
  rw [ha] at ha'
  cases ha'
  subst ha
  have hcc : 128 ≤ c := by have := h.1.2.1; simp only at this; omega
  have HB := Lib.hid h
  clear h
  obtain ⟨E, hE⟩ : ∃ E, E = goodB bs k := ⟨_, rfl⟩
  rw [← hE]
  have hE2 : E = (shapeOk n m && (decide (0 < numB (bs.take 4)) && decide (bs = encB (numB (bs.take 4)) k m ((bs.drop 12).take n.toNat)))) := by
    rw [hE]
    unfold goodB
    rw [List.getD_eq_getElem?_getD, List.getD_eq_getElem?_getD, hx11, hx10]
    rfl
  have HE := Lib.hid hE2
  have HX11 := Lib.hid hx11
  have HX10 := Lib.hid hx10
  clear hE hE2 hx11 hx10
  simp only
  rw [hl]
  rw [hl] at HB
  have HL := Lib.hid hl
  clear hl
  go_enter Try.func61, Try.ntmps61
  go_upto_region 2 with fail
  go_cut [40] (fun t wx => t = .bool (!shapeOk n m) ∧ wx = w)
  case first =>
    go_wp2_with fail
    all_goals
      go_meet
      refine ⟨?_, rfl⟩
      unfold shapeOk
      refine congrArg Value.bool ?_
      rw [Bool.eq_iff_iff]
      simp only [Bool.not_not, Bool.not_true, Bool.not_false, Bool.or_eq_true, Bool.and_eq_true, decide_eq_true_eq, beq_iff_eq, Bool.true_eq_false, Bool.false_eq_true, true_iff, false_iff, iff_true, iff_false]
      omega
  case rest =>
    obtain ⟨w2, hwc⟩ : ∃ X, X = wc := ⟨_, rfl⟩
    subst hwc
    obtain ⟨rfl, rfl⟩ := hcut
    cases hs : shapeOk n m
    · have HE2 : Hid (E = false) := Lib.hid (by rw [HE.out, hs]; rfl)
      obtain rfl : E = false := HE2.out
      clear HE HE2 hs
      go_wp2_with fail
      go_ret
      exact ⟨rfl, Below.refl _ _⟩
    · have hn112 : n ≤ 112 := by unfold shapeOk at hs; simp at hs; omega
      have HE2 : Hid (E = (decide (0 < numB (bs.take 4)) && decide (bs = encB (numB (bs.take 4)) k m ((bs.drop 12).take n.toNat)))) := Lib.hid (by rw [HE.out, hs]; rfl)
      clear HE hs
      obtain ⟨g, hg⟩ : ∃ g, g = numB (bs.take 4) := ⟨_, rfl⟩
      have hg0 := numB_lt7 (bs.take 4) (fun b hb => HB.out.2 b (List.mem_of_mem_take hb)) (by simp; omega)
      rw [← hg] at hg0 HE2
      have HGT : Hid (Calls Try.prog 41 #[.slice (some ⟨b, off, none⟩) 4 c] w2 fun e w' => e = .returned (.int .u64 g) ∧ w2 = w') := Lib.hid (by
        have h1 := HB.out.sub 0 4 (by rw [HL.out]; omega)
        rw [hg]
        exact get_any ⟨some ⟨b, off, none⟩, 4, c⟩ (bs.take 4) w2 (by simpa using h1) (by simp; omega))
      have HQ := Lib.hid hg
      clear hg
      go_wp2_with fail
      refine HGT.out.mono ?_
      rintro e w1 ⟨rfl, rfl⟩
      by_cases hgp : 0 < g
      · have HD : Hid (E = decide (bs = encB g k m ((bs.drop 12).take n.toNat))) := Lib.hid (by rw [HE2.out, decide_eq_true hgp]; rfl)
        obtain ⟨ps, hps⟩ : ∃ ps, ps = (bs.drop 12).take n.toNat := ⟨_, rfl⟩
        have hpl : ps.length = n.toNat := by rw [hps]; have := HL.out; simp; omega
        have HEN : Hid (∀ W, Below w2.heap.size w2 W → Calls Try.prog 44 #[.int .u64 g, .int .i64 k, .int .u8 m, .slice (some ⟨b, off + 12, none⟩) n.toNat (c - 12)] W fun e w' => e = .returned (.slice (some ⟨W.heap.size, 0, none⟩) 128 128) ∧ Bk w' 89 W.heap.size (encB g k m ps) ∧ Below W.heap.size W w') := Lib.hid (by
          intro W hW
          have h1 := (HB.out.step hW).sub 12 n.toNat (by rw [HL.out]; omega)
          rw [← hps] at h1
          exact encode_any g k m ⟨some ⟨b, off + 12, none⟩, n.toNat, c - 12⟩ ps W h1 (by omega) ⟨hg0.1, by omega⟩ ⟨hk.1, by omega⟩ ⟨hm0, hm1⟩)
        have HEQ : Hid (∀ W G, Below w2.heap.size w2 W → Bk W 89 G (encB g k m ps) → Calls Try.prog 43 #[.slice (some ⟨b, off, none⟩) 128 c, .slice (some ⟨G, 0, none⟩) 128 128] W fun e w' => e = .returned (.bool E) ∧ W = w') := Lib.hid (by
          intro W G hW hG
          have hpb : ∀ x ∈ ps, 0 ≤ x ∧ x < 256 := fun x hx => HB.out.2 x (by rw [hps] at hx; exact List.mem_of_mem_drop (List.mem_of_mem_take hx))
          have hbl := enc_len g k m (bs := ps) (by omega)
          have h1 := hG.by_ 0 128 128 (by rw [hbl]; omega) (by omega) (by simp [maxLen]) (fun _ => True) trivial (enc_byte g k m (by omega) ⟨hm0, hm1⟩ hpb)
          rw [List.drop_zero, List.take_of_length_le (by rw [hbl]; omega)] at h1
          have h2 := equal_any ⟨some ⟨b, off, none⟩, 128, c⟩ ⟨some ⟨G, 0, none⟩, 128, 128⟩ bs (encB g k m ps) W (HB.out.step hW) h1
          rw [hps, ← HD.out] at h2
          exact h2)
        have hW1 : Below w2.heap.size w2 w2.drew := (Below.refl _ _).drew
        have hdg : decide (0 < g) = true := decide_eq_true hgp
        have hnn : (n.toNat : Int) = n := by omega
        obtain ⟨info, hinf, hz0, hz1, hz2⟩ := info_parts Try.infoByte
        have hsl : ∀ W, (Instr.slice 35 (.slice (some ⟨b, off, none⟩) 128 c) (some (.int .i64 12)) (some (.int .i64 (12 + n))) none).run Try.prog W = .ok (.slice (some ⟨b, off + 12, none⟩) n.toNat (c - 12)) W := fun W => by
          have := run_slice_mid (P := Try.prog) Try.underlying35 hinf (some ⟨b, off, none⟩) 128 c .i64 .i64 12 (12 + n) (by omega) (by omega) (by omega) W
          rw [this, hz1, if_neg (by omega)]
          simp [Go.WideShapes.add_plain]
          omega
        have HD2 := Lib.hid hpl
        clear hps hpl hgp hinf hz0 hz1 hz2 hnn
        go_wp2_with fail
        have hwr : IntKind.i64.wrap (12 + n) = 12 + n := by rw [IntWalk.i64_left]; exact IntWalk.wrap64_in _ ⟨by omega, by omega⟩
        have SS : Hid (∀ W, Below w2.heap.size w2 W → (fun W => W.cell? ⟨b, off + 10, none⟩ = some (.int .u8 m)) W) := Lib.hid (fun W hW => (hW.cell (p := ⟨b, off + 10, none⟩) hbl).trans hc10)
        clear HGT HE2 HD2
        go_region_held3 (fun W => W.cell? ⟨b, off + 10, none⟩ = some (.int .u8 m)) (first | with_reducible exact SS.out _ hW1 | with_reducible exact SS.out _ (hW1.trans (hw6.mono hW1.size))) (first | ((with_reducible refine Calls.mono (HEN.out _ hW1) ?_); rintro e w6 ⟨rfl, hb6', hw6⟩; have hb6 : Bk w6 89 w2.heap.size (encB g k m ps) := hb6') | (with_reducible refine Calls.mono (HEQ.out _ _ (hW1.trans (hw6.mono hW1.size)) hb6) ?_; rintro e w7 ⟨rfl, rfl⟩))
        all_goals
          go_simp
          go_wp2_with fail
          go_ret
          exact ⟨rfl, hW1.trans (hw6.mono hW1.size)⟩
      · have hdg : decide (0 < g) = false := decide_eq_false hgp
        have HD : Hid (E = false) := Lib.hid (by rw [HE2.out, decide_eq_false hgp]; rfl)
        obtain rfl : E = false := HD.out
        clear HE2 HD hgp
        go_wp2_with fail
        go_quiet (fail)
        go_wp2_with fail
        go_ret
        exact ⟨rfl, below_drewN (Below.refl _ _) _⟩
end Go.Proofs.Ytgbkhmoplocmkaa
