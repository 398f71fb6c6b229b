/- The reference's Mean. -/
import Derived.Test.YtaogcmgbmomilaaRatH
namespace Go.Proofs.Ytaogcmgbmomilaa
open Go.RowKit Go.Shelf
set_option linter.unusedSimpArgs false
set_option linter.unusedVariables false

theorem all_zero : ∀ l : List (Int × Int), (∀ x ∈ l, badP x = false) → sW l = 0 → sVW l = 0
  | [], _, _ => rfl
  | x :: l, h, hz => by
    obtain ⟨h1, h2, h3, h4⟩ := sums_le l (fun y hy => h y (List.mem_cons_of_mem _ hy))
    obtain ⟨g1, g2, g3, g4⟩ := good_pair (h x (List.mem_cons_self ..))
    simp only [sW] at hz
    have e1 : x.2 = 0 := by omega
    have e2 := all_zero l (fun y hy => h y (List.mem_cons_of_mem _ hy)) (by omega)
    simp only [sVW, e1, e2]; omega
theorem zip_at {us vs : List Int} {k : Nat} {x y : Int} (h1 : us[k]? = some x) (h2 : vs[k]? = some y) : (us.zip vs)[k]? = some (x, y) := by
  rw [List.getElem?_zip_eq_some]; exact ⟨h1, h2⟩
theorem take_at {α : Type} {l : List α} {k : Nat} {x : α} (h : l[k]? = some x) : l.take (k + 1) = l.take k ++ [x] := by
  have hl := (List.getElem?_eq_some_iff.1 h).1
  rw [List.take_succ_eq_append_getElem hl, (List.getElem?_eq_some_iff.1 h).2]
theorem newP_one : newP 0 1 = (⟨0, 1⟩, 0) := by decide +kernel

set_option maxRecDepth 100000 in
set_option maxHeartbeats 8000000 in
theorem RMean_any (us vs : List Int) (A D : Option Addr) (c d : Nat) (w : World) (hx : Reads w w.heap.size A 1 intE us) (hy : Reads w w.heap.size D 1 intE vs) (hm : us.length ≤ 100000) :
    Calls Try.prog 23 #[.slice A us.length c, .slice D vs.length d] w fun e w' => e = .returned (.tuple #[(meanP us vs).1.v, .int .i64 (meanP us vs).2]) ∧ Below w.heap.size w w' := by
  have HX := Lib.hid hx
  have HY := Lib.hid hy
  clear hx hy
  by_cases hlen : us.length = vs.length
  · obtain ⟨⟨⟨n, d'⟩, E⟩, hr⟩ : ∃ r, r = meanP us vs := ⟨_, rfl⟩
    rw [← hr]
    have HR := Lib.hid hr
    have HL := Lib.hid hlen
    have q1 : ((us.length : Int) == (vs.length : Int)) = true := by simp [hlen]
    clear hr hlen
    simp only [Ra.v]
    go_enter Try.func23, Try.ntmps23
    go_wp2_with fail
    go_loopw [8] (fun i wr => ∃ k : Nat, k ≤ us.length ∧ i = .int .i64 k ∧ (∀ x ∈ (us.zip vs).take k, badP x = false) ∧ Below (w.heap.size + 1) (w.alloc (.cells #[.int .i64 0, .int .i64 0] 23)) wr) (fun i _ => us.length - (intOf i).toNat)
    case atStart => exact ⟨0, Nat.zero_le _, rfl, fun x h => absurd h (by simp), Below.refl _ _⟩
    case round =>
      obtain ⟨k, hk, rfl, hno, hB⟩ := hrel
      obtain ⟨hb0, hc, hf, hz, hz2⟩ := below_new hB
      have l0 := hc 0
      have l1 := hc 1
      have lf0 := hf 0
      have lf1 := hf 1
      simp at l0 l1
      have HB := Lib.hid hB
      have HB0 := Lib.hid hb0
      have HNO := Lib.hid hno
      clear hB hc hf hno
      by_cases hlt : k < us.length
      · have hl2 : k < vs.length := by have := HL.out; omega
        obtain ⟨ba, oa, x, rfl, hba, hxk, hca⟩ := (HX.out.below hb0).at_ hlt
        obtain ⟨bb, ob, y, rfl, hbb, hyk, hcb⟩ := (HY.out.below hb0).at_ hl2
        have a0 := hca 0 _ rfl
        have b0 := hcb 0 _ rfl
        simp only [Nat.add_zero, Nat.mul_one] at a0 b0
        have hzk := zip_at hxk hyk
        have HZK := Lib.hid hzk
        clear hca hcb hb0 hxk hyk hzk
        cases hbad : badP (x, y)
        · obtain ⟨g1, g2, g3, g4⟩ := good_pair hbad
          simp only at g1 g2 g3 g4
          have d1 : decide (x < -1048576) = false := by simp; omega
          have d2 : decide (1048576 < x) = false := by simp; omega
          have d3 : decide (y < 0) = false := by simp; omega
          have d4 : decide (1048576 < y) = false := by simp; omega
          have HBAD := Lib.hid hbad
          clear hbad
          go_wp2_with fail
          go_roundw
          case rel => exact ⟨k + 1, by omega, by go_num, fun z hz => by
            rw [take_at HZK.out] at hz
            rcases List.mem_append.1 hz with h | h
            · exact HNO.out z h
            · obtain rfl := List.mem_singleton.1 h
              exact HBAD.out, HB.out⟩
          case measure => simp [intOf]; omega
        · have hany : (us.zip vs).any badP = true := List.any_eq_true.2 ⟨_, List.mem_of_getElem? HZK.out, hbad⟩
          have hme : (⟨n, d'⟩, E) = ((⟨0, 0⟩, 1) : Ra × Int) := by
            rw [HR.out, meanP, if_pos HL.out, hany]; rfl
          simp only [Prod.mk.injEq, Ra.mk.injEq] at hme
          obtain ⟨⟨rfl, rfl⟩, rfl⟩ := hme
          have hcase : decide (x < -1048576) = true ∨ (decide (x < -1048576) = false ∧ decide (1048576 < x) = true) ∨ (decide (x < -1048576) = false ∧ decide (1048576 < x) = false ∧ decide (y < 0) = true) ∨ (decide (x < -1048576) = false ∧ decide (1048576 < x) = false ∧ decide (y < 0) = false ∧ decide (1048576 < y) = true) := by
            simp [badP] at hbad
            simp
            omega
          clear hbad hany
          rcases hcase with d1 | ⟨d1, d2⟩ | ⟨d1, d2, d3⟩ | ⟨d1, d2, d3, d4⟩
          all_goals
            go_wp2_with fail
            have hB0 := HB0.out
            have hc := setB (setA ⟨l0, l1⟩ (.int .i64 0)) (.int .i64 0)
            exact bodyPost_ret (v := .tuple #[.agg #[.int .i64 0, .int .i64 0], .int .i64 1]) (by simp [results, Try.results23, go_sem, hc.1, hc.2, l0, l1, hz]) rfl ⟨rfl, by go_grown⟩
      · obtain rfl : k = us.length := by omega
        have hno := HNO.out
        rw [List.take_of_length_le (by simp; omega)] at hno
        have HN2 := Lib.hid hno
        have q2 : decide ((1048576 : Int) < (us.length : Int)) = false := by simp; omega
        clear hb0 hno
        go_wp2_with fail
        go_loopw [6, 7, 9] (fun s t i wr => ∃ k : Nat, k ≤ us.length ∧ i = .int .i64 k ∧ s = .int .i64 (sVW ((us.zip vs).take k)) ∧ t = .int .i64 (sW ((us.zip vs).take k)) ∧ Below (w.heap.size + 1) (w.alloc (.cells #[.int .i64 0, .int .i64 0] 23)) wr) (fun _ _ i _ => us.length - (intOf i).toNat)
        case atStart => exact ⟨0, Nat.zero_le _, rfl, rfl, rfl, HB.out⟩
        case round =>
          clear l0 l1 lf0 lf1 hz hz2 HB0 HNO
          obtain ⟨k, hk, rfl, rfl, rfl, hB⟩ := hrel
          obtain ⟨hb0, hc, hf, hz, hz2⟩ := below_new hB
          have l0 := hc 0
          have l1 := hc 1
          have lf0 := hf 0
          have lf1 := hf 1
          simp at l0 l1
          obtain ⟨b1, b2, b3, b4⟩ := sums_le ((us.zip vs).take k) (fun x h => HN2.out x (List.mem_of_mem_take h))
          have htl : ((us.zip vs).take k).length ≤ 100000 := by simp; omega
          obtain ⟨sv, hsv⟩ : ∃ s, s = sVW ((us.zip vs).take k) := ⟨_, rfl⟩
          obtain ⟨sw, hsw⟩ : ∃ s, s = sW ((us.zip vs).take k) := ⟨_, rfl⟩
          rw [← hsv] at b1 b2
          rw [← hsw] at b3 b4
          rw [← hsv, ← hsw]
          have HSV := Lib.hid hsv
          have HSW := Lib.hid hsw
          have HB2 := Lib.hid hB
          have HB3 := Lib.hid hb0
          have c1 : -109951162777600000 ≤ sv := by omega
          have c2 : sv ≤ 109951162777600000 := by omega
          have c3 : sw ≤ 104857600000 := by omega
          clear hB hc hf hsv hsw b1 b2 b4 htl
          by_cases hlt : k < us.length
          · have hl2 : k < vs.length := by have := HL.out; omega
            obtain ⟨ba, oa, x, rfl, hba, hxk, hca⟩ := (HX.out.below hb0).at_ hlt
            obtain ⟨bb, ob, y, rfl, hbb, hyk, hcb⟩ := (HY.out.below hb0).at_ hl2
            have a0 := hca 0 _ rfl
            have b0 := hcb 0 _ rfl
            simp only [Nat.add_zero, Nat.mul_one] at a0 b0
            have hzk := zip_at hxk hyk
            have hbad := HN2.out _ (List.mem_of_getElem? hzk)
            have HZK := Lib.hid hzk
            obtain ⟨g1, g2, g3, g4⟩ := good_pair hbad
            obtain ⟨p1, p2⟩ := prod_pair hbad
            simp only at g1 g2 g3 g4 p1 p2
            obtain ⟨P, hP⟩ : ∃ P, x * y = P := ⟨_, rfl⟩
            rw [hP] at p1 p2
            have hba2 : ba < wr.heap.size := by omega
            have hbb2 : bb < wr.heap.size := by omega
            have hS : sVW ((us.zip vs).take (k + 1)) = sv + P := by rw [take_at HZK.out, sVW_snoc, ← HSV.out]; show sv + x * y = sv + P; rw [hP]
            have hT : sW ((us.zip vs).take (k + 1)) = sw + y := by rw [take_at HZK.out, sW_snoc, ← HSW.out]
            have HS := Lib.hid hS
            have HT := Lib.hid hT
            clear hca hcb hb0 hxk hyk hzk hbad hS hT
            go_wp2_with fail
            go_region
            go_wp2_with fail
            go_roundw
            case rel => exact ⟨k + 1, by omega, by go_num, by rw [HS.out], by rw [HT.out], HB2.out.drew⟩
            case measure => simp [intOf]; omega
          · obtain rfl : k = us.length := by omega
            have hsv := HSV.out
            have hsw := HSW.out
            rw [List.take_of_length_le (by simp; omega)] at hsv hsw
            have hnb : (us.zip vs).any badP = false := by
              rw [List.any_eq_false]
              intro x hx
              simp [HN2.out x hx]
            have hnew : newP sv (max sw 1) = (⟨n, d'⟩, E) := by
              rw [HR.out, meanP, if_pos HL.out, hnb, hsv, hsw]; rfl
            clear hb0
            by_cases hz0 : sw = 0
            · subst hz0
              have hsz : sv = 0 := by rw [hsv]; exact all_zero _ HN2.out hsw.symm
              rw [hsz, show max (0 : Int) 1 = 1 from rfl, newP_one] at hnew
              simp only [Prod.mk.injEq, Ra.mk.injEq] at hnew
              obtain ⟨⟨rfl, rfl⟩, rfl⟩ := hnew
              clear hsv hsw hnb hsz
              go_wp2_with fail
              have hB0 := HB3.out
              have hc := setB (setA ⟨l0, l1⟩ (.int .i64 0)) (.int .i64 1)
              exact bodyPost_ret (v := .tuple #[.agg #[.int .i64 0, .int .i64 1], .int .i64 0]) (by simp [results, Try.results23, go_sem, hc.1, hc.2, l0, l1, hz]) rfl ⟨rfl, by go_grown⟩
            · have q3 : (sw == 0) = false := by simpa using hz0
              rw [show max sw 1 = sw from by omega] at hnew
              have HNEW := Lib.hid hnew
              clear hsv hsw hnb hnew hz0
              go_wp2_with fail
              refine Calls.mono (RNew_any _ _ ?_ ?_ _) ?_
              · exact I64_of (by omega) (by omega)
              · exact I64_of (by omega) (by omega)
              rw [HNEW.out]
              simp only [Ra.v]
              rintro e w9 ⟨rfl, hb9⟩
              have m0 := (hb9.cell (p := ⟨w.heap.size, 0, none⟩) hz).trans l0
              have m1 := (hb9.cell (p := ⟨w.heap.size, 1, none⟩) hz).trans l1
              have mf0 := (hb9.frozen (p := ⟨w.heap.size, 0, none⟩) hz).trans lf0
              have mf1 := (hb9.frozen (p := ⟨w.heap.size, 1, none⟩) hz).trans lf1
              have z9 : w.heap.size < w9.heap.size := Nat.lt_of_lt_of_le hz hb9.size
              have hB9 := HB3.out.trans (hb9.mono hz2)
              clear hb9 l0 l1 lf0 lf1
              go_wp2_with fail
              have hc := setB (setA ⟨m0, m1⟩ (.int .i64 n)) (.int .i64 d')
              exact bodyPost_ret (v := .tuple #[.agg #[.int .i64 n, .int .i64 d'], .int .i64 E]) (by simp [results, Try.results23, go_sem, hc.1, hc.2, m0, m1, z9]) rfl ⟨rfl, by go_grown⟩
  · have hp : meanP us vs = (⟨0, 0⟩, 1) := by simp [meanP, hlen]
    rw [hp]
    have q1 : ((us.length : Int) == (vs.length : Int)) = false := by simp; omega
    clear hp hlen
    go_enter Try.func23, Try.ntmps23
    go_wp2_with fail
    exact bodyPost_ret (v := .tuple #[.agg #[.int .i64 0, .int .i64 0], .int .i64 1]) (by simp [results, Try.results23, go_sem]) rfl ⟨rfl, by go_grown⟩
end Go.Proofs.Ytaogcmgbmomilaa
