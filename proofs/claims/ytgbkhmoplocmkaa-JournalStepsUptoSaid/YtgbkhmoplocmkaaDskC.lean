/- slices.Clone, slices.Clip; the reference's Check. -/
import Derived.Test.YtgbkhmoplocmkaaDskB
namespace Go.Proofs.Ytgbkhmoplocmkaa
open Go.RowKit Go.Shelf
set_option linter.unusedSimpArgs false
set_option linter.unusedVariables false
set_option maxRecDepth 20000

theorem Try.infoByte : (Try.prog.info? 5).map (fun i => (i.zero, i.size, i.bytes)) = some (some (.int .u8 0), 1, 1) := by kernel_rfl
theorem Try.infoSl : (Try.prog.info? 35).map (fun i => (i.zero, i.size, i.bytes)) = some (some (.slice none 0 0), 1, 24) := by kernel_rfl
theorem Try.infoWr : (Try.prog.info? 76).map (fun i => (i.zero, i.size, i.bytes)) = some (some (.agg #[.int .i64 0, .slice none 0 0]), 2, 32) := by kernel_rfl

theorem eql_nil {P : Program} (w : World) (t e : TypeId) (a : Option Addr) (n c : Nat) (h : P.underlying t = some (.slice e)) : (binOp .eql t (.slice a n c) (.slice none 0 0)).run P w = .ok (.bool a.isNone) w := by
  simp only [binOp]
  simp [Op.equal, Op.maxDepth, Lib.run_equalIn_slice_nil w 9999 t e a n c 0 0 h]
theorem SlR.le {α : Type} {w : World} {P : Nat → Prop} {sz : Nat} {en : α → List Value} {s : Sl} {xs : List α} (h : SlR w P sz en s xs) : xs.length ≤ 9223372036854775807 := by
  have a := h.1
  have b := h.2.1
  have c := h.2.2.1
  unfold maxLen at c
  omega
theorem SlR.nil_cap {α : Type} {w : World} {P : Nat → Prop} {sz : Nat} {en : α → List Value} {s : Sl} {xs : List α} (h : SlR w P sz en s xs) (ha : s.a = none) : xs = [] := by
  have := h.2.2.2.1 ha
  have a := h.1
  have b := h.2.1
  exact List.eq_nil_of_length_eq_zero (by omega)

set_option maxHeartbeats 1000000 in
theorem cloneB_any {P : Nat → Prop} (xs : List Int) (s : Sl) (w : World) (h : SlR w P 1 byteE s xs) (hl : xs.length ≤ 100000) :
    Calls Try.prog 38 #[.slice s.a s.n s.c] w fun e w' => (∃ A n c, e = .returned (.slice A n c) ∧ Owns w' w.heap.size 5 1 byteE (.slice A n c) xs) ∧ Below w.heap.size w w' := by
  have hn := h.1
  have hnil := h.nil_cap
  have hcap := h.2.2.2.1
  have HX := Lib.hid h.reads
  obtain ⟨A, n, c⟩ := s
  simp only at hn hnil hcap
  subst hn
  clear h
  simp only
  obtain ⟨i0, hinf, hz0, hz1, hz2⟩ := info_parts Try.infoByte
  have HI := Lib.hid hinf
  clear hinf
  rcases A with _ | ad
  · have hx := hnil rfl
    subst hx
    have hc := hcap rfl
    subst hc
    clear hnil hcap
    have hq := eql_nil (P := Try.prog) w 35 _ none 0 0 Try.underlying35
    go_enter Try.func38, Try.ntmps38
    go_wp2_with fail
    go_ret
    exact ⟨⟨_, _, _, rfl, Owns.nil_ _ _ _ _ _⟩, Below.refl _ _⟩
  · clear hnil hcap
    have hq := eql_nil (P := Try.prog) w 35 _ (some ad) xs.length c Try.underlying35
    go_enter Try.func38, Try.ntmps38
    go_wp2_with (at_builtin; refine stop_mk ?_)
    have hO : Owns (w.alloc (.cells #[] 5)) w.heap.size 5 1 byteE (.slice (some ⟨w.heap.size, 0, none⟩) 0 0) [] := Owns.lit (ys := ([] : List Int)) byteE_len rfl (Nat.le_refl _) (by simp)
    refine stop_out (wpList_append_reads (en := byteE) (sz := 1) _ rfl _ _ _ rfl byteE_len byteE_one w.heap.size 5 i0 _ 1 Try.underlying35 HI.out hz0 hz1 hz2 rfl (by omega) _ [] rfl hO w.heap.size (some ad) c xs rfl (HX.out.alloc (Nat.le_refl _) _) (fun h => by cases h) (by simp [maxLen]; omega) (by simp; omega) (by simp) ?_)
    intro v1 w1 ho hg _ _
    have hb : Below w.heap.size w w1 := ((Below.refl _ _).alloc (Nat.le_refl _) _).grown hg (by simp) (fun q e => hO.base_le q e)
    obtain ⟨A1, c1, rfl, _, _⟩ := ho.shape
    simp only [List.nil_append] at ho
    have HO := Lib.hid ho
    clear ho hg hO
    go_wp2_with fail
    go_ret
    exact ⟨⟨_, _, _, rfl, HO.out⟩, hb⟩

set_option maxHeartbeats 1000000 in
theorem cloneS_any {P : Nat → Prop} (xs : List Sl) (s : Sl) (w : World) (h : SlR w P 1 slE s xs) (hl : xs.length ≤ 100000) :
    Calls Try.prog 69 #[.slice s.a s.n s.c] w fun e w' => (∃ A n c, e = .returned (.slice A n c) ∧ Owns w' w.heap.size 35 1 slE (.slice A n c) xs) ∧ Below w.heap.size w w' := by
  have hn := h.1
  have hnil := h.nil_cap
  have hcap := h.2.2.2.1
  have HX := Lib.hid h.reads
  obtain ⟨A, n, c⟩ := s
  simp only at hn hnil hcap
  subst hn
  clear h
  simp only
  obtain ⟨i0, hinf, hz0, hz1, hz2⟩ := info_parts Try.infoSl
  have HI := Lib.hid hinf
  clear hinf
  rcases A with _ | ad
  · have hx := hnil rfl
    subst hx
    have hc := hcap rfl
    subst hc
    clear hnil hcap
    have hq := eql_nil (P := Try.prog) w 22 _ none 0 0 Try.underlying22
    go_enter Try.func69, Try.ntmps69
    go_wp2_with fail
    go_ret
    exact ⟨⟨_, _, _, rfl, Owns.nil_ _ _ _ _ _⟩, Below.refl _ _⟩
  · clear hnil hcap
    have hq := eql_nil (P := Try.prog) w 22 _ (some ad) xs.length c Try.underlying22
    go_enter Try.func69, Try.ntmps69
    go_wp2_with (at_builtin; refine stop_mk ?_)
    have hO : Owns (w.alloc (.cells #[] 35)) w.heap.size 35 1 slE (.slice (some ⟨w.heap.size, 0, none⟩) 0 0) [] := Owns.lit (ys := ([] : List Sl)) slE_len rfl (Nat.le_refl _) (by simp)
    refine stop_out (wpList_append_reads (en := slE) (sz := 1) _ rfl _ _ _ rfl slE_len slE_one w.heap.size 35 i0 _ 24 Try.underlying22 HI.out hz0 hz1 hz2 rfl (by omega) _ [] rfl hO w.heap.size (some ad) c xs rfl (HX.out.alloc (Nat.le_refl _) _) (fun h => by cases h) (by simp [maxLen]; omega) (by simp; omega) (by simp) ?_)
    intro v1 w1 ho hg _ _
    have hb : Below w.heap.size w w1 := ((Below.refl _ _).alloc (Nat.le_refl _) _).grown hg (by simp) (fun q e => hO.base_le q e)
    obtain ⟨A1, c1, rfl, _, _⟩ := ho.shape
    simp only [List.nil_append] at ho
    have HO := Lib.hid ho
    clear ho hg hO
    go_wp2_with fail
    go_ret
    exact ⟨⟨_, _, _, rfl, HO.out⟩, hb⟩

set_option maxHeartbeats 1000000 in
theorem cloneW_any {P : Nat → Prop} (xs : List (Int × Sl)) (s : Sl) (w : World) (h : SlR w P 2 wrE s xs) (hl : xs.length ≤ 100000) :
    Calls Try.prog 53 #[.slice s.a s.n s.c] w fun e w' => (∃ A n c, e = .returned (.slice A n c) ∧ Owns w' w.heap.size 76 2 wrE (.slice A n c) xs) ∧ Below w.heap.size w w' := by
  have hn := h.1
  have hnil := h.nil_cap
  have hcap := h.2.2.2.1
  have HX := Lib.hid h.reads
  obtain ⟨A, n, c⟩ := s
  simp only at hn hnil hcap
  subst hn
  clear h
  simp only
  obtain ⟨i0, hinf, hz0, hz1, hz2⟩ := info_parts Try.infoWr
  have HI := Lib.hid hinf
  clear hinf
  rcases A with _ | ad
  · have hx := hnil rfl
    subst hx
    have hc := hcap rfl
    subst hc
    clear hnil hcap
    have hq := eql_nil (P := Try.prog) w 23 _ none 0 0 Try.underlying23
    go_enter Try.func53, Try.ntmps53
    go_wp2_with fail
    go_ret
    exact ⟨⟨_, _, _, rfl, Owns.nil_ _ _ _ _ _⟩, Below.refl _ _⟩
  · clear hnil hcap
    have hq := eql_nil (P := Try.prog) w 23 _ (some ad) xs.length c Try.underlying23
    go_enter Try.func53, Try.ntmps53
    go_wp2_with (at_builtin; refine stop_mk ?_)
    have hO : Owns (w.alloc (.cells #[] 76)) w.heap.size 76 2 wrE (.slice (some ⟨w.heap.size, 0, none⟩) 0 0) [] := Owns.lit (ys := ([] : List (Int × Sl))) wrE_len rfl (Nat.le_refl _) (by simp)
    refine stop_out (wpList_append_reads (en := wrE) (sz := 2) _ rfl _ _ _ rfl wrE_len wrE_one w.heap.size 76 i0 _ 32 Try.underlying23 HI.out hz0 hz1 hz2 rfl (by omega) _ [] rfl hO w.heap.size (some ad) c xs rfl (HX.out.alloc (Nat.le_refl _) _) (fun h => by cases h) (by simp [maxLen]; omega) (by simp; omega) (by simp) ?_)
    intro v1 w1 ho hg _ _
    have hb : Below w.heap.size w w1 := ((Below.refl _ _).alloc (Nat.le_refl _) _).grown hg (by simp) (fun q e => hO.base_le q e)
    obtain ⟨A1, c1, rfl, _, _⟩ := ho.shape
    simp only [List.nil_append] at ho
    have HO := Lib.hid ho
    clear ho hg hO
    go_wp2_with fail
    go_ret
    exact ⟨⟨_, _, _, rfl, HO.out⟩, hb⟩

set_option maxRecDepth 100000 in
set_option maxHeartbeats 4000000 in
theorem RCheck_any {P : Nat → Prop} (d : Dk) (sv pv : Sl) (w : World) (h : Di w P sv pv d) :
    Calls Try.prog 33 #[dkV sv pv d] w fun e w' => e = .returned (.int .i64 (checkD d)) ∧ Below w.heap.size w w' := by
  have hs := h.1.len
  have hp := h.2.len
  have HD := Lib.hid h
  clear h
  obtain ⟨A, n, c⟩ := sv
  obtain ⟨D, m, c2⟩ := pv
  simp only at hs hp
  subst hs hp
  unfold dkV
  simp only
  rcases sizes_ways (d := d) with ⟨hsz, hw⟩ | ⟨hsz, d1, d2, d3, d4, d5⟩
  · rw [checkD_no (valid_sizes hsz)]
    clear hsz
    rcases hw with d1 | ⟨d1, d2⟩ | ⟨d1, d2, d3⟩ | ⟨d1, d2, d3, d4⟩ | ⟨d1, d2, d3, d4, d5⟩
    all_goals
      go_enter Try.func33, Try.ntmps33
      go_wp2_with fail
      go_ret
      exact ⟨rfl, by go_grown⟩
  · have hl1 : d.secs.length ≤ 4096 := by simp at d2; omega
    have hl2 : d.pend.length ≤ 4096 := by simp at d3; omega
    obtain ⟨E, hE⟩ : ∃ E, E = checkD d := ⟨_, rfl⟩
    rw [← hE]
    have HE := Lib.hid hE
    have HSZ := Lib.hid hsz
    clear hE hsz
    go_enter Try.func33, Try.ntmps33
    go_wp2_with fail
    go_loopw [4] (fun i wr => ∃ k : Nat, k ≤ d.secs.length ∧ i = .int .i64 k ∧ (∀ j (h : j < d.secs.length), j < k → (!isSec d.secs[j]) = false) ∧ Below (w.heap.size + 1) (w.alloc (.cells #[.slice A d.secs.length c, .slice D d.pend.length c2, .int .i64 d.left, .bool d.stopped] 25)) wr) (fun i _ => d.secs.length - (intOf i).toNat)
    case atStart => exact ⟨0, Nat.zero_le _, rfl, fun _ _ h => absurd h (by omega), Below.refl _ _⟩
    case round =>
      obtain ⟨k, hk, rfl, hno, hB⟩ := hrel
      obtain ⟨c0, cz⟩ := CellAt.new w.heap.size rfl hB (by simp) 0 _ rfl
      obtain ⟨q1, _⟩ := CellAt.new w.heap.size rfl hB (by simp) 1 _ rfl
      have hG : Below w.heap.size w wr := ((Below.refl _ _).alloc (Nat.le_refl _) _).trans (hB.mono (by simp))
      have HG := Lib.hid hG
      have HB := Lib.hid hB
      have HNO := Lib.hid hno
      clear hno hB hG
      by_cases hlt : k < d.secs.length
      · obtain ⟨bb, off, v, x, ha, hbl, hxk, hby, y0⟩ := (HD.out.step HG.out).1.at_ hlt
        simp only at ha
        subst ha
        have HXK := Lib.hid hxk
        have hvn := hby.1.1
        obtain ⟨vA, vn, vc⟩ := v
        simp only at hvn y0
        subst hvn
        have hi0 : (0 : Int) ≤ (k : Int) := by omega
        clear hxk hby
        by_cases hx : x.length = 128
        · have e1 : ((x.length : Int) == 128) = true := by simp; omega
          have e2 : ((x.length : Int) != 128) = false := by simp; omega
          have HS : Hid ((!isSec x) = false) := Lib.hid (by simp [isSec, hx])
          clear hx
          go_wp2_with fail
          go_roundw
          case rel => exact ⟨k + 1, by omega, by go_num, step_no (p := fun b => !isSec b) HNO.out HXK.out HS.out, HB.out⟩
          case measure => simp [intOf]; omega
        · have e1 : ((x.length : Int) == 128) = false := by simp; omega
          have e2 : ((x.length : Int) != 128) = true := by simp; omega
          have HV : Hid (E = 450) := Lib.hid (by rw [HE.out, checkD_no]; simp [validD, any_true (p := fun b => !isSec b) HXK.out (by simp [isSec, hx])])
          clear hx
          go_wp2_with fail
          go_ret
          exact ⟨ret_int HV.out.symm, HG.out⟩
      · obtain rfl : k = d.secs.length := by omega
        have HA : Hid (d.secs.any (fun b => !isSec b) = false) := Lib.hid (any_false (fun j hj => HNO.out j hj hj))
        obtain ⟨wo, hwo⟩ : ∃ wo : World, wo = wr := ⟨_, rfl⟩
        subst hwo
        clear c0 q1 cz
        go_wp2_with fail
        go_loopw [5] (fun i wr => ∃ k : Nat, k ≤ d.pend.length ∧ i = .int .i64 k ∧ (∀ j (h : j < d.pend.length), j < k → badW d.secs.length d.pend[j] = false) ∧ Below (w.heap.size + 1) (w.alloc (.cells #[.slice A d.secs.length c, .slice D d.pend.length c2, .int .i64 d.left, .bool d.stopped] 25)) wr) (fun i _ => d.pend.length - (intOf i).toNat)
        case atStart => exact ⟨0, Nat.zero_le _, rfl, fun _ _ h => absurd h (by omega), HB.out⟩
        case round =>
          obtain ⟨k, hk, rfl, hno, hB⟩ := hrel
          obtain ⟨c0, cz⟩ := CellAt.new w.heap.size rfl hB (by simp) 0 _ rfl
          obtain ⟨q1, _⟩ := CellAt.new w.heap.size rfl hB (by simp) 1 _ rfl
          have hz := hB.size
          have hG : Below w.heap.size w wr := ((Below.refl _ _).alloc (Nat.le_refl _) _).trans (hB.mono (by simp))
          have HG := Lib.hid hG
          have HB := Lib.hid hB
          have HNO := Lib.hid hno
          clear hno hB hG
          by_cases hlt : k < d.pend.length
          · obtain ⟨bb, off, v, p, ha, hbl, hxk, hby, y0, y1⟩ := (HD.out.step HG.out).2.at_ hlt
            simp only at ha
            subst ha
            have HXK := Lib.hid hxk
            have hvn := hby.1.1
            obtain ⟨vA, vn, vc⟩ := v
            obtain ⟨px, pb⟩ := p
            simp only at hvn y0 y1
            subst hvn
            have hi0 : (0 : Int) ≤ (k : Int) := by omega
            clear hxk hby
            have hgB : w.heap.size + 1 ≤ wr.heap.size := by simpa using hz
            have hways : (badW d.secs.length (px, pb) = false ∧ decide (px < 0) = false ∧ decide ((d.secs.length : Int) ≤ px) = false ∧ ((pb.length : Int) == 128) = true ∧ ((pb.length : Int) != 128) = false) ∨
                (badW d.secs.length (px, pb) = true ∧ (decide (px < 0) = true ∨ (decide (px < 0) = false ∧ decide ((d.secs.length : Int) ≤ px) = true) ∨ (decide (px < 0) = false ∧ decide ((d.secs.length : Int) ≤ px) = false ∧ ((pb.length : Int) == 128) = false ∧ ((pb.length : Int) != 128) = true))) := by
              cases hb : badW d.secs.length (px, pb)
              · left
                simp [badW, isSec] at hb ⊢
                omega
              · right
                simp [badW, isSec] at hb ⊢
                omega
            rcases hways with ⟨hb, e1, e2, e3, e4⟩ | ⟨hb, hw⟩
            · have HS := Lib.hid hb
              clear hb
              go_wp2_with fail
              go_roundw
              case rel => exact ⟨k + 1, by omega, by go_num, step_no (p := badW d.secs.length) HNO.out HXK.out HS.out, HB.out.alloc hgB _⟩
              case measure => simp [intOf]; omega
            · have HV : Hid (E = 450) := Lib.hid (by rw [HE.out, checkD_no]; simp [validD, any_true (p := badW d.secs.length) HXK.out hb])
              clear hb
              rcases hw with e1 | ⟨e1, e2⟩ | ⟨e1, e2, e3, e4⟩
              all_goals
                go_wp2_with fail
                go_ret
                exact ⟨ret_int HV.out.symm, HG.out.alloc (by omega) _⟩
          · obtain rfl : k = d.pend.length := by omega
            have HV : Hid (E = 0) := Lib.hid (by rw [HE.out, checkD_yes]; simp [validD, HSZ.out, HA.out, any_false (p := badW d.secs.length) (fun j hj => HNO.out j hj hj)])
            go_wp2_with fail
            go_ret
            exact ⟨ret_int HV.out.symm, HG.out⟩
end Go.Proofs.Ytgbkhmoplocmkaa
