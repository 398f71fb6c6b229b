/- StampsMerge, walked. -/
import Derived.Test.YtplfeelcijnkjaaStampsL1
import Derived.Test.YtplfeelcijnkjaaStampsR
import Derived.BigRegion
namespace Go.Proofs.Ytplfeelcijnkjaa
open Go.RowKit
set_option linter.unusedSimpArgs false
set_option linter.unusedVariables false

theorem in6 (us : List St) (t p n : Int) (A : Option Addr) (c : Nat) (hl : us.length ≤ 9223372036854775807) (w : World) (hx : Reads w w.heap.size A 3 St.enc us) :
    Calls Try.prog 25 #[.slice A us.length c, .agg #[.int .i64 t, .int .i64 p, .int .i64 n]] w fun e w' => e = .returned (.bool (decide ((⟨t, p, n⟩ : St) ∈ us))) ∧ Below w.heap.size w w' := in_any us ⟨t, p, n⟩ A c w hx hl
theorem SC6m (ta ca na tb cb nb : Int) (w : World) :
    Calls Try.prog 17 #[.agg #[.int .i64 ta, .int .i64 ca, .int .i64 na], .agg #[.int .i64 tb, .int .i64 cb, .int .i64 nb]] w fun e w' => e = .returned (.int .i64 (cmpS ⟨ta, ca, na⟩ ⟨tb, cb, nb⟩)) ∧ Below w.heap.size w w' := SCompare_any ⟨ta, ca, na⟩ ⟨tb, cb, nb⟩ w
theorem pair_lt {ms : List St} (h : ms.Pairwise ltS) {k : Nat} {y x : St} (hy : ms[k]? = some y) (hx : ms[k + 1]? = some x) : cmpS y x = -1 := by
  have h1 := (List.getElem?_eq_some_iff.1 hy).1
  have h2 := (List.getElem?_eq_some_iff.1 hx).1
  have := List.pairwise_iff_getElem.1 h k (k + 1) h1 h2 (by omega)
  rw [(List.getElem?_eq_some_iff.1 hy).2, (List.getElem?_eq_some_iff.1 hx).2] at this
  unfold ltS at this
  have := cmpS_cases y x
  omega

set_option maxRecDepth 100000 in
set_option maxHeartbeats 16000000 in
theorem StampsMerge_any {w : World} (us : List St) (A : Option Addr) (c : Nat) (hx : Reads w w.heap.size A 3 St.enc us) (hq : ∀ y ∈ us, y.ok) (hlc : us.length ≤ c) (hmc : c ≤ maxLen)
    (vs : List St) (D : Option Addr) (d : Nat) (hy : Reads w w.heap.size D 3 St.enc vs) (hq2 : ∀ y ∈ vs, y.ok) (hld : vs.length ≤ d) (hmd : d ≤ maxLen) (s : St) (hs : s.ok) :
    Calls Try.prog 8 #[.slice A us.length c, .slice D vs.length d, s.v] w fun e w' => e = .returned (.bool true) ∧ Below w.heap.size w w' := by
  clear hq hq2 hs
  have HX := Lib.hid hx
  have HY := Lib.hid hy
  have HMC := Lib.hid hmc
  have HMD := Lib.hid hmd
  clear hx hy hmc hmd
  obtain ⟨ts, ps, ns⟩ := s
  by_cases h1 : us.length ≤ 40
  · have d1 : decide (us.length ≤ 40) = true := by simpa using h1
    by_cases h2 : vs.length ≤ 40
    · have d2 : decide (vs.length ≤ 40) = true := by simpa using h2
      by_cases hv : validS us = true ∧ validS vs = true
      · obtain ⟨vu, vv⟩ := hv
        have hme : mergeP us vs = (mergeL us vs, 0) := by simp [mergeP, vu, vv]
        obtain ⟨ms, hms⟩ : ∃ l, l = mergeL us vs := ⟨_, rfl⟩
        rw [← hms] at hme
        have HME := Lib.hid hme
        have hmem : ∀ x, x ∈ ms ↔ x ∈ us ∨ x ∈ vs := fun x => by rw [hms]; exact mem_mergeL us vs x
        have HMEM := Lib.hid hmem
        have hsrt : ms.Pairwise ltS := by rw [hms]; exact sorted_mergeL (validS_iff.1 vu).2 (validS_iff.1 vv).2
        have HSRT := Lib.hid hsrt
        clear hme hms hmem hsrt vu vv
        unfold St.v
        simp only
        go_enter Try.func8, Try.ntmps8
        go_wp2_with fail
        refine (sane_any _).mono ?_
        rintro e w1 ⟨rfl, hb1⟩
        go_wp2_with fail
        refine (few_any us A c _).mono ?_
        rw [d1]
        rintro e w2 ⟨rfl, rfl⟩
        go_wp2_with fail
        refine (few_any vs D d _).mono ?_
        rw [d2]
        rintro e w2 ⟨rfl, rfl⟩
        go_wp2_with fail
        have G1 := hb1.mono (B' := w.heap.size + 1) (by simp)
        have z1 : w.heap.size + 1 ≤ w1.heap.size := by have := hb1.size; simpa using this
        have G1w : Below w.heap.size w w1 := ((Below.refl _ _).alloc (Nat.le_refl _) _).trans (hb1.mono (by simp))
        clear hb1
        refine (Merge_any us vs A D c d _ ((HX.out.below G1w).more G1w.size) ((HY.out.below G1w).more G1w.size) hlc hld HMC.out HMD.out (by omega)).mono ?_
        rw [HME.out]
        rintro e w2 ⟨⟨vl, rfl, ho⟩, hb2⟩
        obtain ⟨Al, cl, rfl, _, hml⟩ := ho.shape
        have G2 := G1.trans (hb2.mono z1)
        have G2w := G1w.trans (hb2.mono G1w.size)
        have z2 : w.heap.size + 1 ≤ w2.heap.size := Nat.le_trans z1 hb2.size
        have HLW := Lib.hid (ho.reads St.enc_len)
        have HG := Lib.hid G2
        have HGw := Lib.hid G2w
        unfold maxLen at hml
        clear hb2 ho G1 G1w G2 G2w z1
        go_wp2_with fail
        go_loopw [9] (fun i wr => ∃ k : Nat, k ≤ ms.length ∧ i = .int .i64 k ∧ Below w2.heap.size w2 wr) (fun i _ => ms.length - (intOf i).toNat)
        case atStart => exact ⟨0, Nat.zero_le _, rfl, Below.refl _ _⟩
        case round =>
          obtain ⟨k, hk, rfl, hB⟩ := hrel
          have hBw := HGw.out.trans (hB.mono HGw.out.size)
          have HLr := Lib.hid ((HLW.out.below hB).more hB.size)
          have HXr := Lib.hid ((HX.out.below hBw).more hBw.size)
          have HYr := Lib.hid ((HY.out.below hBw).more hBw.size)
          have HB1 := Lib.hid hB
          have hzr := hB.size
          clear hB hBw
          by_cases hlt : k < ms.length
          · obtain ⟨bl, ol, x, rfl, hbl, hxk, hca⟩ := HLr.out.at_ hlt
            have x0 := hca 0 _ rfl
            have x1 := hca 1 _ rfl
            have x2 := hca 2 _ rfl
            simp only [Nat.add_zero] at x0
            have hmx := (HMEM.out x).1 (List.mem_of_getElem? hxk)
            have IA := Lib.hid (in6 us x.time x.campus x.no A c (by omega))
            have IB := Lib.hid (in6 vs x.time x.campus x.no D d (by omega))
            have hab : decide ((⟨x.time, x.campus, x.no⟩ : St) ∈ us) = true ∨ (decide ((⟨x.time, x.campus, x.no⟩ : St) ∈ us) = false ∧ decide ((⟨x.time, x.campus, x.no⟩ : St) ∈ vs) = true) := by
              by_cases h : x ∈ us
              · left; simpa using h
              · right; exact ⟨by simpa using h, by rcases hmx with h2 | h2; exact absurd h2 h; simpa using h2⟩
            rcases Nat.eq_zero_or_pos k with rfl | hk0
            · simp only [Nat.zero_mul, Nat.add_zero] at x0 x1 x2
              clear hca hxk hmx
              rcases hab with hA | ⟨hA, hB⟩
              · have HA := Lib.hid hA
                clear hA
                go_wp2_with fail
                refine wp_region_below (by kernel_rfl) (by kernel_rfl) ?_
                repeat (first
                  | go_big_quiet_skip
                  | (go_big_quiet_want
                     first
                       | (apply quiet_val
                          focus (
                            intro WC hWC
                            obtain ⟨hcc0, hff0⟩ := bcell hWC
                            go_simp
                            all_goals rfl
                            done)
                          go_simp
                          go_big_quiet_on)
                       | (apply quiet_call
                          focus (
                            intro WC hWC
                            go_simp
                            all_goals (first | rfl | exact ⟨rfl, rfl⟩)
                            done)
                          focus (
                            intro WC hWC
                            (with_reducible refine Calls.mono (IA.out WC ((HXr.out.below hWC).more hWC.size)) ?_; exact fun e w' h => ⟨by rw [h.1, HA.out], hWC.trans (h.2.mono hWC.size)⟩)
                            done)
                          go_simp
                          go_big_quiet_on)))
                refine wpQuiet_nil ?_
                intro w5 hw5
                go_wp2_with fail
                go_roundw
                case rel => exact ⟨1, by omega, by go_num, HB1.out.trans (hw5.mono HB1.out.size)⟩
                case measure => simp [intOf]; omega
              · have HA := Lib.hid hA
                have HB := Lib.hid hB
                clear hA hB
                go_wp2_with fail
                refine wp_region_below (by kernel_rfl) (by kernel_rfl) ?_
                repeat (first
                  | go_big_quiet_skip
                  | (go_big_quiet_want
                     first
                       | (apply quiet_val
                          focus (
                            intro WC hWC
                            obtain ⟨hcc0, hff0⟩ := bcell hWC
                            go_simp
                            all_goals rfl
                            done)
                          go_simp
                          go_big_quiet_on)
                       | (apply quiet_call
                          focus (
                            intro WC hWC
                            go_simp
                            all_goals (first | rfl | exact ⟨rfl, rfl⟩)
                            done)
                          focus (
                            intro WC hWC
                            (with_reducible refine Calls.mono (IA.out WC ((HXr.out.below hWC).more hWC.size)) ?_; exact fun e w' h => ⟨by rw [h.1, HA.out], hWC.trans (h.2.mono hWC.size)⟩)
                            done)
                          go_simp
                          go_big_quiet_on)
                       | (apply quiet_call
                          focus (
                            intro WC hWC
                            go_simp
                            all_goals (first | rfl | exact ⟨rfl, rfl⟩)
                            done)
                          focus (
                            intro WC hWC
                            (with_reducible refine Calls.mono (IB.out WC ((HYr.out.below hWC).more hWC.size)) ?_; exact fun e w' h => ⟨by rw [h.1, HB.out], hWC.trans (h.2.mono hWC.size)⟩)
                            done)
                          go_simp
                          go_big_quiet_on)))
                refine wpQuiet_nil ?_
                intro w5 hw5
                go_wp2_with fail
                go_roundw
                case rel => exact ⟨1, by omega, by go_num, HB1.out.trans (hw5.mono HB1.out.size)⟩
                case measure => simp [intOf]; omega
            · obtain ⟨b2, o2, y, hA2, _, hyk, hd⟩ := HLr.out.at_ (k := k - 1) (by omega)
              simp only [Option.some.injEq, Addr.mk.injEq, and_true] at hA2
              obtain ⟨rfl, rfl⟩ := hA2
              have y0 := hd 0 _ rfl
              have y1 := hd 1 _ rfl
              have y2 := hd 2 _ rfl
              simp only [Nat.add_zero] at y0
              have hk1 : (1 : Int) ≤ k := by omega
              have hc : cmpS y x = -1 := by
                obtain ⟨j, rfl⟩ : ∃ j, k = j + 1 := ⟨k - 1, by omega⟩
                exact pair_lt HSRT.out hyk hxk
              have HC : Hid (cmpS ⟨y.time, y.campus, y.no⟩ ⟨x.time, x.campus, x.no⟩ = -1) := Lib.hid hc
              clear hca hxk hmx hd hyk hc
              rcases hab with hA | ⟨hA, hB⟩
              · have HA := Lib.hid hA
                clear hA
                go_wp2_with fail
                have e1 : IntKind.i64.wrap ((k : Int) - 1) = (k : Int) - 1 := IntWalk.i64_in _ (by omega)
                have e2 : ((k : Int) - 1).toNat = k - 1 := by omega
                have e3 : (k : Int) - 1 < ms.length := by omega
                refine wp_region_below (by kernel_rfl) (by kernel_rfl) ?_
                repeat (first
                  | go_big_quiet_skip
                  | (go_big_quiet_want
                     first
                       | (apply quiet_val
                          focus (
                            intro WC hWC
                            obtain ⟨hcc0, hff0⟩ := bcell hWC
                            go_simp
                            all_goals rfl
                            done)
                          go_simp
                          go_big_quiet_on)
                       | (apply quiet_call
                          focus (
                            intro WC hWC
                            go_simp
                            all_goals (first | rfl | exact ⟨rfl, rfl⟩)
                            done)
                          focus (
                            intro WC hWC
                            (with_reducible refine Calls.mono (IA.out WC ((HXr.out.below hWC).more hWC.size)) ?_; exact fun e w' h => ⟨by rw [h.1, HA.out], hWC.trans (h.2.mono hWC.size)⟩)
                            done)
                          go_simp
                          go_big_quiet_on)
                       | (apply quiet_call
                          focus (
                            intro WC hWC
                            go_simp
                            all_goals (first | rfl | exact ⟨rfl, rfl⟩)
                            done)
                          focus (
                            intro WC hWC
                            (with_reducible refine Calls.mono (SC6m y.time y.campus y.no x.time x.campus x.no WC) ?_; exact fun e w' h => ⟨by rw [h.1, HC.out], hWC.trans (h.2.mono hWC.size)⟩)
                            done)
                          go_simp
                          go_big_quiet_on)))
                refine wpQuiet_nil ?_
                intro w5 hw5
                clear e1 e2 e3
                go_wp2_with fail
                go_roundw
                case rel => exact ⟨k + 1, by omega, by go_num, HB1.out.trans (hw5.mono HB1.out.size)⟩
                case measure => simp [intOf]; omega
              · have HA := Lib.hid hA
                have HB := Lib.hid hB
                clear hA hB
                go_wp2_with fail
                have e1 : IntKind.i64.wrap ((k : Int) - 1) = (k : Int) - 1 := IntWalk.i64_in _ (by omega)
                have e2 : ((k : Int) - 1).toNat = k - 1 := by omega
                have e3 : (k : Int) - 1 < ms.length := by omega
                refine wp_region_below (by kernel_rfl) (by kernel_rfl) ?_
                repeat (first
                  | go_big_quiet_skip
                  | (go_big_quiet_want
                     first
                       | (apply quiet_val
                          focus (
                            intro WC hWC
                            obtain ⟨hcc0, hff0⟩ := bcell hWC
                            go_simp
                            all_goals rfl
                            done)
                          go_simp
                          go_big_quiet_on)
                       | (apply quiet_call
                          focus (
                            intro WC hWC
                            go_simp
                            all_goals (first | rfl | exact ⟨rfl, rfl⟩)
                            done)
                          focus (
                            intro WC hWC
                            (with_reducible refine Calls.mono (IA.out WC ((HXr.out.below hWC).more hWC.size)) ?_; exact fun e w' h => ⟨by rw [h.1, HA.out], hWC.trans (h.2.mono hWC.size)⟩)
                            done)
                          go_simp
                          go_big_quiet_on)
                       | (apply quiet_call
                          focus (
                            intro WC hWC
                            go_simp
                            all_goals (first | rfl | exact ⟨rfl, rfl⟩)
                            done)
                          focus (
                            intro WC hWC
                            (with_reducible refine Calls.mono (IB.out WC ((HYr.out.below hWC).more hWC.size)) ?_; exact fun e w' h => ⟨by rw [h.1, HB.out], hWC.trans (h.2.mono hWC.size)⟩)
                            done)
                          go_simp
                          go_big_quiet_on)
                       | (apply quiet_call
                          focus (
                            intro WC hWC
                            go_simp
                            all_goals (first | rfl | exact ⟨rfl, rfl⟩)
                            done)
                          focus (
                            intro WC hWC
                            (with_reducible refine Calls.mono (SC6m y.time y.campus y.no x.time x.campus x.no WC) ?_; exact fun e w' h => ⟨by rw [h.1, HC.out], hWC.trans (h.2.mono hWC.size)⟩)
                            done)
                          go_simp
                          go_big_quiet_on)))
                refine wpQuiet_nil ?_
                intro w5 hw5
                clear e1 e2 e3
                go_wp2_with fail
                go_roundw
                case rel => exact ⟨k + 1, by omega, by go_num, HB1.out.trans (hw5.mono HB1.out.size)⟩
                case measure => simp [intOf]; omega
          · obtain rfl : k = ms.length := by omega
            go_wp2_with fail
            clear HLr HXr HYr hzr
            go_loopw [10] (fun i wr => ∃ k : Nat, k ≤ us.length ∧ i = .int .i64 k ∧ Below w2.heap.size w2 wr) (fun i _ => us.length - (intOf i).toNat)
            case atStart => exact ⟨0, Nat.zero_le _, rfl, HB1.out⟩
            case round =>
              clear HB1
              obtain ⟨k, hk, rfl, hB⟩ := hrel
              have hBw := HGw.out.trans (hB.mono HGw.out.size)
              have HLr := Lib.hid ((HLW.out.below hB).more hB.size)
              have HXr := Lib.hid ((HX.out.below hBw).more hBw.size)
              have HYr := Lib.hid ((HY.out.below hBw).more hBw.size)
              have HB1 := Lib.hid hB
              have hzr := hB.size
              obtain ⟨_, sc, _, hsz, _⟩ := below_new (HG.out.trans (hB.mono z2))
              have s0 := sc 0
              have s1 := sc 1
              have s2 := sc 2
              simp at s0 s1 s2
              clear hB sc
              by_cases hlt : k < us.length
              · obtain ⟨bl, ol, x, rfl, hbl, hxk, hca⟩ := HXr.out.at_ hlt
                have x0 := hca 0 _ rfl
                have x1 := hca 1 _ rfl
                have x2 := hca 2 _ rfl
                simp only [Nat.add_zero] at x0
                have hmx : decide ((⟨x.time, x.campus, x.no⟩ : St) ∈ ms) = true := by have := (HMEM.out x).2 (.inl (List.mem_of_getElem? hxk)); simpa using this
                have HL := Lib.hid hmx
                clear hca hxk hmx hBw
                go_wp2_with fail
                refine (in6 ms x.time x.campus x.no Al cl (by omega) _ HLr.out).mono ?_
                rw [HL.out]
                rintro e w5 ⟨rfl, hb5⟩
                go_wp2_with fail
                go_roundw
                case rel => exact ⟨k + 1, by omega, by go_num, HB1.out.trans (hb5.mono HB1.out.size)⟩
                case measure => simp [intOf]; omega
              · obtain rfl : k = us.length := by omega
                have IA := Lib.hid (in6 us ts ps ns A c (by omega))
                have IB := Lib.hid (in6 vs ts ps ns D d (by omega))
                have IL := Lib.hid (in6 ms ts ps ns Al cl (by omega))
                have HBW := Lib.hid hBw
                clear hBw
                have habc : (decide ((⟨ts, ps, ns⟩ : St) ∈ ms) = true ∧ decide ((⟨ts, ps, ns⟩ : St) ∈ us) = true ∧ decide ((⟨ts, ps, ns⟩ : St) ∈ vs) = decide ((⟨ts, ps, ns⟩ : St) ∈ vs)) ∨ (decide ((⟨ts, ps, ns⟩ : St) ∈ ms) = true ∧ decide ((⟨ts, ps, ns⟩ : St) ∈ us) = false ∧ decide ((⟨ts, ps, ns⟩ : St) ∈ vs) = true) ∨ (decide ((⟨ts, ps, ns⟩ : St) ∈ ms) = false ∧ decide ((⟨ts, ps, ns⟩ : St) ∈ us) = false ∧ decide ((⟨ts, ps, ns⟩ : St) ∈ vs) = false) := by
                  have := HMEM.out ⟨ts, ps, ns⟩
                  by_cases g1 : (⟨ts, ps, ns⟩ : St) ∈ us <;> by_cases g2 : (⟨ts, ps, ns⟩ : St) ∈ vs <;> simp [g1, g2] at this ⊢ <;> exact this
                rcases habc with ⟨hL, hA, hB⟩ | ⟨hL, hA, hB⟩ | ⟨hL, hA, hB⟩
                all_goals
                  have HL := Lib.hid hL
                  have HA := Lib.hid hA
                  have HB := Lib.hid hB
                  clear hL hA hB
                  go_wp2_with fail
                  refine wp_region_below (by kernel_rfl) (by kernel_rfl) ?_
                  repeat (first
                    | go_big_quiet_skip
                    | (go_big_quiet_want
                       first
                         | (apply quiet_val
                            focus (
                              intro WC hWC
                              obtain ⟨hcc0, hff0⟩ := bcell hWC
                              go_simp
                              all_goals rfl
                              done)
                            go_simp
                            go_big_quiet_on)
                         | (apply quiet_call
                            focus (
                              intro WC hWC
                              go_simp
                              all_goals (first | rfl | exact ⟨rfl, rfl⟩)
                              done)
                            focus (
                              intro WC hWC
                              (with_reducible refine Calls.mono (IA.out WC ((HXr.out.below hWC).more hWC.size)) ?_; exact fun e w' h => ⟨by rw [h.1, HA.out], hWC.trans (h.2.mono hWC.size)⟩)
                              done)
                            go_simp
                            go_big_quiet_on)
                         | (apply quiet_call
                            focus (
                              intro WC hWC
                              go_simp
                              all_goals (first | rfl | exact ⟨rfl, rfl⟩)
                              done)
                            focus (
                              intro WC hWC
                              (with_reducible refine Calls.mono (IB.out WC ((HYr.out.below hWC).more hWC.size)) ?_; exact fun e w' h => ⟨by rw [h.1, HB.out], hWC.trans (h.2.mono hWC.size)⟩)
                              done)
                            go_simp
                            go_big_quiet_on)
                         | (apply quiet_call
                            focus (
                              intro WC hWC
                              go_simp
                              all_goals (first | rfl | exact ⟨rfl, rfl⟩)
                              done)
                            focus (
                              intro WC hWC
                              (with_reducible refine Calls.mono (IL.out WC ((HLr.out.below hWC).more hWC.size)) ?_; exact fun e w' h => ⟨by rw [h.1, HL.out], hWC.trans (h.2.mono hWC.size)⟩)
                              done)
                            go_simp
                            go_big_quiet_on)))
                  refine wpQuiet_nil ?_
                  intro w5 hw5
                  go_wp2_with fail
                  go_ret
                  exact ⟨rfl, HBW.out.trans (hw5.mono HBW.out.size)⟩
      · have hme : mergeP us vs = ([], 80) := by
          unfold mergeP
          rw [if_neg]
          intro h
          exact hv (by simpa using h)
        have HME := Lib.hid hme
        clear hme hv
        unfold St.v
        simp only
        go_enter Try.func8, Try.ntmps8
        go_wp2_with fail
        refine (sane_any _).mono ?_
        rintro e w1 ⟨rfl, hb1⟩
        go_wp2_with fail
        refine (few_any us A c _).mono ?_
        rw [d1]
        rintro e w2 ⟨rfl, rfl⟩
        go_wp2_with fail
        refine (few_any vs D d _).mono ?_
        rw [d2]
        rintro e w2 ⟨rfl, rfl⟩
        go_wp2_with fail
        have G1 := hb1.mono (B' := w.heap.size + 1) (by simp)
        have z1 : w.heap.size + 1 ≤ w1.heap.size := by have := hb1.size; simpa using this
        have G1w : Below w.heap.size w w1 := ((Below.refl _ _).alloc (Nat.le_refl _) _).trans (hb1.mono (by simp))
        clear hb1
        refine (Merge_any us vs A D c d _ ((HX.out.below G1w).more G1w.size) ((HY.out.below G1w).more G1w.size) hlc hld HMC.out HMD.out (by omega)).mono ?_
        rw [HME.out]
        rintro e w2 ⟨⟨vl, rfl, ho⟩, hb2⟩
        obtain ⟨Al, cl, rfl, _, hml⟩ := ho.shape
        have G2 := G1.trans (hb2.mono z1)
        have G2w := G1w.trans (hb2.mono G1w.size)
        have z2 : w.heap.size + 1 ≤ w2.heap.size := Nat.le_trans z1 hb2.size
        go_wp2_with fail
        go_ret
        exact ⟨rfl, G2w⟩
    · have d2 : decide (vs.length ≤ 40) = false := by simpa using h2
      clear h1 h2
      unfold St.v
      simp only
      go_enter Try.func8, Try.ntmps8
      go_wp2_with fail
      refine (sane_any _).mono ?_
      rintro e w1 ⟨rfl, hb1⟩
      go_wp2_with fail
      refine (few_any us A c _).mono ?_
      rw [d1]
      rintro e w2 ⟨rfl, rfl⟩
      go_wp2_with fail
      refine (few_any vs D d _).mono ?_
      rw [d2]
      rintro e w2 ⟨rfl, rfl⟩
      go_wp2_with fail
      go_ret
      exact ⟨rfl, ((Below.refl _ _).alloc (Nat.le_refl _) _).trans (hb1.mono (by simp))⟩
  · have d1 : decide (us.length ≤ 40) = false := by simpa using h1
    clear h1
    unfold St.v
    simp only
    go_enter Try.func8, Try.ntmps8
    go_wp2_with fail
    refine (sane_any _).mono ?_
    rintro e w1 ⟨rfl, hb1⟩
    go_wp2_with fail
    refine (few_any us A c _).mono ?_
    rw [d1]
    rintro e w2 ⟨rfl, rfl⟩
    go_wp2_with fail
    go_ret
    exact ⟨rfl, ((Below.refl _ _).alloc (Nat.le_refl _) _).trans (hb1.mono (by simp))⟩
end Go.Proofs.Ytplfeelcijnkjaa
