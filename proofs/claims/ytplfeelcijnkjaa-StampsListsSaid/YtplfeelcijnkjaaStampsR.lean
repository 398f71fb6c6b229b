/- The reference's Merge, walked. -/
import Derived.Test.YtplfeelcijnkjaaStampsG
import Derived.BigRegion
namespace Go.Proofs.Ytplfeelcijnkjaa
open Go.RowKit
set_option linter.unusedSimpArgs false
set_option linter.unusedVariables false

theorem drop_get {α : Type} {l : List α} {k : Nat} {x : α} (h : l[k]? = some x) : l.drop k = x :: l.drop (k + 1) := by
  have hl := (List.getElem?_eq_some_iff.1 h).1
  rw [List.drop_eq_getElem_cons hl, (List.getElem?_eq_some_iff.1 h).2]
theorem eq_parts {x y : St} (h : x ≠ y) : (x.time == y.time) = false ∨ ((x.time == y.time) = true ∧ (x.campus == y.campus) = false) ∨ ((x.time == y.time) = true ∧ (x.campus == y.campus) = true ∧ (x.no == y.no) = false) := by
  obtain ⟨tx, cx, nx⟩ := x
  obtain ⟨ty, cy, ny⟩ := y
  simp only [ne_eq, St.mk.injEq] at h
  simp
  omega

set_option maxRecDepth 100000 in
set_option maxHeartbeats 16000000 in
theorem RMerge_any (us vs : List St) (A D : Option Addr) (c d : Nat) (w : World) (hx : Reads w w.heap.size A 3 St.enc us) (hy : Reads w w.heap.size D 3 St.enc vs) (hm : us.length + vs.length ≤ 1000) :
    Calls Try.prog 23 #[.slice A us.length c, .slice D vs.length d] w fun e w' => (∃ v, e = .returned (.tuple #[v, .int .i64 (mergeP us vs).2]) ∧ Owns w' w.heap.size 23 3 St.enc v (mergeP us vs).1) ∧ Below w.heap.size w w' := by
  have HX := Lib.hid hx
  have HY := Lib.hid hy
  have HM0 := Lib.hid hm
  have hu1 : us.length ≤ 1000 := by omega
  have hv1 : vs.length ≤ 1000 := by omega
  clear hx hy hm
  cases hu : validS us
  · have hp : mergeP us vs = ([], 80) := by simp [mergeP, hu]
    rw [hp]
    have HU := Lib.hid hu
    clear hp hu
    go_enter Try.func23, Try.ntmps23
    go_wp2_with fail
    refine (RValid_any us A c _ HX.out (by omega)).mono ?_
    rw [HU.out]
    rintro e w1 ⟨rfl, hb1⟩
    go_wp2_with fail
    go_ret2
    exact ⟨⟨_, rfl, Owns.nil_ _ _ _ _ _⟩, hb1⟩
  · cases hv : validS vs
    · have hp : mergeP us vs = ([], 80) := by simp [mergeP, hv]
      rw [hp]
      have HU := Lib.hid hu
      have HV := Lib.hid hv
      clear hp hu hv
      go_enter Try.func23, Try.ntmps23
      go_wp2_with fail
      refine (RValid_any us A c _ HX.out (by omega)).mono ?_
      rw [HU.out]
      rintro e w1 ⟨rfl, hb1⟩
      go_wp2_with fail
      refine (RValid_any vs D d _ ((HY.out.below hb1).more hb1.size) (by omega)).mono ?_
      rw [HV.out]
      rintro e w2 ⟨rfl, hb2⟩
      go_wp2_with fail
      go_ret2
      exact ⟨⟨_, rfl, Owns.nil_ _ _ _ _ _⟩, hb1.trans (hb2.mono hb1.size)⟩
    · have hp : mergeP us vs = (mergeL us vs, 0) := by simp [mergeP, hu, hv]
      rw [hp]
      have HU := Lib.hid hu
      have HV := Lib.hid hv
      clear hp hu hv
      obtain ⟨i0, hi0, hz0, hz1, hz2⟩ := info_parts Try.infoSt
      have HI := Lib.hid hi0
      clear hi0
      go_enter Try.func23, Try.ntmps23
      go_wp2_with fail
      refine (RValid_any us A c _ HX.out (by omega)).mono ?_
      rw [HU.out]
      rintro e w1 ⟨rfl, hb1⟩
      go_wp2_with fail
      refine (RValid_any vs D d _ ((HY.out.below hb1).more hb1.size) (by omega)).mono ?_
      rw [HV.out]
      rintro e w2 ⟨rfl, hb2⟩
      have G2 := hb1.trans (hb2.mono hb1.size)
      have HG2 := Lib.hid G2
      clear hb1 hb2 G2
      go_wp2_with fail
      go_loopw [6, 7, 8] (fun lv iv kv wr => ∃ (pre : List St) (i k : Nat), iv = .int .i64 i ∧ kv = .int .i64 k ∧ i ≤ us.length ∧ k ≤ vs.length ∧ pre ++ mergeL (us.drop i) (vs.drop k) = mergeL us vs ∧ Owns wr w.heap.size 23 3 St.enc lv pre ∧ Below w.heap.size w wr)
        (fun _ iv kv _ => us.length + vs.length - ((intOf iv).toNat + (intOf kv).toNat))
      case atStart => exact ⟨[], 0, 0, rfl, rfl, Nat.zero_le _, Nat.zero_le _, by simp, Owns.nil_ _ _ _ _ _, HG2.out⟩
      case round =>
        obtain ⟨pre, i, k, rfl, rfl, hi, hk, hpm, how, hb⟩ := hrel
        have hpl : pre.length ≤ 1000 := by
          have h1 := length_mergeL us vs
          rw [← hpm] at h1
          have := HM0.out
          simp at h1; omega
        have HPM := Lib.hid hpm
        have hsz := hb.size
        have HB := Lib.hid hb
        have HXr := Lib.hid (HX.out.below hb)
        have HYr := Lib.hid (HY.out.below hb)
        obtain ⟨Av, cv, rfl, _, _⟩ := how.shape
        have HOW := Lib.hid how
        have hb1000 : us.length + vs.length ≤ 1000 := HM0.out
        clear hpm hb how
        by_cases hil : i < us.length
        · obtain ⟨ba, oa, x, rfl, hba, hxk, hca⟩ := HXr.out.at_ hil
          have a0 := hca 0 _ rfl
          have a1 := hca 1 _ rfl
          have a2 := hca 2 _ rfl
          simp only [Nat.add_zero] at a0
          clear hca
          have hba2 : ba < wr.heap.size := by omega
          have HDX := Lib.hid (drop_get hxk)
          clear hxk
          by_cases hkl : k < vs.length
          · obtain ⟨bb, ob, y, rfl, hbb, hyk, hcb⟩ := HYr.out.at_ hkl
            have b0 := hcb 0 _ rfl
            have b1 := hcb 1 _ rfl
            have b2 := hcb 2 _ rfl
            simp only [Nat.add_zero] at b0
            clear hcb
            have hbb2 : bb < wr.heap.size := by omega
            have HDY := Lib.hid (drop_get hyk)
            clear hyk
            have q1 : ((k : Int) == (vs.length : Int)) = false := by simp; omega
            have hlt : cmpS x y < 0 ∨ 0 < cmpS x y ∨ cmpS x y = 0 := by omega
            rcases hlt with hlt | hlt | hlt
            · have hle : cmpS x y ≤ 0 := by omega
              have HLT := Lib.hid hlt
              clear hlt
              have hne : x ≠ y := fun e => by have := cmpS_zero.2 e; have := HLT.out; omega
              have hpar := eq_parts hne
              have HPAR := Lib.hid hpar
              clear hne hpar
              go_wp2_with fail
              refine wp_region_below (by kernel_rfl) (by kernel_rfl) ?_
              repeat (first
                | go_big_quiet_skip
                | (go_big_quiet_want
                   first
                     | (apply quiet_val
                        focus (
                          intro WC hWC
                          obtain ⟨hcc0, hff0⟩ := bcell hWC
                          go_simp
                          all_goals rfl
                          done)
                        go_simp
                        go_big_quiet_on)
                     | (apply quiet_call
                        focus (
                          intro WC hWC
                          go_simp
                          all_goals (first | rfl | exact ⟨rfl, rfl⟩)
                          done)
                        focus (
                          intro WC hWC
                          exact (RCompare_any x y WC).mono fun e w' h => ⟨h.1, hWC.trans (h.2.mono hWC.size)⟩
                          done)
                        go_simp
                        go_big_quiet_on)))
              refine wpQuiet_nil ?_
              intro w5 hw5
              have zp := hw5.size
              have pa0 := (hw5.cell (p := ⟨ba, _, none⟩) hba2).trans a0
              have pa1 := (hw5.cell (p := ⟨ba, _, none⟩) hba2).trans a1
              have pa2 := (hw5.cell (p := ⟨ba, _, none⟩) hba2).trans a2
              have hbap : ba < w5.heap.size := by omega
              have pb0 := (hw5.cell (p := ⟨bb, _, none⟩) hbb2).trans b0
              have pb1 := (hw5.cell (p := ⟨bb, _, none⟩) hbb2).trans b1
              have pb2 := (hw5.cell (p := ⟨bb, _, none⟩) hbb2).trans b2
              have hbbp : bb < w5.heap.size := by omega
              clear hle q1
              rcases HPAR.out with hq | ⟨hq1, hq⟩ | ⟨hq1, hq2, hq⟩
              all_goals
                go_wp2_with fail
                refine wp_region_below (by kernel_rfl) (by kernel_rfl) ?_
                repeat (first
                  | go_big_quiet_skip
                  | (go_big_quiet_want
                     first
                       | (apply quiet_val
                          focus (
                            intro WC hWC
                            obtain ⟨hcc0, hff0⟩ := bcell hWC
                            go_simp
                            all_goals rfl
                            done)
                          go_simp
                          go_big_quiet_on)))
                refine wpQuiet_nil ?_
                intro w6 hw6
                have hw56 := hw5.trans (hw6.mono hw5.size)
                have zr := hw56.size
                have ra0 := (hw56.cell (p := ⟨ba, _, none⟩) hba2).trans a0
                have ra1 := (hw56.cell (p := ⟨ba, _, none⟩) hba2).trans a1
                have ra2 := (hw56.cell (p := ⟨ba, _, none⟩) hba2).trans a2
                have hbar : ba < w6.heap.size := by omega
                clear hq
                go_wp2_with (at_builtin; refine stop_mk ?_)
                have hBW : Below w.heap.size w w6 := HB.out.trans (hw56.mono hsz)
                have hsW := hBW.size
                have how6 := HOW.out.below hw56 (Nat.le_refl _)
                refine stop_out (wpList_append_reads (en := St.enc) (sz := 3) _ rfl _ _ _ rfl St.enc_len St.enc_one w.heap.size 23 i0 _ 24 Try.underlying33 HI.out hz0 hz1 hz2 rfl (by omega) (.slice Av pre.length cv) pre rfl (how6.alloc _) (w6.heap.size + 1) (some ⟨w6.heap.size, 0, none⟩) 1 [x] rfl (reads_one w6 St.enc x _ _ rfl 3 w6.heap.size rfl) (fun h => by cases h) (by simp [maxLen]; omega) (by simp; omega) (by simp; omega) ?_)
                intro v1 w9 hown1 hg1 hat1 _
                have hb9 : Below w.heap.size w w9 := (hBW.alloc hsW _).grown hg1 (by simp; omega) how6.base_le
                clear hg1 hat1 how6 hBW
                have HOW1 := Lib.hid hown1
                clear hown1
                go_wp2_with fail
                go_roundw
                case rel => exact ⟨pre ++ [x], i + 1, k, by go_num, by go_num, by omega, by omega, by rw [← HPM.out, List.append_assoc, HDX.out, HDY.out, mergeL_lt HLT.out]; rfl, HOW1.out, hb9⟩
                case measure => simp [intOf]; omega
            · have hle : ¬ cmpS x y ≤ 0 := by omega
              have HLT := Lib.hid hlt
              clear hlt
              go_wp2_with fail
              refine wp_region_below (by kernel_rfl) (by kernel_rfl) ?_
              repeat (first
                | go_big_quiet_skip
                | (go_big_quiet_want
                   first
                     | (apply quiet_val
                        focus (
                          intro WC hWC
                          obtain ⟨hcc0, hff0⟩ := bcell hWC
                          go_simp
                          all_goals rfl
                          done)
                        go_simp
                        go_big_quiet_on)
                     | (apply quiet_call
                        focus (
                          intro WC hWC
                          go_simp
                          all_goals (first | rfl | exact ⟨rfl, rfl⟩)
                          done)
                        focus (
                          intro WC hWC
                          exact (RCompare_any x y WC).mono fun e w' h => ⟨h.1, hWC.trans (h.2.mono hWC.size)⟩
                          done)
                        go_simp
                        go_big_quiet_on)))
              refine wpQuiet_nil ?_
              intro w5 hw5
              have zr := hw5.size
              have ra0 := (hw5.cell (p := ⟨ba, _, none⟩) hba2).trans a0
              have ra1 := (hw5.cell (p := ⟨ba, _, none⟩) hba2).trans a1
              have ra2 := (hw5.cell (p := ⟨ba, _, none⟩) hba2).trans a2
              have hbar : ba < w5.heap.size := by omega
              have rb0 := (hw5.cell (p := ⟨bb, _, none⟩) hbb2).trans b0
              have rb1 := (hw5.cell (p := ⟨bb, _, none⟩) hbb2).trans b1
              have rb2 := (hw5.cell (p := ⟨bb, _, none⟩) hbb2).trans b2
              have hbbr : bb < w5.heap.size := by omega
              go_wp2_with (at_builtin; refine stop_mk ?_)
              have hBW : Below w.heap.size w w5 := HB.out.trans (hw5.mono hsz)
              have hsW := hBW.size
              have how6 := HOW.out.below hw5 (Nat.le_refl _)
              refine stop_out (wpList_append_reads (en := St.enc) (sz := 3) _ rfl _ _ _ rfl St.enc_len St.enc_one w.heap.size 23 i0 _ 24 Try.underlying33 HI.out hz0 hz1 hz2 rfl (by omega) (.slice Av pre.length cv) pre rfl (how6.alloc _) (w5.heap.size + 1) (some ⟨w5.heap.size, 0, none⟩) 1 [y] rfl (reads_one w5 St.enc y _ _ rfl 3 w5.heap.size rfl) (fun h => by cases h) (by simp [maxLen]; omega) (by simp; omega) (by simp; omega) ?_)
              intro v1 w9 hown1 hg1 hat1 _
              have hb9 : Below w.heap.size w w9 := (hBW.alloc hsW _).grown hg1 (by simp; omega) how6.base_le
              clear hg1 hat1 how6 hBW
              have HOW1 := Lib.hid hown1
              clear hown1
              go_wp2_with fail
              go_roundw
              case rel => exact ⟨pre ++ [y], i, k + 1, by go_num, by go_num, by omega, by omega, by rw [← HPM.out, List.append_assoc, HDX.out, HDY.out, mergeL_gt HLT.out]; rfl, HOW1.out, hb9⟩
              case measure => simp [intOf]; omega
            · have hle : cmpS x y ≤ 0 := by omega
              have HLT := Lib.hid hlt
              clear hlt
              have heq : x = y := cmpS_zero.1 HLT.out
              subst heq
              go_wp2_with fail
              refine wp_region_below (by kernel_rfl) (by kernel_rfl) ?_
              repeat (first
                | go_big_quiet_skip
                | (go_big_quiet_want
                   first
                     | (apply quiet_val
                        focus (
                          intro WC hWC
                          obtain ⟨hcc0, hff0⟩ := bcell hWC
                          go_simp
                          all_goals rfl
                          done)
                        go_simp
                        go_big_quiet_on)
                     | (apply quiet_call
                        focus (
                          intro WC hWC
                          go_simp
                          all_goals (first | rfl | exact ⟨rfl, rfl⟩)
                          done)
                        focus (
                          intro WC hWC
                          exact (RCompare_any x x WC).mono fun e w' h => ⟨h.1, hWC.trans (h.2.mono hWC.size)⟩
                          done)
                        go_simp
                        go_big_quiet_on)))
              refine wpQuiet_nil ?_
              intro w5 hw5
              have zp := hw5.size
              have pa0 := (hw5.cell (p := ⟨ba, _, none⟩) hba2).trans a0
              have pa1 := (hw5.cell (p := ⟨ba, _, none⟩) hba2).trans a1
              have pa2 := (hw5.cell (p := ⟨ba, _, none⟩) hba2).trans a2
              have hbap : ba < w5.heap.size := by omega
              have pb0 := (hw5.cell (p := ⟨bb, _, none⟩) hbb2).trans b0
              have pb1 := (hw5.cell (p := ⟨bb, _, none⟩) hbb2).trans b1
              have pb2 := (hw5.cell (p := ⟨bb, _, none⟩) hbb2).trans b2
              have hbbp : bb < w5.heap.size := by omega
              go_wp2_with fail
              refine wp_region_below (by kernel_rfl) (by kernel_rfl) ?_
              repeat (first
                | go_big_quiet_skip
                | (go_big_quiet_want
                   first
                     | (apply quiet_val
                        focus (
                          intro WC hWC
                          obtain ⟨hcc0, hff0⟩ := bcell hWC
                          go_simp
                          all_goals rfl
                          done)
                        go_simp
                        go_big_quiet_on)))
              refine wpQuiet_nil ?_
              intro w6 hw6
              have hw56 := hw5.trans (hw6.mono hw5.size)
              have zr := hw56.size
              have ra0 := (hw56.cell (p := ⟨ba, _, none⟩) hba2).trans a0
              have ra1 := (hw56.cell (p := ⟨ba, _, none⟩) hba2).trans a1
              have ra2 := (hw56.cell (p := ⟨ba, _, none⟩) hba2).trans a2
              have hbar : ba < w6.heap.size := by omega
              have rb0 := (hw56.cell (p := ⟨bb, _, none⟩) hbb2).trans b0
              have rb1 := (hw56.cell (p := ⟨bb, _, none⟩) hbb2).trans b1
              have rb2 := (hw56.cell (p := ⟨bb, _, none⟩) hbb2).trans b2
              have hbbr : bb < w6.heap.size := by omega
              go_wp2_with (at_builtin; refine stop_mk ?_)
              have hBW : Below w.heap.size w w6 := HB.out.trans (hw56.mono hsz)
              have hsW := hBW.size
              have how6 := HOW.out.below hw56 (Nat.le_refl _)
              refine stop_out (wpList_append_reads (en := St.enc) (sz := 3) _ rfl _ _ _ rfl St.enc_len St.enc_one w.heap.size 23 i0 _ 24 Try.underlying33 HI.out hz0 hz1 hz2 rfl (by omega) (.slice Av pre.length cv) pre rfl (how6.alloc _) (w6.heap.size + 1) (some ⟨w6.heap.size, 0, none⟩) 1 [x] rfl (reads_one w6 St.enc x _ _ rfl 3 w6.heap.size rfl) (fun h => by cases h) (by simp [maxLen]; omega) (by simp; omega) (by simp; omega) ?_)
              intro v1 w9 hown1 hg1 hat1 _
              have hb9 : Below w.heap.size w w9 := (hBW.alloc hsW _).grown hg1 (by simp; omega) how6.base_le
              clear hg1 hat1 how6 hBW
              have HOW1 := Lib.hid hown1
              clear hown1
              go_wp2_with fail
              go_roundw
              case rel => exact ⟨pre ++ [x], i + 1, k + 1, by go_num, by go_num, by omega, by omega, by rw [← HPM.out, List.append_assoc, HDX.out, HDY.out, mergeL_eq HLT.out]; rfl, HOW1.out, hb9⟩
              case measure => simp [intOf]; omega
          · obtain rfl : k = vs.length := by omega
            go_wp2_with fail
            refine wp_region_below (by kernel_rfl) (by kernel_rfl) ?_
            repeat (first
              | go_big_quiet_skip
              | (go_big_quiet_want
                 first
                   | (apply quiet_val
                      focus (
                        intro WC hWC
                        obtain ⟨hcc0, hff0⟩ := bcell hWC
                        go_simp
                        all_goals rfl
                        done)
                      go_simp
                      go_big_quiet_on)
                   | (apply quiet_call
                      focus (
                        intro WC hWC
                        go_simp
                        all_goals (first | rfl | exact ⟨rfl, rfl⟩)
                        done)
                      focus (
                        intro WC hWC
                        exact (RCompare_any x y WC).mono fun e w' h => ⟨h.1, hWC.trans (h.2.mono hWC.size)⟩
                        done)
                      go_simp
                      go_big_quiet_on)))
            refine wpQuiet_nil ?_
            intro w5 hw5
            have zp := hw5.size
            have pa0 := (hw5.cell (p := ⟨ba, _, none⟩) hba2).trans a0
            have pa1 := (hw5.cell (p := ⟨ba, _, none⟩) hba2).trans a1
            have pa2 := (hw5.cell (p := ⟨ba, _, none⟩) hba2).trans a2
            have hbap : ba < w5.heap.size := by omega
            go_wp2_with fail
            refine wp_region_below (by kernel_rfl) (by kernel_rfl) ?_
            repeat (first
              | go_big_quiet_skip
              | (go_big_quiet_want
                 first
                   | (apply quiet_val
                      focus (
                        intro WC hWC
                        obtain ⟨hcc0, hff0⟩ := bcell hWC
                        go_simp
                        all_goals rfl
                        done)
                      go_simp
                      go_big_quiet_on)))
            refine wpQuiet_nil ?_
            intro w6 hw6
            have hw56 := hw5.trans (hw6.mono hw5.size)
            have zr := hw56.size
            have ra0 := (hw56.cell (p := ⟨ba, _, none⟩) hba2).trans a0
            have ra1 := (hw56.cell (p := ⟨ba, _, none⟩) hba2).trans a1
            have ra2 := (hw56.cell (p := ⟨ba, _, none⟩) hba2).trans a2
            have hbar : ba < w6.heap.size := by omega
            go_wp2_with (at_builtin; refine stop_mk ?_)
            have hBW : Below w.heap.size w w6 := HB.out.trans (hw56.mono hsz)
            have hsW := hBW.size
            have how6 := HOW.out.below hw56 (Nat.le_refl _)
            refine stop_out (wpList_append_reads (en := St.enc) (sz := 3) _ rfl _ _ _ rfl St.enc_len St.enc_one w.heap.size 23 i0 _ 24 Try.underlying33 HI.out hz0 hz1 hz2 rfl (by omega) (.slice Av pre.length cv) pre rfl (how6.alloc _) (w6.heap.size + 1) (some ⟨w6.heap.size, 0, none⟩) 1 [x] rfl (reads_one w6 St.enc x _ _ rfl 3 w6.heap.size rfl) (fun h => by cases h) (by simp [maxLen]; omega) (by simp; omega) (by simp; omega) ?_)
            intro v1 w9 hown1 hg1 hat1 _
            have hb9 : Below w.heap.size w w9 := (hBW.alloc hsW _).grown hg1 (by simp; omega) how6.base_le
            clear hg1 hat1 how6 hBW
            have HOW1 := Lib.hid hown1
            clear hown1
            go_wp2_with fail
            go_roundw
            case rel => exact ⟨pre ++ [x], i + 1, vs.length, by go_num, by go_num, by omega, by omega, by rw [← HPM.out, List.append_assoc, HDX.out, List.drop_length, mergeL_left]; rfl, HOW1.out, hb9⟩
            case measure => simp [intOf]; omega
        · obtain rfl : i = us.length := by omega
          by_cases hkl : k < vs.length
          · obtain ⟨bb, ob, y, rfl, hbb, hyk, hcb⟩ := HYr.out.at_ hkl
            have b0 := hcb 0 _ rfl
            have b1 := hcb 1 _ rfl
            have b2 := hcb 2 _ rfl
            simp only [Nat.add_zero] at b0
            clear hcb
            have hbb2 : bb < wr.heap.size := by omega
            have HDY := Lib.hid (drop_get hyk)
            clear hyk
            have q1 : ((k : Int) == (vs.length : Int)) = false := by simp; omega
            go_wp2_with fail
            refine wp_region_below (by kernel_rfl) (by kernel_rfl) ?_
            repeat (first
              | go_big_quiet_skip
              | (go_big_quiet_want
                 first
                   | (apply quiet_val
                      focus (
                        intro WC hWC
                        obtain ⟨hcc0, hff0⟩ := bcell hWC
                        go_simp
                        all_goals rfl
                        done)
                      go_simp
                      go_big_quiet_on)
                   | (apply quiet_call
                      focus (
                        intro WC hWC
                        go_simp
                        all_goals (first | rfl | exact ⟨rfl, rfl⟩)
                        done)
                      focus (
                        intro WC hWC
                        exact (RCompare_any x y WC).mono fun e w' h => ⟨h.1, hWC.trans (h.2.mono hWC.size)⟩
                        done)
                      go_simp
                      go_big_quiet_on)))
            refine wpQuiet_nil ?_
            intro w5 hw5
            have zr := hw5.size
            have rb0 := (hw5.cell (p := ⟨bb, _, none⟩) hbb2).trans b0
            have rb1 := (hw5.cell (p := ⟨bb, _, none⟩) hbb2).trans b1
            have rb2 := (hw5.cell (p := ⟨bb, _, none⟩) hbb2).trans b2
            have hbbr : bb < w5.heap.size := by omega
            go_wp2_with (at_builtin; refine stop_mk ?_)
            have hBW : Below w.heap.size w w5 := HB.out.trans (hw5.mono hsz)
            have hsW := hBW.size
            have how6 := HOW.out.below hw5 (Nat.le_refl _)
            refine stop_out (wpList_append_reads (en := St.enc) (sz := 3) _ rfl _ _ _ rfl St.enc_len St.enc_one w.heap.size 23 i0 _ 24 Try.underlying33 HI.out hz0 hz1 hz2 rfl (by omega) (.slice Av pre.length cv) pre rfl (how6.alloc _) (w5.heap.size + 1) (some ⟨w5.heap.size, 0, none⟩) 1 [y] rfl (reads_one w5 St.enc y _ _ rfl 3 w5.heap.size rfl) (fun h => by cases h) (by simp [maxLen]; omega) (by simp; omega) (by simp; omega) ?_)
            intro v1 w9 hown1 hg1 hat1 _
            have hb9 : Below w.heap.size w w9 := (hBW.alloc hsW _).grown hg1 (by simp; omega) how6.base_le
            clear hg1 hat1 how6 hBW
            have HOW1 := Lib.hid hown1
            clear hown1
            go_wp2_with fail
            go_roundw
            case rel => exact ⟨pre ++ [y], us.length, k + 1, by go_num, by go_num, by omega, by omega, by rw [← HPM.out, List.append_assoc, HDY.out, List.drop_length, mergeL_right]; rfl, HOW1.out, hb9⟩
            case measure => simp [intOf]; omega
          · obtain rfl : k = vs.length := by omega
            go_wp2_with fail
            go_ret2
            have he := HPM.out
            rw [List.drop_length, List.drop_length, mergeL_nil, List.append_nil] at he
            exact ⟨⟨_, rfl, he ▸ HOW.out⟩, HB.out⟩
end Go.Proofs.Ytplfeelcijnkjaa
