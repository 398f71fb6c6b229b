/- Lists of stamps: validity, equality, membership. -/
import Derived.Test.YtplfeelcijnkjaaStampsC
import Derived.Test.YtplfeelcijnkjaaQuiet
namespace Go.Proofs.Ytplfeelcijnkjaa
open Go.RowKit

/-- what is wrong at place i of a list -/
def badAt (xs : List St) (i : Nat) : Bool := match xs[i]? with
  | none => false
  | some x => !x.good || (match i with
    | 0 => false
    | j + 1 => match xs[j]? with
      | none => false
      | some y => decide (0 ≤ cmpS y x))
def validS (xs : List St) : Bool := !(List.range xs.length).any (badAt xs)

theorem valid_of {xs : List St} (h : ∀ j, j < xs.length → badAt xs j = false) : validS xs = true := by
  unfold validS
  rw [List.any_eq_false.2 (fun j hj => by simpa using h j (by simpa using hj))]; rfl
theorem invalid_of {xs : List St} {k : Nat} (hk : k < xs.length) (h : badAt xs k = true) : validS xs = false := by
  unfold validS
  rw [List.any_eq_true.2 ⟨k, by simpa using hk, h⟩]; rfl

set_option maxHeartbeats 2000000 in
theorem valid_any (xs : List St) (A : Option Addr) (c : Nat) (w : World) (hx : Reads w w.heap.size A 3 St.enc xs) (hl : xs.length ≤ 9223372036854775807) :
    Calls Try.prog 30 #[.slice A xs.length c] w fun e w' => e = .returned (.bool (validS xs)) ∧ Below w.heap.size w w' := by
  have HX := Lib.hid hx
  clear hx
  go_enter Try.func30, Try.ntmps30
  go_wp2_with fail
  go_loopw [7] (fun i wr => ∃ k : Nat, k ≤ xs.length ∧ i = .int .i64 k ∧ (∀ j, j < k → badAt xs j = false) ∧ Below w.heap.size w wr) (fun i _ => xs.length - (intOf i).toNat)
  case atStart => exact ⟨0, Nat.zero_le _, rfl, fun _ h => absurd h (by omega), Below.refl _ _⟩
  case round =>
    obtain ⟨k, hk, rfl, hno, hb⟩ := hrel
    have HNO := Lib.hid hno
    clear hno
    by_cases hlt : k < xs.length
    · obtain ⟨bb, off, x, rfl, hbl, hxk, hc⟩ := (HX.out.below hb).at_ hlt
      have c0 := hc 0 _ rfl
      have c1 := hc 1 _ rfl
      have c2 := hc 2 _ rfl
      simp only [Nat.add_zero] at c0
      clear hc
      have hs := hb.size
      have hbl2 : bb < wr.heap.size := by omega
      have HXK := Lib.hid hxk
      clear hxk
      cases hg : x.good
      · have h1 : checkS x = 80 := by simp [checkS, hg]
        have hbad : badAt xs k = true := by unfold badAt; rw [HXK.out]; simp [hg]
        have H1 := Lib.hid h1
        have HB := Lib.hid hbad
        clear h1 hbad hg
        go_wp2_with fail
        refine wp_region_below (by kernel_rfl) (by kernel_rfl) ?_
        repeat (first
          | go_big_quiet_skip
          | (go_big_quiet_want
             first
               | (apply quiet_val
                  focus (
                    intro WC hWC
                    obtain ⟨hcc0, hff0⟩ := bcell hWC
                    go_simp
                    all_goals rfl
                    done)
                  go_simp
                  go_big_quiet_on)
               | (apply quiet_call
                  focus (
                    intro WC hWC
                    go_simp
                    all_goals (first | rfl | exact ⟨rfl, rfl⟩)
                    done)
                  focus (
                    intro WC hWC
                    exact (Check_any x WC).mono fun e w' h => ⟨by rw [h.1, H1.out], hWC.trans (h.2.mono hWC.size)⟩
                    done)
                  go_simp
                  go_big_quiet_on)))
        refine wpQuiet_nil ?_
        intro w5 hw5
        have hb5 : Below w.heap.size w w5 := (hb.alloc hb.size _).trans (hw5.mono (by simp; omega))
        go_wp2_with fail
        go_ret
        exact ⟨ret_bool (invalid_of hlt HB.out).symm, hb5⟩
      · have h1 : checkS x = 0 := by simp [checkS, hg]
        have H1 := Lib.hid h1
        have HG := Lib.hid hg
        clear h1 hg
        rcases Nat.eq_zero_or_pos k with rfl | hk0
        · have hbad : badAt xs 0 = false := by unfold badAt; rw [HXK.out]; simp [HG.out]
          have HB := Lib.hid hbad
          clear hbad
          simp only [Nat.zero_mul, Nat.add_zero] at c0 c1 c2
          go_wp2_with fail
          refine wp_region_below (by kernel_rfl) (by kernel_rfl) ?_
          repeat (first
            | go_big_quiet_skip
            | (go_big_quiet_want
               first
                 | (apply quiet_val
                    focus (
                      intro WC hWC
                      obtain ⟨hcc0, hff0⟩ := bcell hWC
                      go_simp
                      all_goals rfl
                      done)
                    go_simp
                    go_big_quiet_on)
                 | (apply quiet_call
                    focus (
                      intro WC hWC
                      go_simp
                      all_goals (first | rfl | exact ⟨rfl, rfl⟩)
                      done)
                    focus (
                      intro WC hWC
                      exact (Check_any x WC).mono fun e w' h => ⟨by rw [h.1, H1.out], hWC.trans (h.2.mono hWC.size)⟩
                      done)
                    go_simp
                    go_big_quiet_on)))
          refine wpQuiet_nil ?_
          intro w5 hw5
          have hb5 : Below w.heap.size w w5 := (hb.alloc hb.size _).trans (hw5.mono (by simp; omega))
          go_wp2_with fail
          go_roundw
          case rel => exact ⟨1, by omega, by go_num, fun j hj => by obtain rfl : j = 0 := (by omega); exact HB.out, hb5⟩
          case measure => simp [intOf]; omega
        · obtain ⟨b2, off2, y, hA2, _, hyk, hd⟩ := (HX.out.below hb).at_ (k := k - 1) (by omega)
          simp only [Option.some.injEq, Addr.mk.injEq, and_true] at hA2
          obtain ⟨rfl, rfl⟩ := hA2
          have d0 := hd 0 _ rfl
          have d1 := hd 1 _ rfl
          have d2 := hd 2 _ rfl
          simp only [Nat.add_zero] at d0
          have hk1 : (1 : Int) ≤ k := by omega
          have hbad : badAt xs k = decide (0 ≤ cmpS y x) := by
            obtain ⟨j, rfl⟩ : ∃ j, k = j + 1 := ⟨k - 1, by omega⟩
            simp only [Nat.add_sub_cancel] at hyk
            unfold badAt
            rw [HXK.out]
            simp only [hyk, HG.out]; simp
          have HB := Lib.hid hbad
          clear hbad hd hyk
          by_cases hcy : 0 ≤ cmpS y x
          · go_wp2_with fail
            have e1 : IntKind.i64.wrap ((k : Int) - 1) = (k : Int) - 1 := IntWalk.i64_in _ (by omega)
            have e2 : ((k : Int) - 1).toNat = k - 1 := by omega
            have e3 : (k : Int) - 1 < xs.length := by omega
            refine wp_region_below (by kernel_rfl) (by kernel_rfl) ?_
            repeat (first
              | go_big_quiet_skip
              | (go_big_quiet_want
                 first
                   | (apply quiet_val
                      focus (
                        intro WC hWC
                        obtain ⟨hcc0, hff0⟩ := bcell hWC
                        go_simp
                        all_goals rfl
                        done)
                      go_simp
                      go_big_quiet_on)
                   | (apply quiet_call
                      focus (
                        intro WC hWC
                        go_simp
                        all_goals (first | rfl | exact ⟨rfl, rfl⟩)
                        done)
                      focus (
                        intro WC hWC
                        exact (Check_any x WC).mono fun e w' h => ⟨by rw [h.1, H1.out], hWC.trans (h.2.mono hWC.size)⟩
                        done)
                      go_simp
                      go_big_quiet_on)
                   | (apply quiet_call
                      focus (
                        intro WC hWC
                        go_simp
                        all_goals (first | rfl | exact ⟨rfl, rfl⟩)
                        done)
                      focus (
                        intro WC hWC
                        exact (SCompare_any y x WC).mono fun e w' h => ⟨h.1, hWC.trans (h.2.mono hWC.size)⟩
                        done)
                      go_simp
                      go_big_quiet_on)))
            refine wpQuiet_nil ?_
            intro w5 hw5
            clear e1 e2 e3
            have hb5 : Below w.heap.size w w5 := (hb.alloc hb.size _).trans (hw5.mono (by simp; omega))
            go_wp2_with fail
            go_ret
            exact ⟨ret_bool (invalid_of hlt (by rw [HB.out]; simpa using hcy)).symm, hb5⟩
          · go_wp2_with fail
            have e1 : IntKind.i64.wrap ((k : Int) - 1) = (k : Int) - 1 := IntWalk.i64_in _ (by omega)
            have e2 : ((k : Int) - 1).toNat = k - 1 := by omega
            have e3 : (k : Int) - 1 < xs.length := by omega
            refine wp_region_below (by kernel_rfl) (by kernel_rfl) ?_
            repeat (first
              | go_big_quiet_skip
              | (go_big_quiet_want
                 first
                   | (apply quiet_val
                      focus (
                        intro WC hWC
                        obtain ⟨hcc0, hff0⟩ := bcell hWC
                        go_simp
                        all_goals rfl
                        done)
                      go_simp
                      go_big_quiet_on)
                   | (apply quiet_call
                      focus (
                        intro WC hWC
                        go_simp
                        all_goals (first | rfl | exact ⟨rfl, rfl⟩)
                        done)
                      focus (
                        intro WC hWC
                        exact (Check_any x WC).mono fun e w' h => ⟨by rw [h.1, H1.out], hWC.trans (h.2.mono hWC.size)⟩
                        done)
                      go_simp
                      go_big_quiet_on)
                   | (apply quiet_call
                      focus (
                        intro WC hWC
                        go_simp
                        all_goals (first | rfl | exact ⟨rfl, rfl⟩)
                        done)
                      focus (
                        intro WC hWC
                        exact (SCompare_any y x WC).mono fun e w' h => ⟨h.1, hWC.trans (h.2.mono hWC.size)⟩
                        done)
                      go_simp
                      go_big_quiet_on)))
            refine wpQuiet_nil ?_
            intro w5 hw5
            clear e1 e2 e3
            have hb5 : Below w.heap.size w w5 := (hb.alloc hb.size _).trans (hw5.mono (by simp; omega))
            go_wp2_with fail
            go_roundw
            case rel => exact ⟨k + 1, by omega, by go_num, fun j hj => by
              by_cases hjk : j = k
              · rw [hjk, HB.out]; simp; omega
              · exact HNO.out j (by omega), hb5⟩
            case measure => simp [intOf]; omega
    · obtain rfl : k = xs.length := by omega
      have hv := valid_of HNO.out
      have HV := Lib.hid hv
      clear hv
      go_wp2_with fail
      go_ret
      exact ⟨ret_bool (by rw [HV.out]), hb⟩

set_option maxHeartbeats 2000000 in
theorem RValid_any (xs : List St) (A : Option Addr) (c : Nat) (w : World) (hx : Reads w w.heap.size A 3 St.enc xs) (hl : xs.length ≤ 9223372036854775807) :
    Calls Try.prog 32 #[.slice A xs.length c] w fun e w' => e = .returned (.bool (validS xs)) ∧ Below w.heap.size w w' := by
  have HX := Lib.hid hx
  clear hx
  go_enter Try.func32, Try.ntmps32
  go_wp2_with fail
  go_loopw [3] (fun i wr => ∃ k : Nat, k ≤ xs.length ∧ i = .int .i64 k ∧ (∀ j, j < k → badAt xs j = false) ∧ Below w.heap.size w wr) (fun i _ => xs.length - (intOf i).toNat)
  case atStart => exact ⟨0, Nat.zero_le _, rfl, fun _ h => absurd h (by omega), Below.refl _ _⟩
  case round =>
    obtain ⟨k, hk, rfl, hno, hb⟩ := hrel
    have HNO := Lib.hid hno
    clear hno
    by_cases hlt : k < xs.length
    · obtain ⟨bb, off, x, rfl, hbl, hxk, hc⟩ := (HX.out.below hb).at_ hlt
      have c0 := hc 0 _ rfl
      have c1 := hc 1 _ rfl
      have c2 := hc 2 _ rfl
      simp only [Nat.add_zero] at c0
      clear hc
      have hs := hb.size
      have hbl2 : bb < wr.heap.size := by omega
      have HXK := Lib.hid hxk
      clear hxk
      cases hg : x.good
      · have h1 : checkS x = 80 := by simp [checkS, hg]
        have hbad : badAt xs k = true := by unfold badAt; rw [HXK.out]; simp [hg]
        have H1 := Lib.hid h1
        have HB := Lib.hid hbad
        clear h1 hbad hg
        go_wp2_with fail
        refine wp_region_below (by kernel_rfl) (by kernel_rfl) ?_
        repeat (first
          | go_big_quiet_skip
          | (go_big_quiet_want
             first
               | (apply quiet_val
                  focus (
                    intro WC hWC
                    obtain ⟨hcc0, hff0⟩ := bcell hWC
                    go_simp
                    all_goals rfl
                    done)
                  go_simp
                  go_big_quiet_on)
               | (apply quiet_call
                  focus (
                    intro WC hWC
                    go_simp
                    all_goals (first | rfl | exact ⟨rfl, rfl⟩)
                    done)
                  focus (
                    intro WC hWC
                    exact (RCheck_any x WC).mono fun e w' h => ⟨by rw [h.1, H1.out], hWC.trans (h.2.mono hWC.size)⟩
                    done)
                  go_simp
                  go_big_quiet_on)))
        refine wpQuiet_nil ?_
        intro w5 hw5
        have hb5 : Below w.heap.size w w5 := hb.trans (hw5.mono hb.size)
        go_wp2_with fail
        go_ret
        exact ⟨ret_bool (invalid_of hlt HB.out).symm, hb5⟩
      · have h1 : checkS x = 0 := by simp [checkS, hg]
        have H1 := Lib.hid h1
        have HG := Lib.hid hg
        clear h1 hg
        rcases Nat.eq_zero_or_pos k with rfl | hk0
        · have hbad : badAt xs 0 = false := by unfold badAt; rw [HXK.out]; simp [HG.out]
          have HB := Lib.hid hbad
          clear hbad
          simp only [Nat.zero_mul, Nat.add_zero] at c0 c1 c2
          go_wp2_with fail
          refine wp_region_below (by kernel_rfl) (by kernel_rfl) ?_
          repeat (first
            | go_big_quiet_skip
            | (go_big_quiet_want
               first
                 | (apply quiet_val
                    focus (
                      intro WC hWC
                      obtain ⟨hcc0, hff0⟩ := bcell hWC
                      go_simp
                      all_goals rfl
                      done)
                    go_simp
                    go_big_quiet_on)
                 | (apply quiet_call
                    focus (
                      intro WC hWC
                      go_simp
                      all_goals (first | rfl | exact ⟨rfl, rfl⟩)
                      done)
                    focus (
                      intro WC hWC
                      exact (RCheck_any x WC).mono fun e w' h => ⟨by rw [h.1, H1.out], hWC.trans (h.2.mono hWC.size)⟩
                      done)
                    go_simp
                    go_big_quiet_on)))
          refine wpQuiet_nil ?_
          intro w5 hw5
          have hb5 : Below w.heap.size w w5 := hb.trans (hw5.mono hb.size)
          go_wp2_with fail
          go_roundw
          case rel => exact ⟨1, by omega, by go_num, fun j hj => by obtain rfl : j = 0 := (by omega); exact HB.out, hb5⟩
          case measure => simp [intOf]; omega
        · obtain ⟨b2, off2, y, hA2, _, hyk, hd⟩ := (HX.out.below hb).at_ (k := k - 1) (by omega)
          simp only [Option.some.injEq, Addr.mk.injEq, and_true] at hA2
          obtain ⟨rfl, rfl⟩ := hA2
          have d0 := hd 0 _ rfl
          have d1 := hd 1 _ rfl
          have d2 := hd 2 _ rfl
          simp only [Nat.add_zero] at d0
          have hk1 : (1 : Int) ≤ k := by omega
          have hbad : badAt xs k = decide (0 ≤ cmpS y x) := by
            obtain ⟨j, rfl⟩ : ∃ j, k = j + 1 := ⟨k - 1, by omega⟩
            simp only [Nat.add_sub_cancel] at hyk
            unfold badAt
            rw [HXK.out]
            simp only [hyk, HG.out]; simp
          have HB := Lib.hid hbad
          clear hbad hd hyk
          by_cases hcy : 0 ≤ cmpS y x
          · go_wp2_with fail
            have e1 : IntKind.i64.wrap ((k : Int) - 1) = (k : Int) - 1 := IntWalk.i64_in _ (by omega)
            have e2 : ((k : Int) - 1).toNat = k - 1 := by omega
            have e3 : (k : Int) - 1 < xs.length := by omega
            refine wp_region_below (by kernel_rfl) (by kernel_rfl) ?_
            repeat (first
              | go_big_quiet_skip
              | (go_big_quiet_want
                 first
                   | (apply quiet_val
                      focus (
                        intro WC hWC
                        obtain ⟨hcc0, hff0⟩ := bcell hWC
                        go_simp
                        all_goals rfl
                        done)
                      go_simp
                      go_big_quiet_on)
                   | (apply quiet_call
                      focus (
                        intro WC hWC
                        go_simp
                        all_goals (first | rfl | exact ⟨rfl, rfl⟩)
                        done)
                      focus (
                        intro WC hWC
                        exact (RCheck_any x WC).mono fun e w' h => ⟨by rw [h.1, H1.out], hWC.trans (h.2.mono hWC.size)⟩
                        done)
                      go_simp
                      go_big_quiet_on)
                   | (apply quiet_call
                      focus (
                        intro WC hWC
                        go_simp
                        all_goals (first | rfl | exact ⟨rfl, rfl⟩)
                        done)
                      focus (
                        intro WC hWC
                        exact (RCompare_any y x WC).mono fun e w' h => ⟨h.1, hWC.trans (h.2.mono hWC.size)⟩
                        done)
                      go_simp
                      go_big_quiet_on)))
            refine wpQuiet_nil ?_
            intro w5 hw5
            clear e1 e2 e3
            have hb5 : Below w.heap.size w w5 := hb.trans (hw5.mono hb.size)
            go_wp2_with fail
            go_ret
            exact ⟨ret_bool (invalid_of hlt (by rw [HB.out]; simpa using hcy)).symm, hb5⟩
          · go_wp2_with fail
            have e1 : IntKind.i64.wrap ((k : Int) - 1) = (k : Int) - 1 := IntWalk.i64_in _ (by omega)
            have e2 : ((k : Int) - 1).toNat = k - 1 := by omega
            have e3 : (k : Int) - 1 < xs.length := by omega
            refine wp_region_below (by kernel_rfl) (by kernel_rfl) ?_
            repeat (first
              | go_big_quiet_skip
              | (go_big_quiet_want
                 first
                   | (apply quiet_val
                      focus (
                        intro WC hWC
                        obtain ⟨hcc0, hff0⟩ := bcell hWC
                        go_simp
                        all_goals rfl
                        done)
                      go_simp
                      go_big_quiet_on)
                   | (apply quiet_call
                      focus (
                        intro WC hWC
                        go_simp
                        all_goals (first | rfl | exact ⟨rfl, rfl⟩)
                        done)
                      focus (
                        intro WC hWC
                        exact (RCheck_any x WC).mono fun e w' h => ⟨by rw [h.1, H1.out], hWC.trans (h.2.mono hWC.size)⟩
                        done)
                      go_simp
                      go_big_quiet_on)
                   | (apply quiet_call
                      focus (
                        intro WC hWC
                        go_simp
                        all_goals (first | rfl | exact ⟨rfl, rfl⟩)
                        done)
                      focus (
                        intro WC hWC
                        exact (RCompare_any y x WC).mono fun e w' h => ⟨h.1, hWC.trans (h.2.mono hWC.size)⟩
                        done)
                      go_simp
                      go_big_quiet_on)))
            refine wpQuiet_nil ?_
            intro w5 hw5
            clear e1 e2 e3
            have hb5 : Below w.heap.size w w5 := hb.trans (hw5.mono hb.size)
            go_wp2_with fail
            go_roundw
            case rel => exact ⟨k + 1, by omega, by go_num, fun j hj => by
              by_cases hjk : j = k
              · rw [hjk, HB.out]; simp; omega
              · exact HNO.out j (by omega), hb5⟩
            case measure => simp [intOf]; omega
    · obtain rfl : k = xs.length := by omega
      have hv := valid_of HNO.out
      have HV := Lib.hid hv
      clear hv
      go_wp2_with fail
      go_ret
      exact ⟨ret_bool (by rw [HV.out]), hb⟩
end Go.Proofs.Ytplfeelcijnkjaa
