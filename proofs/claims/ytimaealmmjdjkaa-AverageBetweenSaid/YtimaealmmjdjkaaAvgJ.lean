/- The reference's Counted. -/
import Derived.Test.YtimaealmmjdjkaaAvgI
namespace Go.Proofs.Ytimaealmmjdjkaa
open Go.RowKit Go.Shelf
set_option linter.unusedSimpArgs false
set_option linter.unusedVariables false

/-- none of the first b beats i -/
def unbeaten (f : Nat → At) (r : Nat → Int) (b i : Nat) : Bool := (List.range b).all fun k => !beats f r k i
theorem unbeaten_step (f : Nat → At) (r : Nat → Int) (b i : Nat) : unbeaten f r (b + 1) i = (unbeaten f r b i && !beats f r b i) := by
  unfold unbeaten
  rw [List.range_succ, List.all_append]
  simp
theorem unbeaten_all (f : Nat → At) (r : Nat → Int) (n i : Nat) : unbeaten f r n i = countsB f r n i := rfl
theorem beats_self {f : Nat → At} {r : Nat → Int} {k i : Nat} (h : k = i) : beats f r k i = false := by simp [beats, h]
theorem beats_each {f : Nat → At} {r : Nat → Int} {k i : Nat} (h : r i = 2) : beats f r k i = false := by simp [beats, h]
theorem beats_other {f : Nat → At} {r : Nat → Int} {k i : Nat} (h : ¬ (f k).course = (f i).course) : beats f r k i = false := by simp [beats, h]
theorem beats_at {f : Nat → At} {r : Nat → Int} {k i : Nat} (h1 : ¬ k = i) (h2 : ¬ r i = 2) (h3 : (f k).course = (f i).course) : beats f r k i = betterB (r i) (f k) (f i) k i := by simp [beats, h1, h2, h3]

set_option maxRecDepth 100000 in
set_option maxHeartbeats 4000000 in
theorem RCounted_any (xs : List At) (rs : List Int) (A D : Option Addr) (c d : Nat) (w : World) (hx : Reads w w.heap.size A 5 At.enc xs) (hy : Reads w w.heap.size D 1 intE rs) (hl : xs.length ≤ 100000) (hm : rs.length ≤ 9223372036854775807) :
    Calls Try.prog 19 #[.slice A xs.length c, .slice D rs.length d] w fun e w' => (∃ v, e = .returned (.tuple #[v, .int .i64 (countedA xs rs).2]) ∧ Owns w' w.heap.size 43 5 At.enc v (countedA xs rs).1) ∧ Below w.heap.size w w' := by
  have HX := Lib.hid hx
  have HY := Lib.hid hy
  clear hx hy
  cases hb : xs.any (fun a => !a.good)
  rotate_left
  · rw [countedA_bad hb]
    have HC : Hid (checkA xs = 150) := Lib.hid (by unfold checkA; rw [hb]; rfl)
    clear hb
    go_enter Try.func19, Try.ntmps19
    go_wp2_with fail
    refine (RAvCheck_any xs A c _ HX.out (by omega)).mono ?_
    rw [HC.out]
    rintro e w1 ⟨rfl, hb1⟩
    go_wp2_with fail
    go_ret2
    exact ⟨⟨_, rfl, Owns.nil_ _ _ _ _ _⟩, hb1⟩
  have HC : Hid (checkA xs = 0) := Lib.hid (by unfold checkA; rw [hb]; rfl)
  by_cases hlen : rs.length = xs.length
  rotate_left
  · rw [countedA_len hb hlen]
    have q1 : ((rs.length : Int) == (xs.length : Int)) = false := by simp; omega
    have q2 : ((rs.length : Int) != (xs.length : Int)) = true := by simp; omega
    clear hb hlen
    go_enter Try.func19, Try.ntmps19
    go_wp2_with fail
    refine (RAvCheck_any xs A c _ HX.out (by omega)).mono ?_
    rw [HC.out]
    rintro e w1 ⟨rfl, hb1⟩
    go_wp2_with fail
    go_ret2
    exact ⟨⟨_, rfl, Owns.nil_ _ _ _ _ _⟩, hb1⟩
  have q1 : ((rs.length : Int) == (xs.length : Int)) = true := by simp [hlen]
  have q2 : ((rs.length : Int) != (xs.length : Int)) = false := by simp [hlen]
  obtain ⟨⟨cl, E⟩, hr⟩ : ∃ r, r = countedA xs rs := ⟨_, rfl⟩
  rw [← hr]
  have HR := Lib.hid hr
  have HLEN := Lib.hid hlen
  have HBD := Lib.hid hb
  clear hb hlen hr
  go_enter Try.func19, Try.ntmps19
  go_wp2_with fail
  refine (RAvCheck_any xs A c _ HX.out (by omega)).mono ?_
  rw [HC.out]
  rintro e w1 ⟨rfl, hb1⟩
  go_wp2_with fail
  go_loopw [7] (fun i wr => ∃ k : Nat, k ≤ xs.length ∧ i = .int .i64 k ∧ Okay (fAt xs) (rAt rs) k ∧ Below w.heap.size w wr) (fun i _ => xs.length - (intOf i).toNat)
  case atStart => exact ⟨0, Nat.zero_le _, rfl, Okay.zero, hb1⟩
  case round =>
    clear hb1
    obtain ⟨k, hk, rfl, hok, hB⟩ := hrel
    have hzr := hB.size
    have HOK := Lib.hid hok
    clear hok
    by_cases hlt : k < xs.length
    · have hltr : k < rs.length := by rw [HLEN.out]; exact hlt
      obtain ⟨b2, of2, rk, rfl, hbl2, hrk, hd⟩ := (HY.out.below hB).at_ hltr
      have r0 := hd 0 _ rfl
      simp only [Nat.add_zero, Nat.mul_one] at r0
      have HB := Lib.hid hB
      have hbb2 : b2 < wr.heap.size := by omega
      have RX : Hid (rAt rs k = rk) := Lib.hid (rAt_some hrk)
      have hi0 : (0 : Int) ≤ (k : Int) := by omega
      clear hd hrk hB
      have hcase : decide (rk < 0) = true ∨ (decide (rk < 0) = false ∧ decide ((2 : Int) < rk) = true) ∨ (decide (rk < 0) = false ∧ decide ((2 : Int) < rk) = false ∧ 0 ≤ rk ∧ rk ≤ 2) := by
        simp
        omega
      rcases hcase with d1 | ⟨d1, d2⟩ | ⟨d1, d2, hr0, hr2⟩
      · have HN : Hid ((cl, E) = (([], 1) : List At × Int)) := Lib.hid (by rw [HR.out, countedA_arg HBD.out HLEN.out (fun h => by have h1 := h.1 k hlt; rw [RX.out] at h1; simp at d1; omega)])
        go_wp2_with fail
        go_ret2
        have HN2 := HN.out
        simp only [Prod.mk.injEq] at HN2
        obtain ⟨rfl, rfl⟩ := HN2
        exact ⟨⟨_, rfl, Owns.nil_ _ _ _ _ _⟩, HB.out⟩
      · have HN : Hid ((cl, E) = (([], 1) : List At × Int)) := Lib.hid (by rw [HR.out, countedA_arg HBD.out HLEN.out (fun h => by have h1 := h.1 k hlt; rw [RX.out] at h1; simp at d2; omega)])
        go_wp2_with fail
        go_ret2
        have HN2 := HN.out
        simp only [Prod.mk.injEq] at HN2
        obtain ⟨rfl, rfl⟩ := HN2
        exact ⟨⟨_, rfl, Owns.nil_ _ _ _ _ _⟩, HB.out⟩
      · go_wp2_with fail
        obtain ⟨wo, hwo⟩ : ∃ wo : World, wo = wr := ⟨_, rfl⟩
        subst hwo
        go_loopw [8] (fun i wr => ∃ j : Nat, j ≤ k ∧ i = .int .i64 j ∧ (∀ m, m < j → (fAt xs k).course = (fAt xs m).course → rAt rs k = rAt rs m) ∧ Below w.heap.size w wr) (fun i _ => k - (intOf i).toNat)
        case atStart => exact ⟨0, Nat.zero_le _, rfl, fun m h => absurd h (by omega), HB.out⟩
        case round =>
          obtain ⟨j, hj, rfl, hall, hB⟩ := hrel
          have hzi := hB.size
          have HALL := Lib.hid hall
          clear hall r0 hbb2
          by_cases hjk : j < k
          · have hjn : j < xs.length := by omega
            have hjr : j < rs.length := by omega
            obtain ⟨bb, off, x, rfl, hbl, hxk, hc⟩ := (HX.out.below hB).at_ hlt
            obtain ⟨bb', off', y, e1, _, hyk, hc'⟩ := (HX.out.below hB).at_ hjn
            simp only [Option.some.injEq, Addr.mk.injEq, and_true] at e1
            obtain ⟨rfl, rfl⟩ := e1
            obtain ⟨b3, of3, rk', e2, hbl3, hrk, hd⟩ := (HY.out.below hB).at_ hltr
            simp only [Option.some.injEq, Addr.mk.injEq, and_true] at e2
            obtain ⟨rfl, rfl⟩ := e2
            obtain ⟨b4, of4, rj, e3, _, hrj, hd'⟩ := (HY.out.below hB).at_ hjr
            simp only [Option.some.injEq, Addr.mk.injEq, and_true] at e3
            obtain ⟨rfl, rfl⟩ := e3
            have p0 := hc 0 _ rfl
            have s0 := hc' 0 _ rfl
            have v0 := hd 0 _ rfl
            have u0 := hd' 0 _ rfl
            simp only [Nat.add_zero, Nat.mul_one] at p0 s0 v0 u0
            have hz1 : bb < wr.heap.size := by omega
            have hz2 : b2 < wr.heap.size := by omega
            have FX : Hid (fAt xs k = x) := Lib.hid (fAt_some hxk)
            have FY : Hid (fAt xs j = y) := Lib.hid (fAt_some hyk)
            have RX2 : Hid (rk' = rk) := Lib.hid (by rw [← RX.out]; exact (rAt_some hrk).symm)
            have RJ : Hid (rAt rs j = rj) := Lib.hid (rAt_some hrj)
            rw [RX2.out] at v0
            have HB2 := Lib.hid hB
            have hj0 : (0 : Int) ≤ (j : Int) := by omega
            clear hc hc' hd hd' hxk hyk hrk hrj hB
            obtain ⟨x0, x1, x2, x3, x4⟩ := x
            obtain ⟨y0, y1, y2, y3, y4⟩ := y
            simp only at p0 s0
            by_cases hco : x0 = y0
            · by_cases hrr : rk = rj
              · have e1 : (x0 == y0) = true := by simp [hco]
                have e2 : (rk == rj) = true := by simp [hrr]
                have e3 : (rk != rj) = false := by simp [hrr]
                have HNX : Hid (∀ m, m < j + 1 → (fAt xs k).course = (fAt xs m).course → rAt rs k = rAt rs m) := Lib.hid (fun m hm e => by
                  by_cases hmj : m = j
                  · rw [hmj, RX.out, RJ.out]; exact hrr
                  · exact HALL.out m (by omega) e)
                clear hco hrr
                go_wp2_with fail
                refine wp_region_below (by kernel_rfl) (by kernel_rfl) ?_
                repeat (first
                  | go_big_quiet_skip
                  | (go_big_quiet_want
                     first
                       | (apply quiet_val
                          focus (
                            intro WC hWC
                            obtain ⟨hcc0, hff0⟩ := bcell hWC
                            go_simp
                            all_goals rfl
                            done)
                          go_simp
                          go_big_quiet_on)))
                refine wpQuiet_nil ?_
                intro W2 hW2
                go_wp2_with fail
                go_roundw
                case rel => exact ⟨j + 1, by omega, by go_num, HNX.out, HB2.out.trans (hW2.mono hzi)⟩
                case measure => simp [intOf]; omega
              · have e1 : (x0 == y0) = true := by simp [hco]
                have e2 : (rk == rj) = false := by simp [hrr]
                have e3 : (rk != rj) = true := by simp [hrr]
                have HN : Hid ((cl, E) = (([], 1) : List At × Int)) := Lib.hid (by rw [HR.out, countedA_arg HBD.out HLEN.out (fun h => by have h1 := h.2 k j hlt hjn (by rw [FX.out, FY.out]; exact hco); rw [RX.out, RJ.out] at h1; exact hrr h1)])
                clear hco hrr
                go_wp2_with fail
                refine wp_region_below (by kernel_rfl) (by kernel_rfl) ?_
                repeat (first
                  | go_big_quiet_skip
                  | (go_big_quiet_want
                     first
                       | (apply quiet_val
                          focus (
                            intro WC hWC
                            obtain ⟨hcc0, hff0⟩ := bcell hWC
                            go_simp
                            all_goals rfl
                            done)
                          go_simp
                          go_big_quiet_on)))
                refine wpQuiet_nil ?_
                intro W2 hW2
                go_wp2_with fail
                go_ret2
                have HN2 := HN.out
                simp only [Prod.mk.injEq] at HN2
                obtain ⟨rfl, rfl⟩ := HN2
                exact ⟨⟨_, rfl, Owns.nil_ _ _ _ _ _⟩, HB2.out.trans (hW2.mono hzi)⟩
            · have e1 : (x0 == y0) = false := by simp [hco]
              have HNX : Hid (∀ m, m < j + 1 → (fAt xs k).course = (fAt xs m).course → rAt rs k = rAt rs m) := Lib.hid (fun m hm e => by
                by_cases hmj : m = j
                · rw [hmj, FX.out, FY.out] at e; exact absurd e hco
                · exact HALL.out m (by omega) e)
              clear hco
              go_wp2_with fail
              refine wp_region_below (by kernel_rfl) (by kernel_rfl) ?_
              repeat (first
                | go_big_quiet_skip
                | (go_big_quiet_want
                   first
                     | (apply quiet_val
                        focus (
                          intro WC hWC
                          obtain ⟨hcc0, hff0⟩ := bcell hWC
                          go_simp
                          all_goals rfl
                          done)
                        go_simp
                        go_big_quiet_on)))
              refine wpQuiet_nil ?_
              intro W2 hW2
              go_wp2_with fail
              go_roundw
              case rel => exact ⟨j + 1, by omega, by go_num, HNX.out, HB2.out.trans (hW2.mono hzi)⟩
              case measure => simp [intOf]; omega
          · obtain rfl : j = k := by omega
            have HOK1 : Hid (Okay (fAt xs) (rAt rs) (j + 1)) := Lib.hid (HOK.out.step (by rw [RX.out]; exact hr0) (by rw [RX.out]; exact hr2) (fun m hm e => (HALL.out m hm e.symm).symm))
            have HB2 := Lib.hid hB
            go_wp2_with fail
            go_roundw
            case rel => exact ⟨j + 1, by omega, by go_num, HOK1.out, HB2.out⟩
            case measure => simp [intOf]; omega
    · obtain rfl : k = xs.length := by omega
      have HB := Lib.hid hB
      have HRR : Hid ((cl, E) = ((countedL (fAt xs) (rAt rs) xs.length, 0) : List At × Int)) := Lib.hid (by rw [HR.out, countedA_ok HBD.out HLEN.out HOK.out])
      clear hB
      obtain ⟨wb, hwb⟩ : ∃ wb : World, wb = wr := ⟨_, rfl⟩
      subst hwb
      obtain ⟨i0, hinf, hz0, hz1, hz2⟩ := info_parts Try.infoAt
      go_wp2_with fail
      go_loopw [9, 10] (fun v i wr => ∃ k : Nat, k ≤ xs.length ∧ i = .int .i64 k ∧ Owns wr w.heap.size 43 5 At.enc v (cntTo (fAt xs) (rAt rs) xs.length k) ∧ Below w.heap.size w wr) (fun _ i _ => xs.length - (intOf i).toNat)
      case atStart => exact ⟨0, Nat.zero_le _, rfl, Owns.lit (ys := ([] : List At)) At.enc_len rfl hzr (by simp), HB.out.alloc hzr _⟩
      case round =>
        clear hzr
        obtain ⟨k, hk, rfl, hown, hB⟩ := hrel
        have hzr := hB.size
        obtain ⟨Av, cv, rfl, hAv, _⟩ := hown.shape
        have HOW := Lib.hid hown
        have HLE := Lib.hid (cntTo_len (fAt xs) (rAt rs) xs.length k)
        have HST := Lib.hid (cntTo_step (fAt xs) (rAt rs) xs.length k)
        have HB0 := Lib.hid hB
        clear hown hAv hB
        obtain ⟨wo, hwo⟩ : ∃ wo : World, wo = wr := ⟨_, rfl⟩
        subst hwo
        by_cases hlt : k < xs.length
        · go_wp2_with fail
          go_loopw [11, 12] (fun t i wr => ∃ j : Nat, j ≤ xs.length ∧ i = .int .i64 j ∧ t = .bool (unbeaten (fAt xs) (rAt rs) j k) ∧ Below wo.heap.size wo wr) (fun _ i _ => xs.length - (intOf i).toNat)
          case atStart => exact ⟨0, Nat.zero_le _, rfl, rfl, Below.refl _ _⟩
          case round =>
            obtain ⟨j, hj, rfl, rfl, hBo⟩ := hrel
            have hzo := hBo.size
            have hB : Below w.heap.size w wr := HB0.out.trans (hBo.mono hzr)
            have hzi := hB.size
            have hltr : k < rs.length := by rw [HLEN.out]; exact hlt
            obtain ⟨ub, hub⟩ : ∃ ub, ub = unbeaten (fAt xs) (rAt rs) j k := ⟨_, rfl⟩
            rw [← hub]
            obtain ⟨bb, off, x, rfl, hbl, hxk, hc⟩ := (HX.out.below hB).at_ hlt
            obtain ⟨b2, of2, rk, rfl, hbl2, hrk, hd⟩ := (HY.out.below hB).at_ hltr
            have p0 := hc 0 _ rfl
            have p1 := hc 1 _ rfl
            have p2 := hc 2 _ rfl
            have p3 := hc 3 _ rfl
            have p4 := hc 4 _ rfl
            have r0 := hd 0 _ rfl
            simp only [Nat.add_zero, Nat.mul_one] at p0 r0
            have hy1 : bb < wr.heap.size := by omega
            have hy2 : b2 < wr.heap.size := by omega
            have FX : Hid (fAt xs k = x) := Lib.hid (fAt_some hxk)
            have RX : Hid (rAt rs k = rk) := Lib.hid (rAt_some hrk)
            have HXK := Lib.hid hxk
            have hk0 : (0 : Int) ≤ (k : Int) := by omega
            have hj0 : (0 : Int) ≤ (j : Int) := by omega
            have HB2 := Lib.hid hBo
            have HB3 := Lib.hid hB
            clear hc hd hxk hrk hB hBo
            by_cases hjn : j < xs.length
            · have HUS : Hid (unbeaten (fAt xs) (rAt rs) (j + 1) k = (ub && !beats (fAt xs) (rAt rs) j k)) := Lib.hid (by rw [unbeaten_step, ← hub])
              clear hub
              obtain ⟨bb', off', y, e1, _, hyk, hc'⟩ := (HX.out.below HB3.out).at_ hjn
              simp only [Option.some.injEq, Addr.mk.injEq, and_true] at e1
              obtain ⟨rfl, rfl⟩ := e1
              have s0 := hc' 0 _ rfl
              simp only [Nat.add_zero] at s0
              have FY : Hid (fAt xs j = y) := Lib.hid (fAt_some hyk)
              have HYK := Lib.hid hyk
              clear hc' hyk
              by_cases hjk : j = k
              · have e1 : ((j : Int) == (k : Int)) = true := by simp [hjk]
                have e2 : ((j : Int) != (k : Int)) = false := by simp [hjk]
                have HBT := Lib.hid (beats_self (f := fAt xs) (r := rAt rs) hjk)
                clear hjk
                go_wp2_with fail
                refine wp_region_below (by kernel_rfl) (by kernel_rfl) ?_
                repeat (first
                  | go_big_quiet_skip
                  | (go_big_quiet_want
                     first
                       | (apply quiet_val
                          focus (
                            intro WC hWC
                            obtain ⟨hcc0, hff0⟩ := bcell hWC
                            go_simp
                            all_goals rfl
                            done)
                          go_simp
                          go_big_quiet_on)))
                refine wpQuiet_nil ?_
                intro W2 hW2
                go_wp2_with fail
                go_roundw
                case rel => exact ⟨j + 1, by omega, by go_num, by rw [HUS.out, HBT.out]; simp, HB2.out.trans (hW2.mono hzo)⟩
                case measure => simp [intOf]; omega
              have e1 : ((j : Int) == (k : Int)) = false := by simp; omega
              have e2 : ((j : Int) != (k : Int)) = true := by simp; omega
              by_cases hr2 : rk = 2
              · have e3 : (rk == 2) = true := by simp [hr2]
                have e4 : (rk != 2) = false := by simp [hr2]
                have HBT := Lib.hid (beats_each (f := fAt xs) (r := rAt rs) (k := j) (i := k) (by rw [RX.out]; exact hr2))
                clear hr2
                go_wp2_with fail
                refine wp_region_below (by kernel_rfl) (by kernel_rfl) ?_
                repeat (first
                  | go_big_quiet_skip
                  | (go_big_quiet_want
                     first
                       | (apply quiet_val
                          focus (
                            intro WC hWC
                            obtain ⟨hcc0, hff0⟩ := bcell hWC
                            go_simp
                            all_goals rfl
                            done)
                          go_simp
                          go_big_quiet_on)))
                refine wpQuiet_nil ?_
                intro W2 hW2
                go_wp2_with fail
                go_roundw
                case rel => exact ⟨j + 1, by omega, by go_num, by rw [HUS.out, HBT.out]; simp, HB2.out.trans (hW2.mono hzo)⟩
                case measure => simp [intOf]; omega
              have e3 : (rk == 2) = false := by simp [hr2]
              have e4 : (rk != 2) = true := by simp [hr2]
              by_cases hco : y.course = x.course
              rotate_left
              · have e5 : (y.course == x.course) = false := by simp [hco]
                have HBT := Lib.hid (beats_other (f := fAt xs) (r := rAt rs) (k := j) (i := k) (by rw [FX.out, FY.out]; exact hco))
                clear hco
                go_wp2_with fail
                refine wp_region_below (by kernel_rfl) (by kernel_rfl) ?_
                repeat (first
                  | go_big_quiet_skip
                  | (go_big_quiet_want
                     first
                       | (apply quiet_val
                          focus (
                            intro WC hWC
                            obtain ⟨hcc0, hff0⟩ := bcell hWC
                            go_simp
                            all_goals rfl
                            done)
                          go_simp
                          go_big_quiet_on)))
                refine wpQuiet_nil ?_
                intro W2 hW2
                go_wp2_with fail
                go_roundw
                case rel => exact ⟨j + 1, by omega, by go_num, by rw [HUS.out, HBT.out]; simp, HB2.out.trans (hW2.mono hzo)⟩
                case measure => simp [intOf]; omega
              have e5 : (y.course == x.course) = true := by simp [hco]
              have hbt := beats_at (f := fAt xs) (r := rAt rs) hjk (by rw [RX.out]; exact hr2) (by rw [FX.out, FY.out]; exact hco)
              rw [RX.out, FX.out, FY.out] at hbt
              have HBE : Hid (∀ WC, Below wr.heap.size wr WC → Calls Try.prog 33 #[.slice (some ⟨bb, off, none⟩) xs.length c, .int .i64 rk, .int .i64 (j : Nat), .int .i64 (k : Nat)] WC fun e w' => e = .returned (.bool (betterB rk y x j k)) ∧ Below WC.heap.size WC w') :=
                Lib.hid (fun WC hWC => better_any xs _ c rk j k y x HYK.out HXK.out WC (((HX.out.below HB3.out).below (hWC.mono hzi)).more (Nat.le_trans hzi hWC.size)) (by omega))
              clear hco hjk hr2
              cases hbv : betterB rk y x j k
              all_goals
                rw [hbv] at hbt HBE
                have HBT := Lib.hid hbt
                clear hbt hbv
                go_wp2_with fail
                refine wp_region_below (by kernel_rfl) (by kernel_rfl) ?_
                repeat (first
                  | go_big_quiet_skip
                  | (go_big_quiet_want
                     first
                       | (apply quiet_val
                          focus (
                            intro WC hWC
                            obtain ⟨hcc0, hff0⟩ := bcell hWC
                            go_simp
                            all_goals rfl
                            done)
                          go_simp
                          go_big_quiet_on)
                       | (apply quiet_call
                          focus (
                            intro WC hWC
                            go_simp
                            all_goals (first | rfl | exact ⟨rfl, rfl⟩)
                            done)
                          focus (
                            intro WC hWC
                            exact (HBE.out WC hWC).mono fun e w' h => ⟨h.1, hWC.trans (h.2.mono hWC.size)⟩
                            done)
                          go_simp
                          go_big_quiet_on)))
                refine wpQuiet_nil ?_
                intro W2 hW2
                go_wp2_with fail
                go_roundw
                case rel => exact ⟨j + 1, by omega, by go_num, by rw [HUS.out, HBT.out]; simp, HB2.out.trans (hW2.mono hzo)⟩
                case measure => simp [intOf]; omega
            · obtain rfl : j = xs.length := by omega
              have HOW3 := Lib.hid (HOW.out.below HB2.out (Nat.le_refl _))
              rw [unbeaten_all] at hub
              clear r0 hy2
              obtain ⟨x0, x1, x2, x3, x4⟩ := x
              simp only at p0 p1 p2 p3 p4
              cases ub
              · have HCT := Lib.hid hub.symm
                clear hub
                go_wp2_with fail
                go_roundw
                case rel => exact ⟨k + 1, by omega, by go_num, by rw [HST.out, HCT.out]; simpa using HOW3.out, HB3.out⟩
                case measure => simp [intOf]; omega
              · have HCT := Lib.hid hub.symm
                clear hub
                go_wp2_with (at_builtin; refine stop_mk ?_)
                refine stop_out (wpList_append_reads (en := At.enc) (sz := 5) _ rfl _ _ _ rfl At.enc_len At.enc_one w.heap.size 43 i0 _ 40 Try.underlying22 hinf hz0 hz1 hz2 rfl (by omega) _ (cntTo (fAt xs) (rAt rs) xs.length k) rfl (HOW3.out.alloc _) (wr.heap.size + 1) (some ⟨wr.heap.size, 0, none⟩) 1 [⟨x0, x1, x2, x3, x4⟩] rfl (reads_one wr At.enc ⟨x0, x1, x2, x3, x4⟩ _ _ rfl 5 wr.heap.size rfl) (fun h => by cases h) (by have := HLE.out; simp [maxLen]; omega) (by have := HLE.out; simp; omega) (by simp; omega) ?_)
                intro v1 w9 hown1 hg1 hat1 _
                have hb9 : Below w.heap.size w w9 := (HB3.out.alloc HB3.out.size _).grown hg1 (by simp; omega) (fun q e => by have := HOW3.out.base_le q e; omega)
                have HOW1 := Lib.hid hown1
                clear hg1 hat1 hown1
                go_wp2_with fail
                go_roundw
                case rel => exact ⟨k + 1, by omega, by go_num, by rw [HST.out, HCT.out, FX.out]; exact HOW1.out, hb9⟩
                case measure => simp [intOf]; omega
        · obtain rfl : k = xs.length := by omega
          go_wp2_with fail
          go_ret2
          have h9 := HRR.out
          simp only [Prod.mk.injEq] at h9
          obtain ⟨rfl, rfl⟩ := h9
          exact ⟨⟨_, rfl, HOW.out⟩, HB0.out⟩
end Go.Proofs.Ytimaealmmjdjkaa
