/- AverageCounts, walked. -/
import Derived.Test.YtimaealmmjdjkaaAvgO
namespace Go.Proofs.Ytimaealmmjdjkaa
open Go.RowKit Go.Shelf
set_option linter.unusedSimpArgs false
set_option linter.unusedVariables false

theorem intE_one (x : Int) : ∀ u ∈ intE x, u.oneCell' = true := by
  intro u hu
  simp [intE] at hu
  subst hu
  rfl
theorem Try.infoInt : (Try.prog.info? 3).map (fun i => (i.zero, i.size, i.bytes)) = some (some (.int .i64 0), 1, 8) := by kernel_rfl
theorem countP_step {α : Type} {xs : List α} {p : α → Bool} {k : Nat} {x : α} (h : xs[k]? = some x) : (xs.take (k + 1)).countP p = (xs.take k).countP p + (if p x then 1 else 0) := by
  rw [take_at h, List.countP_append]
  simp [List.countP_cons]
theorem kind_step {f : Nat → At} {r : Nat → Int} {x : At} {k : Nat} : kindTo f r x (k + 1) = if f k = x then r k else kindTo f r x k := rfl
theorem countP_map' {xs : List At} {n : Nat} (h : xs.length = n) (c : Int) : xs.countP (fun x => decide (x.course = c)) = (List.range n).countP (fun j => decide ((fAt xs j).course = c)) := by
  have e : xs = (List.range n).map (fAt xs) := by
    refine List.ext_getElem (by simp [h]) (fun i h1 h2 => ?_)
    simp only [List.getElem_map, List.getElem_range]
    exact (fAt_some (List.getElem?_eq_getElem h1)).symm
  conv => lhs; rw [e]
  rw [List.countP_map]
  rfl
theorem countP_idx (f : Nat → At) (js : List Nat) (c : Int) : (js.map f).countP (fun x => decide (x.course = c)) = js.countP (fun j => decide ((f j).course = c)) := by
  rw [List.countP_map]; rfl

set_option maxRecDepth 100000 in
set_option maxHeartbeats 16000000 in
theorem AverageCounts_any {w : World} (xs : List At) (A : Option Addr) (c : Nat) (hx : Reads w w.heap.size A 5 At.enc xs) (hq : ∀ y ∈ xs, At.ok y) (hm : xs.length ≤ maxLen) (rs : List Int) (D : Option Addr) (d : Nat) (hy : Reads w w.heap.size D 1 In.enc rs) (hqy : ∀ y ∈ rs, In.ok y) (hmy : rs.length ≤ maxLen) :
    Calls Try.prog 7 #[.slice A xs.length c, .slice D rs.length d] w fun e w' => e = .returned (.bool true) ∧ Below w.heap.size w w' := by
  unfold maxLen at hm hmy
  go_enter Try.func7, Try.ntmps7
  have G := Lib.hid (Below.refl w.heap.size w)
  have RL := Lib.hid hx
  have RY := Lib.hid hy
  clear hx hy
  go_wp2_with fail
  refine (sane_any _).mono ?_
  rintro e w1 ⟨rfl, hb_w1⟩
  have S_w1 : Below w.heap.size w w1 := (Below.refl _ w).trans (hb_w1.mono (by (try simp) <;> omega))
  have G := Lib.hid (G.out.trans (S_w1.mono G.out.size))
  have RL := Lib.hid ((RL.out.below S_w1).more S_w1.size)
  have RY := Lib.hid ((RY.out.below S_w1).more S_w1.size)
  have z_w1 := S_w1.size
  by_cases hf : xs.length ≤ 40
  rotate_left
  · have hd : decide (xs.length ≤ 40) = false := by simp; omega
    go_wp2_with fail
    refine (few_any xs A c _).mono ?_
    rw [hd]
    rintro e w9 ⟨rfl, rfl⟩
    go_wp2_with fail
    go_ret
    exact ⟨rfl, G.out⟩
  have hd : decide (xs.length ≤ 40) = true := by simp; omega
  by_cases hg : rs.length ≤ 60
  rotate_left
  · have hd2 : decide ((60 : Int) < (rs.length : Int)) = true := by simp; omega
    go_wp2_with fail
    refine (few_any xs A c _).mono ?_
    rw [hd]
    rintro e w9 ⟨rfl, rfl⟩
    go_wp2_with fail
    go_ret
    exact ⟨rfl, G.out⟩
  have hd2 : decide ((60 : Int) < (rs.length : Int)) = false := by simp; omega
  go_wp2_with fail
  refine (few_any xs A c _).mono ?_
  rw [hd]
  rintro e w9 ⟨rfl, rfl⟩
  clear hd
  by_cases hok : (xs.any fun a => !a.good) = false ∧ rs.length = xs.length ∧ Okay (fAt xs) (rAt rs) xs.length
  rotate_left
  · have hbad : ∃ E, countedA xs rs = ([], E) ∧ (E == 0) = false := by
      cases hb : xs.any (fun a => !a.good)
      · by_cases hl2 : rs.length = xs.length
        · exact ⟨1, countedA_arg hb hl2 (fun h => hok ⟨hb, hl2, h⟩), by decide⟩
        · exact ⟨1, countedA_len hb hl2, by decide⟩
      · exact ⟨150, countedA_bad hb, by decide⟩
    obtain ⟨E, hE, hE0⟩ := hbad
    have HE := Lib.hid hE
    clear hE hok
    go_wp2_with fail
    refine (Counted_any xs rs A D c d _ RL.out RY.out (by omega) (by omega)).mono ?_
    rw [HE.out]
    rintro e w2 ⟨⟨v1, rfl, hv1⟩, hb_w2⟩
    obtain ⟨A1, c1, rfl, _, hl1⟩ := hv1.shape
    go_wp2_with fail
    go_ret
    exact ⟨rfl, G.out.trans (hb_w2.mono G.out.size)⟩
  obtain ⟨hbd, hlen, hokk⟩ := hok
  have q1 : ((rs.length : Int) == (xs.length : Int)) = true := by simp [hlen]
  have q2 : ((rs.length : Int) != (xs.length : Int)) = false := by simp [hlen]
  obtain ⟨js, hjs⟩ : ∃ js, js = cIdx (fAt xs) (rAt rs) xs.length := ⟨_, rfl⟩
  obtain ⟨cl, hcl⟩ : ∃ cl, cl = countedL (fAt xs) (rAt rs) xs.length := ⟨_, rfl⟩
  have hcj : cl = js.map (fAt xs) := by rw [hcl, hjs]; exact countedL_idx _ _ _
  have hjn : js.length ≤ xs.length := by rw [hjs]; exact cIdx_len _ _ _
  have hcn : cl.length = js.length := by rw [hcj]; simp
  have HC : Hid (countedA xs rs = (cl, 0)) := Lib.hid (by rw [hcl]; exact countedA_ok hbd hlen hokk)
  have HA0 : Hid (countedA cl (js.map (rAt rs)) = (cl, 0)) := Lib.hid (by rw [hjs, hcl]; exact again_law hbd hlen hokk)
  have HCJ := Lib.hid hcj
  obtain ⟨ks, hks⟩ : ∃ ks, ks = js.map (rAt rs) := ⟨_, rfl⟩
  have HKS := Lib.hid hks
  have HJ := Lib.hid hjs
  have HLEN := Lib.hid hlen
  have HOK := Lib.hid hokk
  have HCN := Lib.hid hcn
  have hcle : cl.length ≤ 40 := by omega
  have HA : Hid (countedA cl ks = (cl, 0)) := Lib.hid (by rw [hks]; exact HA0.out)
  clear hbd hlen hokk hjs hcl hcj hcn HA0 hks
  go_wp2_with fail
  refine (Counted_any xs rs A D c d _ RL.out RY.out (by omega) (by omega)).mono ?_
  rw [HC.out]
  rintro e w2 ⟨⟨v1, rfl, hv1⟩, hb_w2⟩
  have S_w2 : Below w1.heap.size w1 w2 := (Below.refl _ w1).trans (hb_w2.mono (by (try simp) <;> omega))
  have G := Lib.hid (G.out.trans (S_w2.mono G.out.size))
  have RL := Lib.hid ((RL.out.below S_w2).more S_w2.size)
  have RY := Lib.hid ((RY.out.below S_w2).more S_w2.size)
  have z_w2 := S_w2.size
  obtain ⟨A1, c1, rfl, hA1, hl1⟩ := hv1.shape
  have RC := Lib.hid (hv1.reads At.enc_len)
  clear hv1 hb_w2 hA1 hl1
  obtain ⟨i0, hinf, hz0, hz1, hz2⟩ := info_parts Try.infoInt
  have HINF := Lib.hid hinf
  clear hinf
  go_wp2_with fail
  go_loopw [7, 8] (fun v i wr => ∃ k : Nat, k ≤ cl.length ∧ i = .int .i64 k ∧ Owns wr w2.heap.size 3 1 intE v (ks.take k) ∧ Below w2.heap.size w2 wr) (fun _ i _ => cl.length - (intOf i).toNat)
  case atStart => exact ⟨0, Nat.zero_le _, rfl, Owns.lit (ys := ([] : List Int)) intE_len rfl (Nat.le_refl _) (by simp), (Below.refl _ _).alloc (Nat.le_refl _) _⟩
  case round =>
    obtain ⟨i, hi, rfl, hown, hB⟩ := hrel
    have hzr := hB.size
    obtain ⟨pre, hpre⟩ : ∃ pre, pre = ks.take i := ⟨_, rfl⟩
    rw [← hpre] at hown
    have HPR := Lib.hid hpre
    have hkl : pre.length ≤ 40 := by rw [hpre]; simp; omega
    clear hpre
    obtain ⟨Av, cv, rfl, hAv, _⟩ := hown.shape
    have HOW := Lib.hid hown
    have HB0 := Lib.hid hB
    clear hown hAv hB
    obtain ⟨wo, hwo⟩ : ∃ wo : World, wo = wr := ⟨_, rfl⟩
    subst hwo
    by_cases hlt : i < cl.length
    · have hij : i < js.length := by rw [← HCN.out]; exact hlt
      obtain ⟨j, hj⟩ : ∃ j, js[i]? = some j := ⟨_, List.getElem?_eq_getElem hij⟩
      have hjm : j ∈ cIdx (fAt xs) (rAt rs) xs.length := by rw [← HJ.out]; exact List.mem_of_getElem? hj
      obtain ⟨hjx, hjc⟩ := cIdx_mem hjm
      have hci : cl[i]? = some (fAt xs j) := by rw [HCJ.out, List.getElem?_map, hj]; rfl
      have hki : ks[i]? = some (rAt rs j) := by rw [HKS.out, List.getElem?_map, hj]; rfl
      obtain ⟨x, hx⟩ : ∃ x, x = fAt xs j := ⟨_, rfl⟩
      obtain ⟨kd, hkd⟩ : ∃ kd, kd = rAt rs j := ⟨_, rfl⟩
      have hkr := HOK.out.1 j hjx
      rw [← hkd] at hkr hki
      rw [← hx] at hci
      have HCI := Lib.hid hci
      have HKI := Lib.hid (take_at hki)
      have HX := Lib.hid hx
      have HKD := Lib.hid hkd
      have HJC := Lib.hid hjc
      have HK2 : Hid (kindTo (fAt xs) (rAt rs) x xs.length = kd) := Lib.hid (by rw [hx, hkd]; exact (kindTo_is HOK.out hjx xs.length (Nat.le_refl _)).1 hjx)
      clear hj hjm hjc hci hki hx hkd
      obtain ⟨hk0, hk2⟩ := hkr
      go_wp2_with fail
      go_loopw [9, 10] (fun t q wr => ∃ k : Nat, k ≤ xs.length ∧ q = .int .i64 k ∧ t = .int .i64 (kindTo (fAt xs) (rAt rs) x k) ∧ Below wo.heap.size wo wr) (fun _ q _ => xs.length - (intOf q).toNat)
      case atStart => exact ⟨0, Nat.zero_le _, rfl, rfl, Below.refl _ _⟩
      case round =>
        obtain ⟨k, hk, rfl, rfl, hBo⟩ := hrel
        have hzo := hBo.size
        have hB2 : Below w2.heap.size w2 wr := HB0.out.trans (hBo.mono hzr)
        obtain ⟨kt, hkt⟩ : ∃ kt, kt = kindTo (fAt xs) (rAt rs) x k := ⟨_, rfl⟩
        rw [← hkt]
        have HKT := Lib.hid hkt
        have HBO := Lib.hid hBo
        have HB2 := Lib.hid hB2
        have hz2w := hB2.size
        clear hkt hBo hB2
        by_cases hltk : k < xs.length
        · obtain ⟨b1, o1, l, rfl, hbl1, hlk, hc1⟩ := (RL.out.below HB2.out).at_ hltk
          obtain ⟨b3, o3, x', rfl, hbl3, hxk, hc3⟩ := (RC.out.below HB2.out).at_ hlt
          rw [HCI.out] at hxk
          obtain rfl := Option.some.inj hxk
          have p0 := hc1 0 _ rfl
          have p1 := hc1 1 _ rfl
          have p2 := hc1 2 _ rfl
          have p3 := hc1 3 _ rfl
          have p4 := hc1 4 _ rfl
          have s0 := hc3 0 _ rfl
          have s1 := hc3 1 _ rfl
          have s2 := hc3 2 _ rfl
          have s3 := hc3 3 _ rfl
          have s4 := hc3 4 _ rfl
          simp only [Nat.add_zero] at p0 s0
          have hy1 : b1 < wr.heap.size := by omega
          have hy3 : b3 < wr.heap.size := by omega
          have hi0 : (0 : Int) ≤ (i : Int) := by omega
          have hk00 : (0 : Int) ≤ (k : Int) := by omega
          have FL : Hid (fAt xs k = l) := Lib.hid (fAt_some hlk)
          clear hc1 hc3 hlk hxk
          obtain ⟨x0, x1, x2, x3, x4⟩ := x
          obtain ⟨y0, y1, y2, y3, y4⟩ := l
          simp only at p0 p1 p2 p3 p4 s0 s1 s2 s3 s4
          by_cases hxy : (⟨y0, y1, y2, y3, y4⟩ : At) = ⟨x0, x1, x2, x3, x4⟩
          · have hkr : k < rs.length := by rw [HLEN.out]; exact hltk
            have HST : Hid (kindTo (fAt xs) (rAt rs) ⟨x0, x1, x2, x3, x4⟩ (k + 1) = rAt rs k) := Lib.hid (by rw [kind_step, FL.out, if_pos hxy])
            obtain ⟨rfl, rfl, rfl, rfl, rfl⟩ := (at_eq_cells _ _).1 hxy
            clear hxy
            go_wp2_with fail
            refine wp_region_below (by kernel_rfl) (by kernel_rfl) ?_
            repeat (first
              | go_big_quiet_skip
              | (go_big_quiet_want
                 first
                   | (apply quiet_val
                      focus (
                        intro WC hWC
                        obtain ⟨hcc0, hff0⟩ := bcell hWC
                        go_simp
                        all_goals rfl
                        done)
                      go_simp
                      go_big_quiet_on)))
            refine wpQuiet_nil ?_
            intro W2 hW2
            obtain ⟨b4, o4, rk, rfl, hbl4, hrk, hd4⟩ := (RY.out.below (HB2.out.trans (hW2.mono hz2w))).at_ hkr
            have u0 := hd4 0 _ rfl
            simp only [Nat.add_zero, Nat.mul_one] at u0
            have hy4 : b4 < W2.heap.size := by have := hW2.size; omega
            have RK : Hid (rAt rs k = rk) := Lib.hid (rAt_some hrk)
            have HW := Lib.hid hW2
            clear hd4 hrk hW2
            go_wp2_with fail
            go_roundw
            case rel => exact ⟨k + 1, by omega, by go_num, by rw [HST.out, RK.out], HBO.out.trans (HW.out.mono hzo)⟩
            case measure => simp [intOf]; omega
          · have HST : Hid (kindTo (fAt xs) (rAt rs) ⟨x0, x1, x2, x3, x4⟩ (k + 1) = kt) := Lib.hid (by rw [kind_step, FL.out, if_neg hxy, HKT.out])
            have hc5 : ¬ y0 = x0 ∨ (y0 = x0 ∧ ¬ y1 = x1) ∨ (y0 = x0 ∧ y1 = x1 ∧ ¬ y2 = x2) ∨ (y0 = x0 ∧ y1 = x1 ∧ y2 = x2 ∧ ¬ y3 = x3) ∨ (y0 = x0 ∧ y1 = x1 ∧ y2 = x2 ∧ y3 = x3 ∧ ¬ y4 = x4) := by
              simp only [At.mk.injEq] at hxy
              omega
            clear hxy
            rcases hc5 with h | ⟨rfl, h⟩ | ⟨rfl, rfl, h⟩ | ⟨rfl, rfl, rfl, h⟩ | ⟨rfl, rfl, rfl, rfl, h⟩
            all_goals
              go_wp2_with fail
              refine wp_region_below (by kernel_rfl) (by kernel_rfl) ?_
              repeat (first
                | go_big_quiet_skip
                | (go_big_quiet_want
                   first
                     | (apply quiet_val
                        focus (
                          intro WC hWC
                          obtain ⟨hcc0, hff0⟩ := bcell hWC
                          go_simp
                          all_goals rfl
                          done)
                        go_simp
                        go_big_quiet_on)))
              refine wpQuiet_nil ?_
              intro W2 hW2
              go_wp2_with fail
              go_roundw
              case rel => exact ⟨k + 1, by omega, by go_num, by rw [HST.out], HBO.out.trans (hW2.mono hzo)⟩
              case measure => simp [intOf]; omega
        · obtain rfl : k = xs.length := by omega
          rw [HKT.out, HK2.out]
          clear HKT
          have HOW2 := Lib.hid (HOW.out.below HBO.out (Nat.le_refl _))
          have hneg : decide (kd < 0) = false := by simp; omega
          go_wp2_with (at_builtin; refine stop_mk ?_)
          refine stop_out (wpList_append_reads (en := intE) (sz := 1) _ rfl _ _ _ rfl intE_len intE_one w2.heap.size 3 i0 _ 8 Try.underlying34 HINF.out hz0 hz1 hz2 rfl (by omega) _ pre rfl (HOW2.out.alloc _) (wr.heap.size + 1) (some ⟨wr.heap.size, 0, none⟩) 1 [kd] rfl (reads_one wr intE kd _ _ rfl 1 wr.heap.size rfl) (fun h => by cases h) (by simp [maxLen]; omega) (by simp; omega) (by simp; omega) ?_)
          intro v9 w9 hown9 hg9 hat9 _
          have hb9 : Below w2.heap.size w2 w9 := (HB2.out.alloc HB2.out.size _).grown hg9 (by simp; omega) (fun q e => HOW2.out.base_le q e)
          obtain ⟨pre2, hpre2⟩ : ∃ pre2, pre2 = ks.take (i + 1) := ⟨_, rfl⟩
          have HPR2 := Lib.hid hpre2
          rw [HPR.out, ← HKI.out, ← hpre2] at hown9
          clear hpre2
          obtain ⟨A9, c9, rfl, _, _⟩ := hown9.shape
          have HOW9 := Lib.hid hown9
          have HB9 := Lib.hid hb9
          clear hg9 hat9 hown9 hb9
          go_wp2_with fail
          obtain ⟨wo2, hwo2⟩ : ∃ wo2 : World, wo2 = w9 := ⟨_, rfl⟩
          subst hwo2
          go_loopw [11] (fun q wr => ∃ k : Nat, k ≤ xs.length ∧ q = .int .i64 k ∧ Below wo2.heap.size wo2 wr) (fun q _ => xs.length - (intOf q).toNat)
          case atStart => exact ⟨0, Nat.zero_le _, rfl, Below.refl _ _⟩
          case round =>
            obtain ⟨k, hk, rfl, hB5⟩ := hrel
            have hz5 := hB5.size
            have hB6 : Below w2.heap.size w2 wr := HB9.out.trans (hB5.mono HB9.out.size)
            have hz6 := hB6.size
            have HB5 := Lib.hid hB5
            have HB6 := Lib.hid hB6
            clear hB5 hB6
            by_cases hltk : k < xs.length
            · obtain ⟨b1, o1, l, rfl, hbl1, hlk, hc1⟩ := (RL.out.below HB6.out).at_ hltk
              obtain ⟨b3, o3, x', rfl, hbl3, hxk, hc3⟩ := (RC.out.below HB6.out).at_ hlt
              rw [HCI.out] at hxk
              obtain rfl := Option.some.inj hxk
              have p0 := hc1 0 _ rfl
              have p1 := hc1 1 _ rfl
              have p2 := hc1 2 _ rfl
              have s0 := hc3 0 _ rfl
              have s1 := hc3 1 _ rfl
              have s2 := hc3 2 _ rfl
              simp only [Nat.add_zero] at p0 s0
              have hy1 : b1 < wr.heap.size := by omega
              have hy3 : b3 < wr.heap.size := by omega
              have hi0 : (0 : Int) ≤ (i : Int) := by omega
              have hk00 : (0 : Int) ≤ (k : Int) := by omega
              have hbest := counts_best (f := fAt xs) (r := rAt rs) HJC.out hltk
              rw [fAt_some hlk, ← HX.out, ← HKD.out] at hbest
              clear hc1 hc3 hlk hxk
              obtain ⟨x0, x1, x2, x3, x4⟩ := x
              obtain ⟨y0, y1, y2, y3, y4⟩ := l
              simp only at p0 p1 p2 s0 s1 s2 hbest
              by_cases hco : y0 = x0
              rotate_left
              · have e1 : (y0 == x0) = false := by simp [hco]
                have e2 : (y0 != x0) = true := by simp [hco]
                clear hco hbest
                go_wp2_with fail
                refine wp_region_below (by kernel_rfl) (by kernel_rfl) ?_
                repeat (first
                  | go_big_quiet_skip
                  | (go_big_quiet_want
                     first
                       | (apply quiet_val
                          focus (
                            intro WC hWC
                            obtain ⟨hcc0, hff0⟩ := bcell hWC
                            go_simp
                            all_goals rfl
                            done)
                          go_simp
                          go_big_quiet_on)))
                refine wpQuiet_nil ?_
                intro W2 hW2
                go_wp2_with fail
                go_roundw
                case rel => exact ⟨k + 1, by omega, by go_num, HB5.out.trans (hW2.mono hz5)⟩
                case measure => simp [intOf]; omega
              have e1 : (y0 == x0) = true := by simp [hco]
              have e2 : (y0 != x0) = false := by simp [hco]
              have hbest := hbest hco
              clear hco
              have hways : (((kd == 0) = true ∧ decide (x2 < y2) = false ∧ (y2 == x2) = false) ∧ (kd == 1) = false) ∨ (((kd == 0) = true ∧ decide (x2 < y2) = false ∧ (y2 == x2) = true ∧ decide (y1 < x1) = false) ∧ (kd == 1) = false) ∨
                  ((kd == 0) = false ∧ (kd == 1) = true ∧ decide (x1 < y1) = false) ∨ ((kd == 0) = false ∧ (kd == 1) = false) := by
                obtain ⟨hb0, hb1⟩ := hbest
                by_cases h0 : kd = 0
                · obtain ⟨h1, h2⟩ := hb0 h0
                  by_cases hg : y2 = x2
                  · right; left; simp [h0, hg]; omega
                  · left; simp [h0, hg]; omega
                · by_cases h1 : kd = 1
                  · right; right; left
                    have := hb1 h1
                    simp [h1]; omega
                  · right; right; right; simp [h0, h1]
              clear hbest
              rcases hways with ⟨⟨d1, d2, d3⟩, d4⟩ | ⟨⟨d1, d2, d3, d4⟩, d5⟩ | ⟨d1, d2, d3⟩ | ⟨d1, d2⟩
              all_goals
                go_wp2_with fail
                refine wp_region_below (by kernel_rfl) (by kernel_rfl) ?_
                repeat (first
                  | go_big_quiet_skip
                  | (go_big_quiet_want
                     first
                       | (apply quiet_val
                          focus (
                            intro WC hWC
                            obtain ⟨hcc0, hff0⟩ := bcell hWC
                            go_simp
                            all_goals rfl
                            done)
                          go_simp
                          go_big_quiet_on)))
                refine wpQuiet_nil ?_
                intro W2 hW2
                have hzw2 := hW2.size
                have p0 := (hW2.cell (p := ⟨b1, _, none⟩) hy1).trans p0
                have p1 := (hW2.cell (p := ⟨b1, _, none⟩) hy1).trans p1
                have p2 := (hW2.cell (p := ⟨b1, _, none⟩) hy1).trans p2
                have s0 := (hW2.cell (p := ⟨b3, _, none⟩) hy3).trans s0
                have s1 := (hW2.cell (p := ⟨b3, _, none⟩) hy3).trans s1
                have s2 := (hW2.cell (p := ⟨b3, _, none⟩) hy3).trans s2
                have hy1 : b1 < W2.heap.size := by omega
                have hy3 : b3 < W2.heap.size := by omega
                have HW2 := Lib.hid hW2
                clear hW2
                go_wp2_with fail
                refine wp_region_below (by kernel_rfl) (by kernel_rfl) ?_
                repeat (first
                  | go_big_quiet_skip
                  | (go_big_quiet_want
                     first
                       | (apply quiet_val
                          focus (
                            intro WC hWC
                            obtain ⟨hcc0, hff0⟩ := bcell hWC
                            go_simp
                            all_goals rfl
                            done)
                          go_simp
                          go_big_quiet_on)))
                refine wpQuiet_nil ?_
                intro W3 hW3
                go_wp2_with fail
                go_roundw
                case rel => exact ⟨k + 1, by omega, by go_num, HB5.out.trans ((HW2.out.trans (hW3.mono hzw2)).mono hz5)⟩
                case measure => simp [intOf]; omega
            · obtain rfl : k = xs.length := by omega
              have HOW3 := Lib.hid (HOW9.out.below HB5.out (Nat.le_refl _))
              go_wp2_with fail
              go_roundw
              case rel => exact ⟨i + 1, by omega, by go_num, by rw [← HPR2.out]; exact HOW3.out, HB6.out⟩
              case measure => simp [intOf]; omega
    · obtain rfl : i = cl.length := by omega
      obtain rfl : pre = ks := by rw [HPR.out, List.take_of_length_le]; rw [HKS.out, HCN.out]; simp
      have RK := Lib.hid (HOW.out.reads intE_len)
      clear hzr hlt hi
      go_wp2_with fail
      go_loopw [12] (fun q wr => ∃ k : Nat, k ≤ xs.length ∧ q = .int .i64 k ∧ Below wo.heap.size wo wr) (fun q _ => xs.length - (intOf q).toNat)
      case atStart => exact ⟨0, Nat.zero_le _, rfl, Below.refl _ _⟩
      case round =>
        obtain ⟨i, hi, rfl, hB⟩ := hrel
        have hzr := hB.size
        have HB := Lib.hid hB
        have hB2 : Below w2.heap.size w2 wr := HB0.out.trans (hB.mono HB0.out.size)
        have HBB := Lib.hid hB2
        clear hB hB2
        by_cases hlt : i < xs.length
        · obtain ⟨c0, hc0⟩ : ∃ c0, c0 = (fAt xs i).course := ⟨_, rfl⟩
          have hcl2 := count_law HOK.out hlt
          rw [← hc0, ← HJ.out, ← countP_idx, ← HCJ.out, ← countP_map' rfl] at hcl2
          have HCL := Lib.hid hcl2
          have HC0 := Lib.hid hc0
          clear hcl2 hc0
          obtain ⟨wp, hwp⟩ : ∃ wp : World, wp = wr := ⟨_, rfl⟩
          subst hwp
          go_wp2_with fail
          go_loopw [13, 15] (fun t q wr => ∃ k : Nat, k ≤ cl.length ∧ q = .int .i64 k ∧ t = .int .i64 ((cl.take k).countP (fun x => decide (x.course = c0)) : Nat) ∧ Below wp.heap.size wp wr) (fun _ q _ => cl.length - (intOf q).toNat)
          case atStart => exact ⟨0, Nat.zero_le _, rfl, rfl, Below.refl _ _⟩
          case round =>
            obtain ⟨k, hk, rfl, rfl, hBo⟩ := hrel
            have hzo := hBo.size
            have hB2 : Below w2.heap.size w2 wr := HBB.out.trans (hBo.mono HBB.out.size)
            have hz2 := hB2.size
            obtain ⟨ct, hct⟩ : ∃ ct, ct = (cl.take k).countP (fun x => decide (x.course = c0)) := ⟨_, rfl⟩
            have hctl : ct ≤ 40 := by rw [hct]; exact Nat.le_trans List.countP_le_length (by simp; omega)
            rw [← hct]
            have HCT := Lib.hid hct
            have HBO := Lib.hid hBo
            have HB2 := Lib.hid hB2
            clear hct hBo hB2
            by_cases hltk : k < cl.length
            · obtain ⟨b1, o1, z, rfl, hbl1, hzk, hc1⟩ := (RL.out.below HB2.out).at_ hlt
              obtain ⟨b3, o3, x, rfl, hbl3, hxk, hc3⟩ := (RC.out.below HB2.out).at_ hltk
              have p0 := hc1 0 _ rfl
              have s0 := hc3 0 _ rfl
              simp only [Nat.add_zero] at p0 s0
              have hy1 : b1 < wr.heap.size := by omega
              have hy3 : b3 < wr.heap.size := by omega
              have hi0 : (0 : Int) ≤ (i : Int) := by omega
              have hk00 : (0 : Int) ≤ (k : Int) := by omega
              have hcz : z.course = c0 := by rw [HC0.out, fAt_some hzk]
              have hstep := countP_step (p := fun x : At => decide (x.course = c0)) hxk
              rw [← HCT.out] at hstep
              have HST := Lib.hid hstep
              rw [hcz] at p0
              obtain ⟨xc, hxc⟩ : ∃ xc, xc = x.course := ⟨_, rfl⟩
              rw [← hxc] at s0
              clear hc1 hc3 hzk hxk hcz hstep
              by_cases hco : xc = c0
              · have e1 : (xc == c0) = true := by simp [hco]
                have HE : Hid ((cl.take (k + 1)).countP (fun x => decide (x.course = c0)) = ct + 1) := Lib.hid (by rw [HST.out, ← hxc]; simp [hco])
                clear hco hxc
                go_wp2_with fail
                refine wp_region_below (by kernel_rfl) (by kernel_rfl) ?_
                repeat (first
                  | go_big_quiet_skip
                  | (go_big_quiet_want
                     first
                       | (apply quiet_val
                          focus (
                            intro WC hWC
                            obtain ⟨hcc0, hff0⟩ := bcell hWC
                            go_simp
                            all_goals rfl
                            done)
                          go_simp
                          go_big_quiet_on)))
                refine wpQuiet_nil ?_
                intro W2 hW2
                go_wp2_with fail
                go_roundw
                case rel => exact ⟨k + 1, by omega, by go_num, by rw [HE.out]; go_num, HBO.out.trans (hW2.mono hzo)⟩
                case measure => simp [intOf]; omega
              · have e1 : (xc == c0) = false := by simp [hco]
                have HE : Hid ((cl.take (k + 1)).countP (fun x => decide (x.course = c0)) = ct) := Lib.hid (by rw [HST.out, ← hxc]; simp [hco])
                clear hco hxc
                go_wp2_with fail
                refine wp_region_below (by kernel_rfl) (by kernel_rfl) ?_
                repeat (first
                  | go_big_quiet_skip
                  | (go_big_quiet_want
                     first
                       | (apply quiet_val
                          focus (
                            intro WC hWC
                            obtain ⟨hcc0, hff0⟩ := bcell hWC
                            go_simp
                            all_goals rfl
                            done)
                          go_simp
                          go_big_quiet_on)))
                refine wpQuiet_nil ?_
                intro W2 hW2
                go_wp2_with fail
                go_roundw
                case rel => exact ⟨k + 1, by omega, by go_num, by rw [HE.out], HBO.out.trans (hW2.mono hzo)⟩
                case measure => simp [intOf]; omega
            · obtain rfl : k = cl.length := by omega
              have hct := HCT.out
              rw [List.take_length] at hct
              have HCA := Lib.hid hct
              clear hct HCT
              obtain ⟨wq, hwq⟩ : ∃ wq : World, wq = wr := ⟨_, rfl⟩
              subst hwq
              go_wp2_with fail
              go_loopw [14, 16] (fun t q wr => ∃ k : Nat, k ≤ xs.length ∧ q = .int .i64 k ∧ t = .int .i64 ((xs.take k).countP (fun x => decide (x.course = c0)) : Nat) ∧ Below wq.heap.size wq wr) (fun _ q _ => xs.length - (intOf q).toNat)
              case atStart => exact ⟨0, Nat.zero_le _, rfl, rfl, Below.refl _ _⟩
              case round =>
                obtain ⟨k, hk, rfl, rfl, hBq⟩ := hrel
                have hzq := hBq.size
                have hB3 : Below w2.heap.size w2 wr := HB2.out.trans (hBq.mono HB2.out.size)
                have hz3 := hB3.size
                obtain ⟨cu, hcu⟩ : ∃ cu, cu = (xs.take k).countP (fun x => decide (x.course = c0)) := ⟨_, rfl⟩
                have hcul : cu ≤ 40 := by rw [hcu]; exact Nat.le_trans List.countP_le_length (by simp; omega)
                rw [← hcu]
                have HCU := Lib.hid hcu
                have HBQ := Lib.hid hBq
                have HB3 := Lib.hid hB3
                clear hcu hBq hB3
                by_cases hltk : k < xs.length
                · obtain ⟨b1, o1, z, rfl, hbl1, hzk, hc1⟩ := (RL.out.below HB3.out).at_ hlt
                  obtain ⟨b3, o3, x, e3, _, hxk, hc3⟩ := (RL.out.below HB3.out).at_ hltk
                  simp only [Option.some.injEq, Addr.mk.injEq, and_true] at e3
                  obtain ⟨rfl, rfl⟩ := e3
                  have p0 := hc1 0 _ rfl
                  have s0 := hc3 0 _ rfl
                  simp only [Nat.add_zero] at p0 s0
                  have hy1 : b1 < wr.heap.size := by omega
                  have hi0 : (0 : Int) ≤ (i : Int) := by omega
                  have hk00 : (0 : Int) ≤ (k : Int) := by omega
                  have hcz : z.course = c0 := by rw [HC0.out, fAt_some hzk]
                  have hstep := countP_step (p := fun x : At => decide (x.course = c0)) hxk
                  rw [← HCU.out] at hstep
                  have HST := Lib.hid hstep
                  rw [hcz] at p0
                  obtain ⟨xc, hxc⟩ : ∃ xc, xc = x.course := ⟨_, rfl⟩
                  rw [← hxc] at s0
                  clear hc1 hc3 hzk hxk hcz hstep
                  by_cases hco : xc = c0
                  · have e1 : (xc == c0) = true := by simp [hco]
                    have HE : Hid ((xs.take (k + 1)).countP (fun x => decide (x.course = c0)) = cu + 1) := Lib.hid (by rw [HST.out, ← hxc]; simp [hco])
                    clear hco hxc
                    go_wp2_with fail
                    refine wp_region_below (by kernel_rfl) (by kernel_rfl) ?_
                    repeat (first
                      | go_big_quiet_skip
                      | (go_big_quiet_want
                         first
                           | (apply quiet_val
                              focus (
                                intro WC hWC
                                obtain ⟨hcc0, hff0⟩ := bcell hWC
                                go_simp
                                all_goals rfl
                                done)
                              go_simp
                              go_big_quiet_on)))
                    refine wpQuiet_nil ?_
                    intro W2 hW2
                    go_wp2_with fail
                    go_roundw
                    case rel => exact ⟨k + 1, by omega, by go_num, by rw [HE.out]; go_num, HBQ.out.trans (hW2.mono hzq)⟩
                    case measure => simp [intOf]; omega
                  · have e1 : (xc == c0) = false := by simp [hco]
                    have HE : Hid ((xs.take (k + 1)).countP (fun x => decide (x.course = c0)) = cu) := Lib.hid (by rw [HST.out, ← hxc]; simp [hco])
                    clear hco hxc
                    go_wp2_with fail
                    refine wp_region_below (by kernel_rfl) (by kernel_rfl) ?_
                    repeat (first
                      | go_big_quiet_skip
                      | (go_big_quiet_want
                         first
                           | (apply quiet_val
                              focus (
                                intro WC hWC
                                obtain ⟨hcc0, hff0⟩ := bcell hWC
                                go_simp
                                all_goals rfl
                                done)
                              go_simp
                              go_big_quiet_on)))
                    refine wpQuiet_nil ?_
                    intro W2 hW2
                    go_wp2_with fail
                    go_roundw
                    case rel => exact ⟨k + 1, by omega, by go_num, by rw [HE.out], HBQ.out.trans (hW2.mono hzq)⟩
                    case measure => simp [intOf]; omega
                · obtain rfl : k = xs.length := by omega
                  have hcu := HCU.out
                  rw [List.take_length] at hcu
                  have hkr : i < rs.length := by rw [HLEN.out]; exact hlt
                  obtain ⟨b4, o4, rk, rfl, hbl4, hrk, hd4⟩ := (RY.out.below HB3.out).at_ hkr
                  have u0 := hd4 0 _ rfl
                  simp only [Nat.add_zero, Nat.mul_one] at u0
                  have hy4 : b4 < wr.heap.size := by omega
                  have hi0 : (0 : Int) ≤ (i : Int) := by omega
                  have hlaw := HCL.out
                  rw [rAt_some hrk, ← HCA.out, ← hcu] at hlaw
                  have HBN : Hid (Below wo.heap.size wo wr) := Lib.hid (HB.out.trans ((HBO.out.trans (HBQ.out.mono hzo)).mono hzr))
                  clear hd4 hrk hcu HCU
                  have hways : ((rk == 2) = true ∧ (rk != 2) = false ∧ ((ct : Int) == (cu : Int)) = true ∧ ((ct : Int) != (cu : Int)) = false) ∨ ((rk == 2) = false ∧ (rk != 2) = true ∧ ((ct : Int) == 1) = true ∧ ((ct : Int) != 1) = false) := by
                    by_cases h : rk = 2
                    · left; have := hlaw.1 h; simp [h, this]
                    · right; have := hlaw.2 h; simp [h, this]
                  clear hlaw
                  rcases hways with ⟨d1, d2, d3, d4⟩ | ⟨d1, d2, d3, d4⟩
                  all_goals
                    go_wp2_with fail
                    go_roundw
                    case rel => exact ⟨i + 1, by omega, by go_num, HBN.out⟩
                    case measure => simp [intOf]; omega
        · obtain rfl : i = xs.length := by omega
          have RC2 := Lib.hid ((RC.out.below HBB.out).more HBB.out.size)
          have RK2 := Lib.hid ((RK.out.below HB.out).more HB.out.size)
          have HG := Lib.hid (G.out.trans (HBB.out.mono G.out.size))
          have hkln : pre.length ≤ 40 := hkl
          go_wp2_with fail
          refine (Counted_any cl pre A1 Av c1 cv _ RC2.out RK2.out (by omega) (by omega)).mono ?_
          rw [HA.out]
          rintro e w5 ⟨⟨v5, rfl, hv5⟩, hb_w5⟩
          obtain ⟨A5, c5, rfl, _, hl5⟩ := hv5.shape
          have O5 := Lib.hid hv5
          have RC3 := Lib.hid ((RC2.out.below hb_w5).more hb_w5.size)
          have HG5 := Lib.hid (HG.out.trans (hb_w5.mono HG.out.size))
          clear hv5 hb_w5
          go_wp2_with fail
          refine (Same_any cl cl A1 A5 c1 c5 _ RC3.out (O5.out.reads At.enc_len) (by omega) (by omega)).mono ?_
          rw [show decide (cl = cl) = true from by simp]
          rintro e w6 ⟨rfl, hb_w6⟩
          go_wp2_with fail
          go_ret
          exact ⟨rfl, HG5.out.trans (hb_w6.mono HG5.out.size)⟩
end Go.Proofs.Ytimaealmmjdjkaa
