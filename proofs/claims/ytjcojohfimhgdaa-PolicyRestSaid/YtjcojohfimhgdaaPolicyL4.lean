/- PolicyRest, walked. -/
import Derived.Test.YtjcojohfimhgdaaPolicyL3
namespace Go.Proofs.Ytjcojohfimhgdaa
open Go.RowKit

theorem action_own (xs : List Cl) (kk : Cl → Bool) (kind b a t n : Int) (hk : ∀ x, kk x = (x.kind == kind)) : actionP (xs.filter kk) kind b a t n = actionP xs kind b a t n := by
  unfold actionP
  rw [List.find?_filter]
  have : (fun x => decide (kk x = true ∧ applB kind b a t n x = true)) = applB kind b a t n := by
    funext x
    rw [hk]
    unfold applB
    by_cases h : x.kind = kind <;> simp [h]
  rw [this]

set_option maxRecDepth 100000 in
set_option maxHeartbeats 2000000 in
theorem PolicyRest_any {w : World} (xs : List Cl) (A : Option Addr) (c : Nat) (hx0 : Reads w w.heap.size A 4 Cl.enc xs) (hq : ∀ y ∈ xs, y.ok) (hm : xs.length ≤ maxLen) (hnx : A = none → c = 0)
    (ys : List Cl) (D : Option Addr) (d : Nat) (hy0 : Reads w w.heap.size D 4 Cl.enc ys) (hqy : ∀ y ∈ ys, y.ok) (hmy : ys.length ≤ maxLen) (hny : D = none → d = 0)
    (kind : Int) (wk : (Lit.int .i64 kind).wf = true) (b : Int) (wb : (Lit.int .i64 b).wf = true) (a : Int) (wa : (Lit.int .i64 a).wf = true) (term : Int) (wt : (Lit.int .u16 term).wf = true) (now : Int) (wn : (Lit.int .u16 now).wf = true) :
    Calls Try.prog 6 #[.slice A xs.length c, .slice D ys.length d, .int .i64 kind, .int .i64 b, .int .i64 a, .int .u16 term, .int .u16 now] w fun e w' => e = .returned (.bool true) ∧ Below w.heap.size w w' := by
  unfold maxLen at hm hmy
  obtain ⟨ht0, ht1⟩ := bounds_u16 wt
  obtain ⟨hn0, hn1⟩ := bounds_u16 wn
  clear hq hqy wk wb wa wt wn
  have HX := Lib.hid hx0
  have HY := Lib.hid hy0
  have NX := Lib.hid hnx
  have NY := Lib.hid hny
  clear hx0 hy0 hnx hny
  go_enter Try.func6, Try.ntmps6
  go_wp2_with fail
  refine (sane_any _).mono ?_
  rintro e w1 ⟨rfl, hb1⟩
  go_wp2_with fail
  refine (few_any xs A c _).mono ?_
  rintro e w1' ⟨rfl, rfl⟩
  by_cases h30 : xs.length ≤ 30
  · have hd : decide (xs.length ≤ 30) = true := by simpa using h30
    rw [hd]
    clear hd
    go_wp2_with fail
    refine (few_any ys D d _).mono ?_
    rintro e w1' ⟨rfl, rfl⟩
    by_cases h31 : ys.length ≤ 30
    · have hd : decide (ys.length ≤ 30) = true := by simpa using h31
      rw [hd]
      clear hd
      go_wp2_with fail
      refine (Check_any xs A c _ ((HX.out.below hb1).more hb1.size) hm).mono ?_
      rintro e w2 ⟨rfl, hb2⟩
      have G2 := hb1.trans (hb2.mono hb1.size)
      cases hv : xs.any Cl.bad
      · have hc : checkP xs = 0 := by simp [checkP, hv]
        have V := Lib.hid hv
        rw [hc]
        clear hc hv
        go_wp2_with fail
        refine (Check_any ys D d _ ((HY.out.below G2).more G2.size) hmy).mono ?_
        rintro e w3 ⟨rfl, hb3⟩
        have G3 := G2.trans (hb3.mono G2.size)
        cases hv : ys.any Cl.bad
        · have hc : checkP ys = 0 := by simp [checkP, hv]
          have VY := Lib.hid hv
          rw [hc]
          clear hc hv
          by_cases hk : 1 ≤ kind ∧ kind ≤ 5
          · obtain ⟨k1, k5⟩ := hk
            go_wp2_with fail
            have t0 : 0 ≤ term % 1024 := by omega
            have t1 : term % 1024 < 1024 := by omega
            have n0 : 0 ≤ now % 1024 := by omega
            have n1 : now % 1024 < 1024 := by omega
            generalize term % 1024 = t at *
            generalize now % 1024 = n at *
            have hgen : ∀ (ys : List Cl) (b a : Int), ys.any Cl.bad = false → ActionP ys kind b a t n = (actionP ys kind b a t n, 0) := fun ys b a hv => by
              have ha : argsP ys kind t = 0 := by simp [argsP, hv, kindB, k1, k5, t0, t1]
              rw [ActionP, if_pos ha, if_neg (by omega)]
            have HG := Lib.hid hgen
            clear hgen
            refine (Action_any xs A c kind b a t n _ ((HX.out.below G3).more G3.size) hm).mono ?_
            rw [HG.out _ _ _ V.out]
            rintro e w4 ⟨rfl, hb4⟩
            have G4 := G3.trans (hb4.mono G3.size)
            obtain ⟨r, hr⟩ : ∃ r, r = actionP xs kind b a t n := ⟨_, rfl⟩
            rw [← hr]
            have HR := Lib.hid hr
            clear hr
            go_wp2_with fail
            refine (Action_any ys D d kind b a t n _ ((HY.out.below G4).more G4.size) hmy).mono ?_
            rw [HG.out _ _ _ VY.out]
            rintro e w5 ⟨rfl, hb5⟩
            have G5 := G4.trans (hb5.mono G4.size)
            obtain ⟨q, hq⟩ : ∃ r, r = actionP ys kind b a t n := ⟨_, rfl⟩
            rw [← hq]
            have HQ := Lib.hid hq
            clear hq
            go_wp2_with (at_builtin; refine stop_mk ?_)
            obtain ⟨i0, hi, hz0, hz1, hz2⟩ := info_parts Try.infoCl
            have HI := Lib.hid hi
            clear hi
            have hs5 := G5.size
            have HL : Owns (w5.alloc (.cells #[] 35)) w.heap.size 35 4 Cl.enc (.slice (some ⟨w5.heap.size, 0, none⟩) 0 0) [] := Owns.lit enc_len rfl hs5 (by simp)
            refine stop_out (wpList_append_reads (en := Cl.enc) (sz := 4) _ rfl _ _ _ rfl enc_len enc_one w.heap.size 35 i0 _ 32 Try.underlying22 HI.out hz0 hz1 hz2 rfl (by omega) _ [] rfl HL
              w.heap.size A c xs rfl ((HX.out.below G5).alloc hs5 _) NX.out (by simp [maxLen]; omega) (by simp; omega) (by simp; omega) ?_)
            intro v6 w6 hown6 hg6 hat6 _
            simp only [List.nil_append] at hown6
            have G6 : Below w.heap.size w w6 := (G5.alloc hs5 _).grown hg6 (by simp; omega) HL.base_le
            have hs6 := G6.size
            clear hg6 hat6
            have HO6 := Lib.hid hown6
            clear hown6
            go_wp2_with (at_builtin; refine stop_mk ?_)
            refine stop_out (wpList_append_reads (en := Cl.enc) (sz := 4) _ rfl _ _ _ rfl enc_len enc_one w.heap.size 35 i0 _ 32 Try.underlying22 HI.out hz0 hz1 hz2 rfl (by omega) _ xs rfl HO6.out
              w.heap.size D d ys rfl (HY.out.below G6) NY.out (by simp [maxLen]; omega) (by omega) hs6 ?_)
            intro v7 w7 hown7 hg7 hat7 _
            have G7 : Below w.heap.size w w7 := G6.grown hg7 hs6 HO6.out.base_le
            have hs7 := G7.size
            clear hg7 hat7
            obtain ⟨A7, c7, rfl, _, hl7⟩ := hown7.shape
            have hr7 := hown7.reads enc_len
            have HR7 := Lib.hid hr7
            have hvb : (xs ++ ys).any Cl.bad = false := by rw [List.any_append, V.out, VY.out]; rfl
            have VB := Lib.hid hvb
            have hboth : actionP (xs ++ ys) kind b a t n = if xs.any (applB kind b a t n) then r else q := by
              rw [HR.out, HQ.out]; unfold actionP
              rw [List.find?_append]
              cases hf : xs.find? (applB kind b a t n) with
              | none =>
                have : xs.any (applB kind b a t n) = false := by
                  rw [List.find?_eq_none] at hf
                  simpa using hf
                simp [this]
              | some y =>
                have : xs.any (applB kind b a t n) = true := List.any_eq_true.2 ⟨y, List.mem_of_find?_eq_some hf, List.find?_some hf⟩
                simp [this]
            have HB := Lib.hid hboth
            have hxyl : (xs ++ ys).length ≤ 60 := by simp; omega
            clear hown7 hr7 hvb hboth
            generalize xs ++ ys = zs at *
            go_wp2_with fail
            refine (Action_any zs A7 c7 kind b a t n _ HR7.out (by omega)).mono ?_
            rw [HG.out _ _ _ VB.out]
            rintro e w8 ⟨rfl, hb8⟩
            have G8 := G7.trans (hb8.mono G7.size)
            obtain ⟨bo, hbo⟩ : ∃ r, r = actionP zs kind b a t n := ⟨_, rfl⟩
            rw [← hbo]
            have HBO := Lib.hid hbo
            clear hbo
            go_wp2_with fail
            obtain ⟨pr, hpr⟩ : ∃ p : Cl → Bool, p = applB kind b a t n := ⟨_, rfl⟩
            obtain ⟨kk, hkk⟩ : ∃ p : Cl → Bool, p = fun x => x.kind == kind := ⟨_, rfl⟩
            have hkk1 : ∀ x, kk x = (x.kind == kind) := fun x => by rw [hkk]
            have PR := Lib.hid hpr
            have KK := Lib.hid hkk1
            clear hkk hkk1 hpr
            go_loopw [23, 24, 99] (fun sv av i wr => ∃ k : Nat, k ≤ xs.length ∧ i = .int .i64 k ∧ Below w.heap.size w wr ∧ Owns wr w.heap.size 35 4 Cl.enc sv ((xs.take k).filter kk) ∧ av = .bool ((xs.take k).any pr))
              (fun _ _ i _ => xs.length - (intOf i).toNat)
            case atStart => exact ⟨0, Nat.zero_le _, rfl, G8, Owns.nil_ _ _ _ _ _, rfl⟩
            case round =>
              obtain ⟨k, hk, rfl, hb, how, rfl⟩ := hrel
              by_cases hlt : k < xs.length
              · obtain ⟨bb, off, x, rfl, hbl, hxk, hc⟩ := (HX.out.below hb).at_ hlt
                have hxv : x.bad = false := by have := List.any_eq_false.1 V.out x (List.mem_of_getElem? hxk); simpa using this
                have hu : 0 ≤ x.untl ∧ x.untl ≤ 12 := by simp [Cl.bad] at hxv; omega
                obtain ⟨u0, u1⟩ := hu
                have hfa : pr x = (fitsB kind b a x && decide (n - t ≤ x.untl)) := by rw [PR.out]; exact fits_appl hxv kind b a t n
                have FA := Lib.hid hfa
                have hsn := filter_snoc (p := kk) hxk
                have hany := any_snoc (p := pr) hxk
                rw [KK.out] at hsn
                have c0 := hc 0 _ rfl
                have c1 := hc 1 _ rfl
                have c2 := hc 2 _ rfl
                have c3 := hc 3 _ rfl
                simp only [Nat.add_zero] at c0
                clear hc hxv hxk hfa
                have hsr := hb.size
                have htl : ((xs.take k).filter kk).length ≤ 30 := Nat.le_trans (List.length_filter_le _ _) (by simp; omega)
                cases hkx : x.kind == kind
                · rw [hkx] at hsn
                  simp only [Bool.false_eq_true, if_false, List.append_nil] at hsn
                  rw [← hsn] at how
                  have HW := Lib.hid (how.alloc (.cells #[.int .i64 x.kind, .int .i64 x.when_, .int .i64 x.act, .int .i64 x.untl] 35))
                  have hbw := hb.alloc hsr (.cells #[.int .i64 x.kind, .int .i64 x.when_, .int .i64 x.act, .int .i64 x.untl] 35)
                  clear how hsn
                  cases hap : (xs.take k).any pr
                  · rw [hap] at hany
                    have HA := Lib.hid hany
                    clear hap hany
                    go_wp2_with fail
                    refine (fits_any x kind b a _).mono ?_
                    rintro e w11 ⟨rfl, hb11⟩
                    obtain ⟨hcc, hff⟩ := bcell hb11
                    have hbz : Below w.heap.size w w11 := hbw.trans (hb11.mono hbw.size)
                    have hoz : Owns w11 w.heap.size 35 4 Cl.enc _ ((xs.take (k + 1)).filter kk) := HW.out.below hb11 (Nat.le_refl _)
                    have HOZ := Lib.hid hoz
                    clear hoz
                    cases hfb : fitsB kind b a x
                    · have FB := Lib.hid hfb
                      go_wp2_with fail
                      go_roundw
                      case rel => exact ⟨k + 1, by omega, by go_num, hbz, HOZ.out, by rw [HA.out, FA.out, FB.out]; rfl⟩
                      case measure => simp [intOf]; omega
                    · have FB := Lib.hid hfb
                      go_wp2_with fail
                      go_roundw
                      case rel => exact ⟨k + 1, by omega, by go_num, hbz, HOZ.out, by rw [HA.out, FA.out, FB.out]; simp; omega⟩
                      case measure => simp [intOf]; omega
                  · rw [hap] at hany
                    have HA := Lib.hid hany
                    clear hap hany
                    go_wp2_with fail
                    go_roundw
                    case rel => exact ⟨k + 1, by omega, by go_num, hbw, HW.out, by rw [HA.out]; rfl⟩
                    case measure => simp [intOf]; omega
                · rw [hkx] at hsn
                  simp only [if_true] at hsn
                  have HOW := Lib.hid how
                  have HS := Lib.hid hsn
                  clear how hsn
                  go_wp2_with (at_builtin; refine stop_mk ?_)
                  refine stop_out (wpList_append_reads (en := Cl.enc) (sz := 4) _ rfl _ _ _ rfl enc_len enc_one w.heap.size 35 i0 _ 32 Try.underlying22 HI.out hz0 hz1 hz2 rfl (by omega) _ ((xs.take k).filter kk) rfl ((HOW.out.alloc _).alloc _)
                    (wr.heap.size + 2) (some ⟨wr.heap.size + 1, 0, none⟩) 1 [x] rfl ((reads_one (wr.alloc _) Cl.enc x _ _ rfl 4 (wr.heap.size + 1) (by simp)).more (B' := wr.heap.size + 2) (by omega)) (fun h => by cases h) (by simp [maxLen]; omega) (by simp; omega) (by simp; omega) ?_)
                  intro v10 w10 hown10 hg10 hat10 _
                  have hbw : Below w.heap.size w w10 := ((hb.alloc hsr _).alloc (by simp; omega) _).grown hg10 (by simp; omega) HOW.out.base_le
                  have hsz : wr.heap.size + 2 ≤ w10.heap.size := by have := hg10.size; simp at this; omega
                  have hszz : wr.heap.size < w10.heap.size := by omega
                  have d0 := HOW.out.far hg10 (b := wr.heap.size) (Nat.le_refl _) (by simp; omega) 0
                  have d1 := HOW.out.far hg10 (b := wr.heap.size) (Nat.le_refl _) (by simp; omega) 1
                  have d2 := HOW.out.far hg10 (b := wr.heap.size) (Nat.le_refl _) (by simp; omega) 2
                  have d3 := HOW.out.far hg10 (b := wr.heap.size) (Nat.le_refl _) (by simp; omega) 3
                  simp [go_sem] at d0 d1 d2 d3
                  rw [← HS.out] at hown10
                  have HW := Lib.hid hown10
                  clear hown10 hg10 hat10
                  cases hap : (xs.take k).any pr
                  · rw [hap] at hany
                    have HA := Lib.hid hany
                    clear hap hany
                    go_wp2_with fail
                    refine (fits_any x kind b a _).mono ?_
                    rintro e w11 ⟨rfl, hb11⟩
                    obtain ⟨hcc, hff⟩ := bcell hb11
                    have hbz : Below w.heap.size w w11 := hbw.trans (hb11.mono hbw.size)
                    have hoz : Owns w11 w.heap.size 35 4 Cl.enc _ ((xs.take (k + 1)).filter kk) := HW.out.below hb11 (Nat.le_refl _)
                    have HOZ := Lib.hid hoz
                    clear hoz
                    cases hfb : fitsB kind b a x
                    · have FB := Lib.hid hfb
                      go_wp2_with fail
                      go_roundw
                      case rel => exact ⟨k + 1, by omega, by go_num, hbz, HOZ.out, by rw [HA.out, FA.out, FB.out]; rfl⟩
                      case measure => simp [intOf]; omega
                    · have FB := Lib.hid hfb
                      go_wp2_with fail
                      go_roundw
                      case rel => exact ⟨k + 1, by omega, by go_num, hbz, HOZ.out, by rw [HA.out, FA.out, FB.out]; simp; omega⟩
                      case measure => simp [intOf]; omega
                  · rw [hap] at hany
                    have HA := Lib.hid hany
                    clear hap hany
                    go_wp2_with fail
                    go_roundw
                    case rel => exact ⟨k + 1, by omega, by go_num, hbw, HW.out, by rw [HA.out]; rfl⟩
                    case measure => simp [intOf]; omega
              · obtain rfl : k = xs.length := by omega
                rw [List.take_length] at how
                rw [List.take_length]
                have hvs : (xs.filter kk).any Cl.bad = false := by
                  rw [List.any_eq_false]
                  intro y hy
                  exact List.any_eq_false.1 V.out y (List.mem_filter.1 hy).1
                have hfl : actionP (xs.filter kk) kind b a t n = r := by rw [action_own xs kk kind b a t n KK.out, ← HR.out]
                have VS := Lib.hid hvs
                have FL := Lib.hid hfl
                clear hvs hfl
                have hfn : (xs.filter kk).length ≤ 30 := Nat.le_trans (List.length_filter_le _ _) h30
                obtain ⟨A1, cc1, rfl, hnn, _⟩ := how.shape
                have hr1 := how.reads enc_len
                generalize xs.filter kk = os at *
                have HR1 := Lib.hid hr1
                clear how hr1 hnn
                have hsz := hb.size
                cases hap : xs.any pr
                · have hr1 : r = 1 := by
                    rw [HR.out]; unfold actionP
                    rw [← PR.out]
                    rw [List.find?_eq_none.2 (by simpa using hap)]
                  have hbo : bo = q := by rw [HBO.out, HB.out, ← PR.out, hap]; rfl
                  have q1 : (r == 1) = true := by rw [hr1]; rfl
                  have q2 : (bo == q) = true := by rw [hbo]; simp
                  clear hap hr1 hbo
                  go_wp2_with fail
                  refine (Action_any os A1 cc1 kind b a t n _ (HR1.out.more (Nat.le_refl _)) (by omega)).mono ?_
                  rw [HG.out _ _ _ VS.out, FL.out]
                  rintro e w9 ⟨rfl, hb9⟩
                  have G9 := hb.trans (hb9.mono hb.size)
                  go_wp2_with fail
                  go_ret
                  exact ⟨ret_bool (by simp [q2]), G9⟩
                · have hbo : bo = r := by rw [HBO.out, HB.out, ← PR.out, hap]; rfl
                  have BO := Lib.hid hbo
                  clear hap hbo
                  go_wp2_with fail
                  refine (Action_any os A1 cc1 kind b a t n _ (HR1.out.more (Nat.le_refl _)) (by omega)).mono ?_
                  rw [HG.out _ _ _ VS.out, FL.out]
                  rintro e w9 ⟨rfl, hb9⟩
                  have G9 := hb.trans (hb9.mono hb.size)
                  go_wp2_with fail
                  go_ret
                  exact ⟨ret_bool (by rw [BO.out]; simp), G9⟩
          · have hk' : kind < 1 ∨ 5 < kind := by omega
            clear hk
            go_wp2_with fail
            all_goals go_ret
            all_goals exact ⟨rfl, G3⟩
        · have hc : checkP ys = 330 := by simp [checkP, hv]
          rw [hc]
          clear hc hv
          go_wp2_with fail
          go_ret
          exact ⟨rfl, G3⟩
      · have hc : checkP xs = 330 := by simp [checkP, hv]
        rw [hc]
        clear hc hv
        go_wp2_with fail
        go_ret
        exact ⟨rfl, G2⟩
    · have hd : decide (ys.length ≤ 30) = false := by simpa using h31
      rw [hd]
      clear hd
      go_wp2_with fail
      go_ret
      exact ⟨rfl, hb1⟩
  · have hd : decide (xs.length ≤ 30) = false := by simpa using h30
    rw [hd]
    clear hd
    go_wp2_with fail
    go_ret
    exact ⟨rfl, hb1⟩
end Go.Proofs.Ytjcojohfimhgdaa
