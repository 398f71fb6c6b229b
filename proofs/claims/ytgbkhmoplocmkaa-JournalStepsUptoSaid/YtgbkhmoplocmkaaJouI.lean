/- Journals: the reference's record and Records. -/
import Derived.Test.YtgbkhmoplocmkaaJouH
namespace Go.Proofs.Ytgbkhmoplocmkaa
open Go.RowKit Go.Shelf
set_option linter.unusedSimpArgs false
set_option linter.unusedVariables false
set_option maxRecDepth 20000
attribute [local go_sem] Oper.semAt_some

def recR (l : List (List Int)) (a : Nat) : Option (Nat × List Int) := recGo l a 0 (l.drop a) a []
def bytR (l : List (List Int)) (a : Nat) : List Int := ((recR l a).map (·.2)).getD []
def cntR (l : List (List Int)) (a : Nat) : Int := ((recR l a).map (fun p => (p.1 : Int) - a)).getD 0
theorem bytR_none {l : List (List Int)} {a : Nat} (h : recR l a = none) : bytR l a = [] := by simp [bytR, h]
theorem cntR_none {l : List (List Int)} {a : Nat} (h : recR l a = none) : cntR l a = 0 := by simp [cntR, h]
theorem bytR_some {l : List (List Int)} {a n : Nat} {b : List Int} (h : recR l a = some (n, b)) : bytR l a = b := by simp [bytR, h]
theorem cntR_some {l : List (List Int)} {a n : Nat} {b : List Int} (h : recR l a = some (n, b)) : cntR l a = n - a := by simp [cntR, h]
theorem goodB_kind {s : List Int} {k : Int} (h : goodB s k = true) : s.getD 10 0 ≤ 3 := by
  unfold goodB shapeOk at h
  simp at h
  simp
  omega

set_option maxRecDepth 100000 in
set_option maxHeartbeats 4000000 in
theorem Rrecord_any {P : Nat → Prop} (l : List (List Int)) (a : Nat) (sv : Sl) (w : World) (h : Se w P sv l) (hll : l.length ≤ 4096) (hls : ∀ s ∈ l, s.length = 128) (ha : a ≤ l.length) :
    Calls Try.prog 62 #[.slice sv.a sv.n sv.c, .int .i64 a] w fun e w' => (∃ rv : Sl, e = .returned (.tuple #[.slice rv.a rv.n rv.c, .int .i64 (cntR l a)]) ∧ Owns w' w.heap.size 5 1 byteE (.slice rv.a rv.n rv.c) (bytR l a) ∧ (∀ b ∈ bytR l a, 0 ≤ b ∧ b < 256)) ∧ Below w.heap.size w w' := by
  have hln := h.len
  obtain ⟨A, m, c⟩ := sv
  simp only at hln ⊢
  subst hln
  have HX := Lib.hid (h.mono2 (Q := fun b => b < w.heap.size) (fun b _ hl => hl))
  have HLS := Lib.hid hls
  clear h hls
  obtain ⟨BY, hBY⟩ : ∃ x, x = bytR l a := ⟨_, rfl⟩
  obtain ⟨CN, hCN⟩ : ∃ x, x = cntR l a := ⟨_, rfl⟩
  rw [← hBY, ← hCN]
  have HBYE := Lib.hid hBY
  have HCNE := Lib.hid hCN
  clear hBY hCN
  obtain ⟨ai, hai⟩ : ∃ x : Int, x = a := ⟨_, rfl⟩
  rw [← hai]
  have hai0 : 0 ≤ ai := by omega
  have hai1 : ai ≤ 4096 := by omega
  have HAI := Lib.hid hai
  clear hai
  go_enter Try.func62, Try.ntmps62
  go_wp2_with fail
  go_loopw [6, 7] (fun t6 t7 wi => ∃ (j : Nat) (bs : List Int), a + j ≤ l.length ∧ t7 = .int .i64 j ∧ Owns wi w.heap.size 5 1 byteE t6 bs ∧ (∀ b ∈ bs, 0 ≤ b ∧ b < 256) ∧ bs.length ≤ 256 * j ∧ recGo l a 0 (l.drop (a + j)) (a + j) bs = recR l a ∧ Below w.heap.size w wi) (fun _ t7 _ => l.length - a - (intOf t7).toNat)
  case atStart => exact ⟨0, [], ha, rfl, Owns.lit (w := w) (base := w.heap.size) (e := 5) (sz := 1) (en := byteE) (ys := ([] : List Int)) (cs := #[]) byteE_len rfl (Nat.le_refl _) (by simp), by simp, by simp, rfl, (Below.refl _ _).alloc (Nat.le_refl _) _⟩
  case round =>
    obtain ⟨j, bs, haj, rfl, ho, hbb, hbl, hgo, hbw⟩ := hrel
    obtain ⟨wi, hwi⟩ : ∃ x, x = wr := ⟨_, rfl⟩
    subst hwi
    have HO := Lib.hid ho
    have HBB := Lib.hid hbb
    have HGO := Lib.hid hgo
    have HBW := Lib.hid hbw
    have hzi := hbw.size
    have HXI := Lib.hid (HX.out.step hbw)
    clear ho hbb hgo hbw
    obtain ⟨ki, hki⟩ : ∃ x : Int, x = ai + j := ⟨_, rfl⟩
    have hj1 : (j : Int) ≤ 4096 := by omega
    have hwk : IntKind.i64.wrap (ai + j) = ki := by rw [hki, IntWalk.i64_left]; exact IntWalk.wrap64_in _ ⟨by omega, by omega⟩
    by_cases hlt : a + j < l.length
    · obtain ⟨bA, oA, v, s, hA, hbA, hsk, hby, hcv⟩ := HXI.out.at_ hlt
      obtain ⟨bA', oA', u, sa, hA', _, hsa, hbu, hcu⟩ := HXI.out.at_ (i := a) (by omega)
      simp only at hA hA'
      rw [hA] at hA'
      cases hA'
      subst hA
      have hsl : s.length = 128 := HLS.out s (List.mem_of_getElem? hsk)
      have hsal : sa.length = 128 := HLS.out sa (List.mem_of_getElem? hsa)
      obtain ⟨b1, o1, n, hva, hb1, hx11, hn0, hn1, hc11⟩ := hby.at_ (k := 11) (by omega)
      obtain ⟨b1', o1', m, hva', _, hx10, hm0, hm1, hc10⟩ := hby.at_ (k := 10) (by omega)
      rw [hva] at hva'
      cases hva'
      obtain ⟨b2, o2, _, hua, hb2, _⟩ := hbu.at_ (k := 0) (by omega)
      obtain ⟨v, nv, cv⟩ := v
      obtain ⟨u, nu, cu⟩ := u
      simp only at hva hua hcv hcu
      subst hva hua
      obtain rfl : nv = 128 := by have := hby.1.1; simp only at this; omega
      obtain rfl : nu = 128 := by have := hbu.1.1; simp only at this; omega
      have hcc : 128 ≤ cv := by have := hby.1.2.1; simp only at this; omega
      have hcc2 : 128 ≤ cu := by have := hbu.1.2.1; simp only at this; omega
      have hmv : cv ≤ 9223372036854775807 := by have := hby.1.2.2.1; simp only [maxLen] at this; omega
      obtain ⟨G, hG⟩ : ∃ G, G = goodB s ki := ⟨_, rfl⟩
      obtain ⟨q1, hq1⟩ : ∃ q, q = num4 s := ⟨_, rfl⟩
      obtain ⟨q2, hq2⟩ : ∃ q, q = num4 sa := ⟨_, rfl⟩
      have HGD : Hid (∀ WC, Below wi.heap.size wi WC → Calls Try.prog 72 #[.slice (some ⟨b1, o1, none⟩) 128 cv, .int .i64 ki] WC fun e w' => e = .returned (.bool G) ∧ Below WC.heap.size WC w') := Lib.hid (fun WC hWC => by rw [hG]; exact Rgood2 ⟨some ⟨b1, o1, none⟩, 128, cv⟩ s ki WC (hby.step hWC) hsl ⟨by omega, by omega⟩)
      have HG1 : Hid (∀ WC, Below wi.heap.size wi WC → Calls Try.prog 63 #[.slice (some ⟨b1, o1, none⟩) 4 cv] WC fun e w' => e = .returned (.int .u64 q1) ∧ WC = w') := Lib.hid (fun WC hWC => by
        have h1 := (hby.step hWC).sub 0 4 (by omega)
        rw [hq1]
        exact number_any ⟨some ⟨b1, o1, none⟩, 4, cv⟩ (s.take 4) WC (by simpa using h1) (by simp; omega))
      have HG2 : Hid (∀ WC, Below wi.heap.size wi WC → Calls Try.prog 63 #[.slice (some ⟨b2, o2, none⟩) 4 cu] WC fun e w' => e = .returned (.int .u64 q2) ∧ WC = w') := Lib.hid (fun WC hWC => by
        have h1 := (hbu.step hWC).sub 0 4 (by omega)
        rw [hq2]
        exact number_any ⟨some ⟨b2, o2, none⟩, 4, cu⟩ (sa.take 4) WC (by simpa using h1) (by simp; omega))
      have hm10 : s.getD 10 0 = m := by rw [List.getD_eq_getElem?_getD, hx10]; rfl
      have hn11 : s.getD 11 0 = n := by rw [List.getD_eq_getElem?_getD, hx11]; rfl
      have hsad : l.getD a [] = sa := by rw [List.getD_eq_getElem?_getD, hsa]; rfl
      have hq10 : 0 ≤ q1 := hq1 ▸ (numB_lt (s.take 4) (fun b hb => hby.2 b (List.mem_of_mem_take hb))).1
      have hjq : j = 0 → q1 = q2 := fun e => by subst e; rw [Nat.add_zero, hsa] at hsk; cases hsk; rw [hq1, hq2]
      have hokE : okB l a (a + j) 0 s = !(!G || (((m % 2 == 1) != ((j : Int) == 0)) || (decide (0 < (j : Int)) && (q1 != q2)))) := by
        have ek : ((a + j : Nat) : Int) = ki := by rw [hki, HAI.out]; omega
        unfold okB begB
        rw [hm10, hsad, ← hq1, ← hq2, ek, ← hG]
        cases G with
        | false => simp
        | true =>
          have hm3 : m ≤ 3 := hm10 ▸ goodB_kind hG.symm
          have e1 := (bits_small hm0 hm3).2
          have e2 : (bits .and .u8 m 1 != 0) = (m % 2 == 1) := by
            rw [bne, e1]
            rw [Bool.eq_iff_iff]
            simp
            omega
          have e3 : (a + j == a) = ((j : Int) == 0) := by rw [Bool.eq_iff_iff]; simp
          have e4 : decide (q1 < 0) = false := decide_eq_false (by omega)
          rw [e2, e3, e4]
          rcases Nat.eq_zero_or_pos j with e | e
          · have := hjq e
            subst e
            simp [this]
          · have : decide (0 < (j : Int)) = true := decide_eq_true (by omega)
            rw [this]
            simp
      have HOKE := Lib.hid hokE
      have HBY := Lib.hid hby
      have HSK := Lib.hid hsk
      have HGG := Lib.hid hG
      have HM10 := Lib.hid hm10
      have HN11 := Lib.hid hn11
      have HSL := Lib.hid hsl
      have HBYP : Hid (b1 < w.heap.size) := Lib.hid (hby.1.2.2.2.2.2 (by omega) _ rfl)
      have HKI := Lib.hid hki
      have hltk : decide (ki < (l.length : Int)) = true := decide_eq_true (by have := HAI.out; omega)
      have hkn : ki.toNat = a + j := by have := HAI.out; omega
      have hak : ai.toNat = a := by have := HAI.out; omega
      have hk0 : 0 ≤ ki := by omega
      have hk1 : ki < (l.length : Int) := by have := HAI.out; omega
      have ha0 : 0 ≤ ai := by have := HAI.out; omega
      have ha1 : ai < (l.length : Int) := by have := HAI.out; omega
      have hmod : m.tmod 2 = m % 2 := Int.tmod_eq_emod_of_nonneg hm0
      clear hokE hby hbu hsk hsa hq1 hq2 hG hm10 hn11 hsad hx11 hx10 hsl hsal hki hjq
      obtain ⟨i0, hinf, _, _, _⟩ := info_parts Try.infoByte
      have hs1 := fun W => run_slice_to (P := Try.prog) Try.underlying35 hinf (some ⟨b1, o1, none⟩) 128 cv .i64 4 (by omega) (by omega) W
      have hs2 := fun W => run_slice_to (P := Try.prog) Try.underlying35 hinf (some ⟨b2, o2, none⟩) 128 cu .i64 4 (by omega) (by omega) W
      rw [show (4 : Int).toNat = 4 from rfl] at hs1 hs2
      clear hinf
      go_upto_region 6 with fail
      go_cut [55] from 10 to 71 (fun t wx => t = .bool (!okB l a (a + j) 0 s) ∧ Below wi.heap.size wi wx)
      case first =>
        cases G
        · have HE : Hid (okB l a (a + j) 0 s = false) := Lib.hid (by rw [HOKE.out]; simp)
          clear HOKE
          go_wp2_with fail
          refine wp_region_below (by kernel_rfl) (by kernel_rfl) ?_
          repeat (first
            | go_big_quiet_skip
            | (go_big_quiet_want
               first
                 | (apply quiet_val
                    focus (
                      intro WC hWC
                      obtain ⟨hcc0, hff0⟩ := bcell hWC
                      go_simp
                      all_goals rfl
                      done)
                    go_simp
                    go_big_quiet_on)
                 | (apply quiet_call
                    focus (
                      intro WC hWC
                      go_simp
                      all_goals (first | rfl | exact ⟨rfl, rfl⟩)
                      done)
                    focus (
                      intro WC hWC
                      ((with_reducible refine Calls.mono (HGD.out WC hWC) ?_); exact fun e w' h => ⟨h.1, hWC.trans (h.2.mono hWC.size)⟩)
                      done)
                    go_simp
                    go_big_quiet_on)
                 | (apply quiet_call
                    focus (
                      intro WC hWC
                      go_simp
                      all_goals (first | rfl | exact ⟨rfl, rfl⟩)
                      done)
                    focus (
                      intro WC hWC
                      ((with_reducible refine Calls.mono (HG1.out WC hWC) ?_); exact fun e w' h => ⟨h.1, h.2 ▸ hWC⟩)
                      done)
                    go_simp
                    go_big_quiet_on)
                 | (apply quiet_call
                    focus (
                      intro WC hWC
                      go_simp
                      all_goals (first | rfl | exact ⟨rfl, rfl⟩)
                      done)
                    focus (
                      intro WC hWC
                      ((with_reducible refine Calls.mono (HG2.out WC hWC) ?_); exact fun e w' h => ⟨h.1, h.2 ▸ hWC⟩)
                      done)
                    go_simp
                    go_big_quiet_on)))
          refine wpQuiet_nil ?_
          intro w2 hw2
          go_wp2_with fail
          go_meet
          exact ⟨by rw [HE.out]; simp, hw2⟩
        · cases t1 : (m % 2 == 1) <;> cases t2 : ((j : Int) == 0)
          case false.false =>
            have hj0 : decide (0 < (j : Int)) = true := decide_eq_true (by simp at t2; omega)
            have hj0n : decide (0 < j) = true := decide_eq_true (by simp at t2; omega)
            have HE : Hid (okB l a (a + j) 0 s = !(q1 != q2)) := Lib.hid (by rw [HOKE.out, t1, t2, hj0]; simp)
            clear HOKE
            go_wp2_with fail
            refine wp_region_below (by kernel_rfl) (by kernel_rfl) ?_
            repeat (first
              | go_big_quiet_skip
              | (go_big_quiet_want
                 first
                   | (apply quiet_val
                      focus (
                        intro WC hWC
                        obtain ⟨hcc0, hff0⟩ := bcell hWC
                        go_simp
                        all_goals rfl
                        done)
                      go_simp
                      go_big_quiet_on)
                   | (apply quiet_call
                      focus (
                        intro WC hWC
                        go_simp
                        all_goals (first | rfl | exact ⟨rfl, rfl⟩)
                        done)
                      focus (
                        intro WC hWC
                        ((with_reducible refine Calls.mono (HGD.out WC hWC) ?_); exact fun e w' h => ⟨h.1, hWC.trans (h.2.mono hWC.size)⟩)
                        done)
                      go_simp
                      go_big_quiet_on)
                   | (apply quiet_call
                      focus (
                        intro WC hWC
                        go_simp
                        all_goals (first | rfl | exact ⟨rfl, rfl⟩)
                        done)
                      focus (
                        intro WC hWC
                        ((with_reducible refine Calls.mono (HG1.out WC hWC) ?_); exact fun e w' h => ⟨h.1, h.2 ▸ hWC⟩)
                        done)
                      go_simp
                      go_big_quiet_on)
                   | (apply quiet_call
                      focus (
                        intro WC hWC
                        go_simp
                        all_goals (first | rfl | exact ⟨rfl, rfl⟩)
                        done)
                      focus (
                        intro WC hWC
                        ((with_reducible refine Calls.mono (HG2.out WC hWC) ?_); exact fun e w' h => ⟨h.1, h.2 ▸ hWC⟩)
                        done)
                      go_simp
                      go_big_quiet_on)))
            refine wpQuiet_nil ?_
            intro w2 hw2
            go_wp2_with fail
            go_meet
            exact ⟨by rw [HE.out]; simp, hw2⟩
          case true.true =>
            have hj0 : decide (0 < (j : Int)) = false := decide_eq_false (by simp at t2; omega)
            have hj0n : decide (0 < j) = false := decide_eq_false (by simp at t2; omega)
            have HE : Hid (okB l a (a + j) 0 s = true) := Lib.hid (by rw [HOKE.out, t1, t2, hj0]; simp)
            clear HOKE
            go_wp2_with fail
            refine wp_region_below (by kernel_rfl) (by kernel_rfl) ?_
            repeat (first
              | go_big_quiet_skip
              | (go_big_quiet_want
                 first
                   | (apply quiet_val
                      focus (
                        intro WC hWC
                        obtain ⟨hcc0, hff0⟩ := bcell hWC
                        go_simp
                        all_goals rfl
                        done)
                      go_simp
                      go_big_quiet_on)
                   | (apply quiet_call
                      focus (
                        intro WC hWC
                        go_simp
                        all_goals (first | rfl | exact ⟨rfl, rfl⟩)
                        done)
                      focus (
                        intro WC hWC
                        ((with_reducible refine Calls.mono (HGD.out WC hWC) ?_); exact fun e w' h => ⟨h.1, hWC.trans (h.2.mono hWC.size)⟩)
                        done)
                      go_simp
                      go_big_quiet_on)
                   | (apply quiet_call
                      focus (
                        intro WC hWC
                        go_simp
                        all_goals (first | rfl | exact ⟨rfl, rfl⟩)
                        done)
                      focus (
                        intro WC hWC
                        ((with_reducible refine Calls.mono (HG1.out WC hWC) ?_); exact fun e w' h => ⟨h.1, h.2 ▸ hWC⟩)
                        done)
                      go_simp
                      go_big_quiet_on)
                   | (apply quiet_call
                      focus (
                        intro WC hWC
                        go_simp
                        all_goals (first | rfl | exact ⟨rfl, rfl⟩)
                        done)
                      focus (
                        intro WC hWC
                        ((with_reducible refine Calls.mono (HG2.out WC hWC) ?_); exact fun e w' h => ⟨h.1, h.2 ▸ hWC⟩)
                        done)
                      go_simp
                      go_big_quiet_on)))
            refine wpQuiet_nil ?_
            intro w2 hw2
            go_wp2_with fail
            go_meet
            exact ⟨by rw [HE.out]; simp, hw2⟩
          all_goals
            have HE : Hid (okB l a (a + j) 0 s = false) := Lib.hid (by rw [HOKE.out, t1, t2]; simp)
            clear HOKE
            go_wp2_with fail
            refine wp_region_below (by kernel_rfl) (by kernel_rfl) ?_
            repeat (first
              | go_big_quiet_skip
              | (go_big_quiet_want
                 first
                   | (apply quiet_val
                      focus (
                        intro WC hWC
                        obtain ⟨hcc0, hff0⟩ := bcell hWC
                        go_simp
                        all_goals rfl
                        done)
                      go_simp
                      go_big_quiet_on)
                   | (apply quiet_call
                      focus (
                        intro WC hWC
                        go_simp
                        all_goals (first | rfl | exact ⟨rfl, rfl⟩)
                        done)
                      focus (
                        intro WC hWC
                        ((with_reducible refine Calls.mono (HGD.out WC hWC) ?_); exact fun e w' h => ⟨h.1, hWC.trans (h.2.mono hWC.size)⟩)
                        done)
                      go_simp
                      go_big_quiet_on)
                   | (apply quiet_call
                      focus (
                        intro WC hWC
                        go_simp
                        all_goals (first | rfl | exact ⟨rfl, rfl⟩)
                        done)
                      focus (
                        intro WC hWC
                        ((with_reducible refine Calls.mono (HG1.out WC hWC) ?_); exact fun e w' h => ⟨h.1, h.2 ▸ hWC⟩)
                        done)
                      go_simp
                      go_big_quiet_on)
                   | (apply quiet_call
                      focus (
                        intro WC hWC
                        go_simp
                        all_goals (first | rfl | exact ⟨rfl, rfl⟩)
                        done)
                      focus (
                        intro WC hWC
                        ((with_reducible refine Calls.mono (HG2.out WC hWC) ?_); exact fun e w' h => ⟨h.1, h.2 ▸ hWC⟩)
                        done)
                      go_simp
                      go_big_quiet_on)))
            refine wpQuiet_nil ?_
            intro w2 hw2
            go_wp2_with fail
            go_meet
            exact ⟨by rw [HE.out]; simp, hw2⟩
      case rest =>
        obtain ⟨w3, hwc⟩ : ∃ X, X = wc := ⟨_, rfl⟩
        subst hwc
        obtain ⟨rfl, hb3⟩ := hcut
        have HO3 := Lib.hid (HO.out.below hb3 (Nat.le_refl _))
        have HBW3 := Lib.hid (HBW.out.trans (hb3.mono HBW.out.size))
        have HBY3 := Lib.hid (HBY.out.step hb3)
        have hpb := HBYP.out
        have c10 := (hb3.cell (p := ⟨b1, o1 + 10, none⟩) hb1).trans hc10
        have c11 := (hb3.cell (p := ⟨b1, o1 + 11, none⟩) hb1).trans hc11
        have hz3 := hb3.size
        have hb13 : b1 < w3.heap.size := by omega
        clear hb3 hc10 hc11 hcv hcu HGD HG1 HG2
        cases hok : okB l a (a + j) 0 s
        · have HN : Hid (recR l a = none) := Lib.hid (by rw [← HGO.out]; exact recGo_stop HSK.out hok)
          have HV1 : Hid (BY = []) := Lib.hid (by rw [HBYE.out]; exact bytR_none HN.out)
          have HV2 : Hid (CN = 0) := Lib.hid (by rw [HCNE.out]; exact cntR_none HN.out)
          obtain rfl := HV1.out
          obtain rfl := HV2.out
          clear hok HOKE HV1 HV2 HBYE HCNE
          go_wp2_with fail
          go_ret2
          exact ⟨⟨⟨none, 0, 0⟩, rfl, Owns.nil_ _ _ _ _ _, by simp⟩, HBW3.out⟩
        · have hn112 : n ≤ 112 := HN11.out ▸ goodB_len (okB_good hok)
          have HOK := Lib.hid hok
          obtain ⟨i0, hinf, hz0, hz1, hz2⟩ := info_parts Try.infoByte
          have hpc : pieceB s = (s.drop 12).take n.toNat := by unfold pieceB; rw [HN11.out]
          have hpl : (pieceB s).length = n.toNat := by rw [hpc]; have := HSL.out; simp; omega
          have HRD : Hid (Reads w3 w3.heap.size (some ⟨b1, o1 + 12, none⟩) 1 byteE (pieceB s)) := Lib.hid (by rw [hpc]; exact (HBY3.out.sub 12 n.toNat (by rw [HSL.out]; omega)).1.reads)
          have HPB : Hid (∀ b ∈ pieceB s, 0 ≤ b ∧ b < 256) := Lib.hid (by rw [hpc]; exact (HBY3.out.sub 12 n.toNat (by rw [HSL.out]; omega)).2)
          have hsl3 : ∀ W, (Instr.slice 35 (.slice (some ⟨b1, o1, none⟩) 128 cv) (some (.int .i64 12)) (some (.int .i64 (12 + n))) none).run Try.prog W = .ok (.slice (some ⟨b1, o1 + 12, none⟩) (pieceB s).length (cv - 12)) W := fun W => by
            have := run_slice_mid (P := Try.prog) Try.underlying35 hinf (some ⟨b1, o1, none⟩) 128 cv .i64 .i64 12 (12 + n) (by omega) (by omega) (by omega) W
            rw [this, hz1, if_neg (by omega), hpl]
            simp [Go.WideShapes.add_plain]
            omega
          have HPL := Lib.hid hpl
          have HI := Lib.hid hinf
          have hbs := hbl
          obtain ⟨pc, hpce⟩ : ∃ pc, pc = pieceB s := ⟨_, rfl⟩
          rw [← hpce] at HRD HPB HPL hsl3
          have HPC := Lib.hid hpce
          obtain ⟨A5, c5, rfl, hA5, _⟩ := HO3.out.shape
          clear hok HOKE hpc hpl hinf hpce hs1 hs2
          go_wp2_with (at_builtin; refine stop_mk ?_)
          refine stop_out (wpList_append_reads (en := byteE) (sz := 1) _ rfl _ _ _ rfl byteE_len byteE_one w.heap.size 5 i0 _ 1 Try.underlying35 HI.out hz0 hz1 hz2 rfl (by omega) _ bs rfl HO3.out w3.heap.size (some ⟨b1, o1 + 12, none⟩) (cv - 12) pc rfl HRD.out (fun h => by cases h) (by have := HPL.out; simp [maxLen]; omega) (by have := HPL.out; simp; omega) HBW3.out.size ?_)
          intro v4 w4 ho4 hg4 _ _
          obtain ⟨zs, hzs⟩ : ∃ zs, zs = bs ++ pc := ⟨_, rfl⟩
          rw [← hzs] at ho4
          have hzl : zs.length ≤ 256 * (j + 1) := by rw [hzs, List.length_append, HPL.out]; omega
          have HZB : Hid (∀ b ∈ zs, 0 ≤ b ∧ b < 256) := Lib.hid (fun b hb => by rw [hzs] at hb; rcases List.mem_append.1 hb with h | h; exact HBB.out b h; exact HPB.out b h)
          have HZS := Lib.hid hzs
          clear hzs
          have HO4 := Lib.hid ho4
          have HBW4 := Lib.hid (HBW3.out.grown hg4 HBW3.out.size HO3.out.base_le)
          obtain ⟨A4, c4, rfl, _, _⟩ := ho4.shape
          have hown : ∀ g, (Value.slice A5 bs.length c5).ownBlock = some g → w.heap.size ≤ g := HO3.out.base_le
          have hlow : ∀ b, b < w.heap.size → w4.heap[b]? = w3.heap[b]? := fun b hb => hg4.block b (by have := HBW3.out.size; omega) (fun e => by have := hown b e.symm; omega)
          have c10 := (World.cell?_of_block (a := ⟨b1, o1 + 10, none⟩) (hlow b1 hpb)).trans c10
          have hb14 : b1 < w4.heap.size := by have := hg4.size; omega
          clear ho4 hg4 hown hlow c11 hsl3 hz0 hz1 hz2
          by_cases he : 2 ≤ m
          · have HEN : Hid (endB s = true) := Lib.hid (by
              have hm3 : m ≤ 3 := HM10.out ▸ goodB_kind (okB_good HOK.out)
              unfold endB
              rw [HM10.out, bne, (bits_small hm0 hm3).1, decide_eq_false (by omega)]
              rfl)
            have HFU : Hid (recR l a = some (a + j + 1, zs)) := Lib.hid (by rw [← HGO.out, recGo_full HSK.out HOK.out HEN.out, HZS.out, HPC.out])
            have HV1 : Hid (BY = zs) := Lib.hid (by rw [HBYE.out]; exact bytR_some HFU.out)
            have HV2 : Hid (CN = j + 1) := Lib.hid (by rw [HCNE.out, cntR_some HFU.out]; omega)
            obtain rfl := HV1.out
            obtain rfl := HV2.out
            clear HV1 HV2 HBYE HCNE
            go_wp2_with fail
            go_ret2
            exact ⟨⟨⟨A4, BY.length, c4⟩, rfl, HO4.out, HZB.out⟩, HBW4.out⟩
          · have HEN : Hid (endB s = false) := Lib.hid (by
              have hm3 : m ≤ 3 := HM10.out ▸ goodB_kind (okB_good HOK.out)
              unfold endB
              rw [HM10.out, bne, (bits_small hm0 hm3).1, decide_eq_true (by omega)]
              rfl)
            have HGO4 : Hid (recGo l a 0 (l.drop (a + (j + 1))) (a + (j + 1)) zs = recR l a) := Lib.hid (by rw [← HGO.out, recGo_more HSK.out HOK.out HEN.out, HZS.out, HPC.out]; rfl)
            go_wp2_with fail
            go_roundw
            case rel => exact ⟨j + 1, zs, by omega, by go_num, HO4.out, HZB.out, hzl, HGO4.out, HBW4.out⟩
            case measure => simp [intOf]; omega
    · have hjl : a + j = l.length := by omega
      have HN : Hid (recR l a = none) := Lib.hid (by rw [← HGO.out, hjl]; exact recGo_end)
      have HV1 : Hid (BY = []) := Lib.hid (by rw [HBYE.out]; exact bytR_none HN.out)
      have HV2 : Hid (CN = 0) := Lib.hid (by rw [HCNE.out]; exact cntR_none HN.out)
      obtain rfl := HV1.out
      obtain rfl := HV2.out
      have hltk : decide (ki < (l.length : Int)) = false := decide_eq_false (by have := HAI.out; omega)
      clear HV1 HV2 HBYE HCNE hki
      go_wp2_with fail
      go_ret2
      exact ⟨⟨⟨none, 0, 0⟩, rfl, Owns.nil_ _ _ _ _ _, by simp⟩, HBW.out⟩
end Go.Proofs.Ytgbkhmoplocmkaa
