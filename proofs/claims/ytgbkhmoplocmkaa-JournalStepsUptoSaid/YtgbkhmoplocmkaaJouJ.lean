/- Journals: the reference's Records and Open. -/
import Derived.Test.YtgbkhmoplocmkaaJouI
import Derived.Test.YtgbkhmoplocmkaaRowB
namespace Go.Proofs.Ytgbkhmoplocmkaa
open Go.RowKit Go.Shelf
set_option linter.unusedSimpArgs false
set_option linter.unusedVariables false
set_option maxRecDepth 20000
attribute [local go_sem] Oper.semAt_some

theorem okB_last {l : List (List Int)} {a n : Nat} {last : Int} {s : List Int} (h0 : 0 ≤ num4 (l.getD a [])) : okB l a n last s = (okB l a n 0 s && !decide (num4 (l.getD a []) < last)) := by
  unfold okB
  generalize l.getD a [] = q at *
  cases goodB s n <;> cases (begB s != (n == a)) <;> try rfl
  by_cases e : num4 s = num4 q
  · have : ¬ (num4 q < 0) := by omega
    simp [e, this]
  · have e2 : (num4 s != num4 q) = true := by simpa using e
    rw [e2]
    simp
theorem recGo_less {l : List (List Int)} {a : Nat} {last : Int} (h0 : 0 ≤ num4 (l.getD a [])) (h : num4 (l.getD a []) < last) : ∀ (r : List (List Int)) (n : Nat) (b : List Int), recGo l a last r n b = none
  | [], _, _ => rfl
  | s :: r, n, b => by simp only [recGo, okB_last (last := last) h0, decide_eq_true h]; simp
theorem recGo_from {l : List (List Int)} {a : Nat} {last : Int} (h0 : 0 ≤ num4 (l.getD a [])) (h : ¬ num4 (l.getD a []) < last) : ∀ (r : List (List Int)) (n : Nat) (b : List Int), recGo l a last r n b = recGo l a 0 r n b
  | [], _, _ => rfl
  | s :: r, n, b => by simp only [recGo, okB_last (last := last) h0, decide_eq_false h, recGo_from h0 h r]; simp

theorem meas_step {n a k : Nat} {x : Int} (h0 : 0 < k) (h : a + k ≤ n) (hx : x = ((a + k : Nat) : Int)) : n - (intOf (Value.int .i64 x)).toNat < n - (intOf (Value.int .i64 (a : Int))).toNat := by
  subst hx
  simp only [intOf, Int.toNat_natCast]
  omega
theorem recGo_two {l : List (List Int)} {a : Nat} {last : Int} (h0 : a < l.length → 0 ≤ num4 (l.getD a [])) (ha : a ≤ l.length) : recGo l a last (l.drop a) a [] = if num4 (l.getD a []) < last then none else recR l a := by
  by_cases hl : a < l.length
  · by_cases h : num4 (l.getD a []) < last
    · rw [if_pos h]; exact recGo_less (h0 hl) h _ _ _
    · rw [if_neg h]; exact recGo_from (h0 hl) h _ _ _
  · have : a = l.length := by omega
    subst this
    unfold recR
    rw [recGo_end, recGo_end]
    simp

set_option maxRecDepth 100000 in
set_option maxHeartbeats 4000000 in
theorem RRecords_any {P : Nat → Prop} (l : List (List Int)) (sv : Sl) (w : World) (h : Se w P sv l) (hll : l.length ≤ 4096) (hls : ∀ s ∈ l, s.length = 128) :
    Calls Try.prog 34 #[.slice sv.a sv.n sv.c] w fun e w' => (∃ rv : Sl, e = .returned (.slice rv.a rv.n rv.c) ∧ Se w' (fun b => w.heap.size ≤ b) rv (recsJ l)) ∧ Below w.heap.size w w' := by
  have hln := h.len
  have HX := Lib.hid (h.mono2 (Q := fun b => b < w.heap.size) (fun b _ hl => hl))
  have HLS := Lib.hid hls
  obtain ⟨A, m, c⟩ := sv
  simp only at hln ⊢
  subst hln
  clear h hls
  obtain ⟨RS, hRS⟩ : ∃ x, x = recsJ l := ⟨_, rfl⟩
  rw [← hRS]
  have HRS := Lib.hid hRS
  clear hRS
  have HREC : Hid (∀ (W : World) (a : Nat), Below w.heap.size w W → a ≤ l.length → Calls Try.prog 62 #[.slice A l.length c, .int .i64 a] W fun e w' => (∃ rv : Sl, e = .returned (.tuple #[.slice rv.a rv.n rv.c, .int .i64 (cntR l a)]) ∧ Owns w' W.heap.size 5 1 byteE (.slice rv.a rv.n rv.c) (bytR l a) ∧ (∀ b ∈ bytR l a, 0 ≤ b ∧ b < 256)) ∧ Below W.heap.size W w') :=
    Lib.hid (fun W a hW ha => Rrecord_any l a ⟨A, l.length, c⟩ W (HX.out.step hW) hll HLS.out ha)
  go_enter Try.func34, Try.ntmps34
  go_wp2_with fail
  go_loopw [3, 4, 5] (fun t3 t4 t5 wi => ∃ (a : Nat) (last : Int) (vs : List Sl) (ss : List (List Int)) (fuel : Nat), t4 = .int .i64 a ∧ t5 = .int .u64 last ∧ a ≤ l.length ∧ 0 ≤ last ∧ last < 4294967296 ∧ l.length + 1 ≤ fuel + a ∧ ss.length ≤ a ∧ ss ++ (recsGo l fuel a last).map (·.2) = RS ∧ RowBy wi w.heap.size (fun b => w.heap.size ≤ b) t3 vs ss ∧ Below w.heap.size w wi) (fun _ t4 _ _ => l.length - (intOf t4).toNat)
  case atStart => exact ⟨0, 0, [], [], l.length + 1, rfl, rfl, Nat.zero_le _, Int.le_refl _, by decide, Nat.le_refl _, Nat.le_refl _, by rw [HRS.out]; rfl, ⟨Owns.lit (w := w) (base := w.heap.size) (e := 35) (sz := 1) (en := slE) (ys := ([] : List Sl)) (cs := #[]) slE_len rfl (Nat.le_refl _) (by simp), HS.nil_ _⟩, (Below.refl _ _).alloc (Nat.le_refl _) _⟩
  case round =>
    obtain ⟨a, last, vs, ss, fuel, rfl, rfl, hal, hl0, hl1, hfu, hsa, hrs, hrow, hbw⟩ := hrel
    obtain ⟨wi, hwi⟩ : ∃ x, x = wr := ⟨_, rfl⟩
    subst hwi
    obtain ⟨Av, cv, rfl, _, hvm⟩ := hrow.shape
    have hvl : vs.length ≤ 4096 := by have := hrow.len; omega
    have HROW := Lib.hid hrow
    have HBW := Lib.hid hbw
    have HRL := Lib.hid hrs
    have HFU := Lib.hid hfu
    have HSA := Lib.hid hsa
    have hzz := hbw.size
    clear hrow hbw hrs hfu hsa
    go_wp2_with fail
    refine (HREC.out wi a HBW.out hal).mono ?_
    rintro e w1 ⟨⟨⟨A1, n1, c1⟩, rfl, ho1, hby1⟩, hb1⟩
    have HROW1 := Lib.hid (HROW.out.step hb1)
    have HBW1 := Lib.hid (HBW.out.trans (hb1.mono hzz))
    have HOWN := Lib.hid ho1
    have HBYT := Lib.hid hby1
    have hz1 := hb1.size
    obtain ⟨n1', c1', hsh, hnil1, hmx1⟩ := ho1.shape
    simp only [Value.slice.injEq] at hsh
    obtain ⟨rfl, rfl, rfl⟩ := hsh
    obtain ⟨CN, hCN⟩ : ∃ x, x = cntR l a := ⟨_, rfl⟩
    obtain ⟨BY, hBY⟩ : ∃ x, x = bytR l a := ⟨_, rfl⟩
    rw [← hBY] at HOWN HBYT hmx1
    rw [← hCN, ← hBY]
    have HCN := Lib.hid hCN
    have HBY := Lib.hid hBY
    clear ho1 hby1 hb1 hCN hBY
    have h0 : a < l.length → 0 ≤ num4 (l.getD a []) := fun hl => by
      obtain ⟨_, _, v, s, _, _, hs, hb, _⟩ := HX.out.at_ hl
      rw [List.getD_eq_getElem?_getD, hs]
      exact (numB_lt (s.take 4) (fun b h => hb.2 b (List.mem_of_mem_take h))).1
    have htwo := recGo_two (last := last) h0 hal
    cases hr : recR l a with
    | none =>
      have HV : Hid (CN = 0) := Lib.hid (by rw [HCN.out]; exact cntR_none hr)
      have HE : Hid (ss = RS) := Lib.hid (by
        have hn : recGo l a last (l.drop a) a [] = none := by rw [htwo, hr]; simp
        rw [← HRL.out, recsGo_none hn]
        simp)
      obtain rfl := HV.out
      clear HV HCN h0 htwo hr
      go_wp2_with fail
      go_ret
      have HSE := HROW1.out
      rw [HE.out] at HSE
      exact ⟨⟨⟨Av, vs.length, cv⟩, rfl, HSE.se _ (fun b h => h) (fun b h => h)⟩, HBW1.out⟩
    | some p =>
      obtain ⟨m, bb⟩ := p
      have hbd := recGo_bound _ _ _ _ _ hr
      rw [List.length_drop] at hbd
      have halt : a < l.length := by omega
      obtain ⟨bA, oA, v, s, hA, hbA, hsk, hby, hcv⟩ := (HX.out.step HBW1.out).at_ halt
      simp only at hA
      subst hA
      have hsl : s.length = 128 := HLS.out s (List.mem_of_getElem? hsk)
      obtain ⟨b1, o1, x0, hva, hb1, _⟩ := hby.at_ (k := 0) (by omega)
      obtain ⟨v, nv, cvv⟩ := v
      simp only at hva hcv
      subst hva
      obtain rfl : nv = 128 := by have := hby.1.1; simp only at this; omega
      have hcc : 128 ≤ cvv := by have := hby.1.2.1; simp only at this; omega
      have hsd : l.getD a [] = s := by rw [List.getD_eq_getElem?_getD, hsk]; rfl
      rw [hsd] at htwo h0
      obtain ⟨q, hq⟩ : ∃ q, q = num4 s := ⟨_, rfl⟩
      have HNUM : Hid (∀ WC, Below w1.heap.size w1 WC → Calls Try.prog 63 #[.slice (some ⟨b1, o1, none⟩) 4 cvv] WC fun e w' => e = .returned (.int .u64 q) ∧ WC = w') := Lib.hid (fun WC hWC => by
        have h1 := (hby.step hWC).sub 0 4 (by omega)
        rw [hq]
        exact number_any ⟨some ⟨b1, o1, none⟩, 4, cvv⟩ (s.take 4) WC (by simpa using h1) (by simp; omega))
      have hq0 := numB_lt (s.take 4) (fun b h => hby.2 b (List.mem_of_mem_take h))
      have hq1 : 0 ≤ q ∧ q < 4294967296 := by
        rw [hq]
        unfold num4
        refine ⟨hq0.1, ?_⟩
        have h1 := hq0.2
        rw [show (s.take 4).length = 4 by simp; omega] at h1
        omega
      obtain ⟨k, hk⟩ : ∃ k, m = a + k := ⟨m - a, by omega⟩
      have hk0 : 0 < k := by omega
      have hkl : a + k ≤ l.length := by omega
      have HV : Hid (CN = k) := Lib.hid (by rw [HCN.out, cntR_some hr, hk]; omega)
      have HB : Hid (BY = bb) := Lib.hid (by rw [HBY.out, bytR_some hr])
      obtain rfl := HB.out
      have HR := Lib.hid hr
      have HTWO := Lib.hid htwo
      have HQ := Lib.hid hq
      have HSD := Lib.hid hsd
      have HK := Lib.hid hk
      rw [HV.out]
      obtain ⟨i0, hinf, _, _, _⟩ := info_parts Try.infoByte
      have hs1 := fun W => run_slice_to (P := Try.prog) Try.underlying35 hinf (some ⟨b1, o1, none⟩) 128 cvv .i64 4 (by omega) (by omega) W
      rw [show (4 : Int).toNat = 4 from rfl] at hs1
      have hal' : (a : Int) < (l.length : Int) := by omega
      have HKL := Lib.hid hkl
      clear hinf hr htwo hq hsd hk hbd hsk hby hsl h0 HV HB HCN HBY hq0 hal hkl
      cases hlt : decide (q < last)
      · have HGO : Hid (ss ++ [BY] ++ (recsGo l (fuel - 1) (a + k) q).map (·.2) = RS) := Lib.hid (by
          have hn : recGo l a last (l.drop a) a [] = some (a + k, BY) := by
            rw [HTWO.out, if_neg (by rw [← HQ.out]; exact of_decide_eq_false hlt), HR.out, HK.out]
          have h1 := recsGo_some (f := fuel - 1) hn
          rw [show fuel - 1 + 1 = fuel by have := HFU.out; omega, HSD.out, ← HQ.out] at h1
          rw [← HRL.out, h1]
          simp)
        go_wp2_with fail
        refine (HNUM.out _ (Below.refl _ _)).mono ?_
        rintro e w2 ⟨rfl, rfl⟩
        go_wp2_with fail
        refine (HNUM.out _ (Below.refl _ _)).mono ?_
        rintro e w2 ⟨rfl, rfl⟩
        obtain ⟨i1, hi1, hz0, hz1', hz2'⟩ := info_parts Try.infoSl
        have HI := Lib.hid hi1
        clear hi1
        have hal : Below w1.heap.size w1 (w1.alloc (.cells #[.slice A1 BY.length c1] 35)) := (Below.refl _ _).alloc (Nat.le_refl _) _
        have HAL := Lib.hid hal
        have hrow2 := HROW1.out.step hal
        have hx2 : By (w1.alloc (.cells #[.slice A1 BY.length c1] 35)) (fun b => w.heap.size ≤ b ∧ b < (w1.alloc (.cells #[.slice A1 BY.length c1] 35)).heap.size ∧ (Value.slice Av vs.length cv).ownBlock ≠ some b) ⟨A1, BY.length, c1⟩ BY := by
          have h1 : By w1 (fun b => wi.heap.size ≤ b) ⟨A1, BY.length, c1⟩ BY := ⟨SlR.of_owns byteE_len HOWN.out, HBYT.out⟩
          have h2 := (h1.step hal).mono2 (Q := fun b => w.heap.size ≤ b ∧ b < (w1.alloc (.cells #[.slice A1 BY.length c1] 35)).heap.size ∧ (Value.slice Av vs.length cv).ownBlock ≠ some b)
          exact h2 (fun b hb hl => ⟨by omega, hl, fun e => by have := HROW.out.row.lt b e; omega⟩)
        have HROW2 := Lib.hid hrow2
        have HX2 := Lib.hid hx2
        clear hal hrow2 hx2
        go_wp2_with (at_builtin; refine stop_mk ?_)
        refine stop_out (wpList_append_reads (en := slE) (sz := 1) _ rfl _ _ _ rfl slE_len slE_one w.heap.size 35 i1 _ 24 Try.underlying22 HI.out hz0 hz1' hz2' rfl (by omega) (.slice Av vs.length cv) vs rfl HROW2.out.row
            (w1.heap.size + 1) (some ⟨w1.heap.size, 0, none⟩) 1 [⟨A1, BY.length, c1⟩] rfl (reads_one w1 slE ⟨A1, BY.length, c1⟩ _ _ rfl 1 w1.heap.size rfl) (fun h => by cases h) (by simp [maxLen]; omega) (by simp; omega) (by simp; omega) ?_)
        intro v4 w4 ho4 hg4 hv4 _
        have HROW4 := Lib.hid (HROW2.out.append HX2.out ho4 hg4 (hv4.imp id (fun e => ⟨_, e, by simp⟩)))
        have HBW4 : Hid (Below w.heap.size w w4) := Lib.hid ((HBW1.out.trans (HAL.out.mono (by omega))).grown hg4 (by simp; omega) (fun k e => HROW1.out.row.base_le k e))
        clear ho4 hg4 hv4
        go_wp2_with fail
        have hw : wrap64 ((a : Int) + (k : Int)) = ((a + k : Nat) : Int) := by
          have := HKL.out
          rw [IntWalk.wrap64_in _ ⟨by omega, by omega⟩]
          omega
        have hkl' := HKL.out
        have HW := Lib.hid hw
        clear hw
        go_roundw
        case rel => exact ⟨a + k, q, _, _, fuel - 1, congrArg (Value.int .i64) HW.out, rfl, HKL.out, hq1.1, hq1.2, by have := HFU.out; have := HKL.out; omega, by have := HSA.out; simp; omega, HGO.out, HROW4.out, HBW4.out⟩
        case measure => exact meas_step hk0 hkl' HW.out
      · have HE : Hid (ss = RS) := Lib.hid (by
          have hn : recGo l a last (l.drop a) a [] = none := by rw [HTWO.out, if_pos (by rw [← HQ.out]; exact of_decide_eq_true hlt)]
          rw [← HRL.out, recsGo_none hn]
          simp)
        go_wp2_with fail
        refine (HNUM.out _ (Below.refl _ _)).mono ?_
        rintro e w2 ⟨rfl, rfl⟩
        go_wp2_with fail
        go_ret
        have HSE := HROW1.out
        rw [HE.out] at HSE
        exact ⟨⟨⟨Av, vs.length, cv⟩, rfl, HSE.se _ (fun b h => h) (fun b h => h)⟩, HBW1.out⟩

set_option maxRecDepth 100000 in
set_option maxHeartbeats 2000000 in
theorem ROpen_any {P : Nat → Prop} (d : Dk) (sv pv : Sl) (w : World) (h : Di w P sv pv d) :
    Calls Try.prog 13 #[dkV sv pv d] w fun e w' => (∃ rv : Sl, e = .returned (.tuple #[jlV rv (openJ d).1, .int .i64 (openJ d).2]) ∧ Se w' (fun b => w.heap.size ≤ b) rv (openJ d).1.recs) ∧ Below w.heap.size w w' := by
  have hs := h.1.len
  have hp := h.2.len
  have HD := Lib.hid h
  have hle := h.1.le
  have hlp : d.pend.length ≤ 9223372036854775807 := by
    obtain ⟨vs, h1, h2, _⟩ := h.2
    have := h1.le
    omega
  clear h
  obtain ⟨A, n, c⟩ := sv
  obtain ⟨B, np, cp⟩ := pv
  simp only at hs hp
  subst hs hp
  have hb0 : Below w.heap.size w ((w.alloc (.cells #[.slice A d.secs.length c, .slice B d.pend.length cp, .int .i64 d.left, .bool d.stopped] 25)).alloc (.cells #[.slice none 0 0, .int .i64 0, .int .i64 0] 29)) := ((Below.refl _ _).alloc (Nat.le_refl _) _).alloc (by simp) _
  have HB0 := Lib.hid hb0
  have HX1 : Hid (Box4 ((w.alloc (.cells #[.slice A d.secs.length c, .slice B d.pend.length cp, .int .i64 d.left, .bool d.stopped] 25)).alloc (.cells #[.slice none 0 0, .int .i64 0, .int .i64 0] 29)) w.heap.size (.slice A d.secs.length c) (.slice B d.pend.length cp) (.int .i64 d.left) (.bool d.stopped)) := Lib.hid ((Box4.new w _ _ _ _ 25).step ((Below.refl _ _).alloc (Nat.le_refl _) _))
  have HX2 : Hid (Box3 ((w.alloc (.cells #[.slice A d.secs.length c, .slice B d.pend.length cp, .int .i64 d.left, .bool d.stopped] 25)).alloc (.cells #[.slice none 0 0, .int .i64 0, .int .i64 0] 29)) (w.heap.size + 1) (.slice none 0 0) (.int .i64 0) (.int .i64 0)) := Lib.hid (by have := Box3.new (w.alloc (.cells #[.slice A d.secs.length c, .slice B d.pend.length cp, .int .i64 d.left, .bool d.stopped] 25)) (.slice none 0 0) (.int .i64 0) (.int .i64 0) 29; simpa using this)
  clear hb0
  cases hv : validD d
  · rw [openJ_bad hv]
    have HC := Lib.hid (checkD_no hv)
    clear hv
    unfold dkV jlV Jl.zero
    go_enter Try.func13, Try.ntmps13
    go_wp2_with fail
    refine (RCheck_any d ⟨A, d.secs.length, c⟩ ⟨B, d.pend.length, cp⟩ _ (HD.out.step HB0.out)).mono ?_
    rw [HC.out]
    rintro e w1 ⟨rfl, hb1⟩
    obtain ⟨q0, q1, q2, q3, q4, q5, q6⟩ := HX2.out.step hb1
    have HB1 := Lib.hid (HB0.out.trans (hb1.mono HB0.out.size))
    clear hb1
    go_wp2_with fail
    exact bodyPost_ret (v := .tuple #[.agg #[.slice none 0 0, .int .i64 0, .int .i64 0], .int .i64 450]) (by simp [results, Try.results13, go_sem, q0, q1, q2]) rfl ⟨⟨⟨none, 0, 0⟩, rfl, Se.nil_ _ _⟩, ((HB1.out.setCell (p := ⟨w.heap.size + 1, 0, none⟩) (Nat.le_succ _) _).setCell (p := ⟨w.heap.size + 1, 1, none⟩) (Nat.le_succ _) _).setCell (p := ⟨w.heap.size + 1, 2, none⟩) (Nat.le_succ _) _⟩
  · have HC := Lib.hid (checkD_yes hv)
    have HV := Lib.hid hv
    clear hv
    cases hst : d.stopped
    case true =>
      rw [openJ_stopped HV.out hst]
      rw [hst] at HB0 HX1 HX2
      unfold dkV jlV Jl.zero
      rw [hst]
      have HST := Lib.hid hst
      clear hst
      go_enter Try.func13, Try.ntmps13
      go_wp2_with fail
      have hck := RCheck_any d ⟨A, d.secs.length, c⟩ ⟨B, d.pend.length, cp⟩ _ (HD.out.step HB0.out)
      unfold dkV at hck
      rw [HST.out] at hck
      refine hck.mono ?_
      rw [HC.out]
      rintro e w1 ⟨rfl, hb1⟩
      obtain ⟨q0, q1, q2, q3, q4, q5, q6⟩ := HX2.out.step hb1
      obtain ⟨r0, r1, r2, r3, _, _, _, _, r8⟩ := HX1.out.step hb1
      have HB1 := Lib.hid (HB0.out.trans (hb1.mono HB0.out.size))
      clear hb1 hck
      go_wp2_with fail
      exact bodyPost_ret (v := .tuple #[.agg #[.slice none 0 0, .int .i64 0, .int .i64 0], .int .i64 450]) (by simp [results, Try.results13, go_sem, q0, q1, q2]) rfl ⟨⟨⟨none, 0, 0⟩, rfl, Se.nil_ _ _⟩, ((HB1.out.setCell (p := ⟨w.heap.size + 1, 0, none⟩) (Nat.le_succ _) _).setCell (p := ⟨w.heap.size + 1, 1, none⟩) (Nat.le_succ _) _).setCell (p := ⟨w.heap.size + 1, 2, none⟩) (Nat.le_succ _) _⟩
    case false =>
      rw [hst] at HB0 HX1 HX2
      have HST := Lib.hid hst
      by_cases hpn : 0 < d.pend.length
      · rw [openJ_pend HV.out hst hpn]
        unfold dkV jlV Jl.zero
        rw [hst]
        clear hst
        go_enter Try.func13, Try.ntmps13
        go_wp2_with fail
        have hck := RCheck_any d ⟨A, d.secs.length, c⟩ ⟨B, d.pend.length, cp⟩ _ (HD.out.step HB0.out)
        unfold dkV at hck
        rw [HST.out] at hck
        refine hck.mono ?_
        rw [HC.out]
        rintro e w1 ⟨rfl, hb1⟩
        obtain ⟨q0, q1, q2, q3, q4, q5, q6⟩ := HX2.out.step hb1
        obtain ⟨r0, r1, r2, r3, _, _, _, _, r8⟩ := HX1.out.step hb1
        have HB1 := Lib.hid (HB0.out.trans (hb1.mono HB0.out.size))
        clear hb1 hck
        go_wp2_with fail
        exact bodyPost_ret (v := .tuple #[.agg #[.slice none 0 0, .int .i64 0, .int .i64 0], .int .i64 1]) (by simp [results, Try.results13, go_sem, q0, q1, q2]) rfl ⟨⟨⟨none, 0, 0⟩, rfl, Se.nil_ _ _⟩, ((HB1.out.setCell (p := ⟨w.heap.size + 1, 0, none⟩) (Nat.le_succ _) _).setCell (p := ⟨w.heap.size + 1, 1, none⟩) (Nat.le_succ _) _).setCell (p := ⟨w.heap.size + 1, 2, none⟩) (Nat.le_succ _) _⟩
      · rw [openJ_ok HV.out hst (by omega)]
        unfold dkV jlV
        rw [hst]
        clear hst
        obtain ⟨rs, hrs⟩ : ∃ rs, rs = recsJ d.secs := ⟨_, rfl⟩
        simp only
        rw [← hrs]
        have HRS := Lib.hid hrs
        clear hrs
        go_enter Try.func13, Try.ntmps13
        go_wp2_with fail
        have hck := RCheck_any d ⟨A, d.secs.length, c⟩ ⟨B, d.pend.length, cp⟩ _ (HD.out.step HB0.out)
        unfold dkV at hck
        rw [HST.out] at hck
        refine hck.mono ?_
        rw [HC.out]
        rintro e w1 ⟨rfl, hb1⟩
        obtain ⟨q0, q1, q2, q3, q4, q5, q6⟩ := HX2.out.step hb1
        obtain ⟨r0, r1, r2, r3, _, _, _, _, r8⟩ := HX1.out.step hb1
        have HB1 := Lib.hid (HB0.out.trans (hb1.mono HB0.out.size))
        have HD1 := Lib.hid (HD.out.step HB1.out)
        have hd96 : d.secs.length ≤ 4096 := by have := HV.out; simp [validD, sizesOk] at this; omega
        have hd128 : ∀ s ∈ d.secs, s.length = 128 := fun s hs => by have := HV.out; simp [validD, isSec] at this; exact this.2.2 s hs
        have HX3 := Lib.hid (HX2.out.step hb1)
        have HX4 := Lib.hid (HX1.out.step hb1)
        have HL := Lib.hid hd128
        clear hb1 hck hd128
        go_wp2_with fail
        refine (RRecords_any d.secs ⟨A, d.secs.length, c⟩ w1 HD1.out.1 hd96 HL.out).mono ?_
        rintro e w2 ⟨⟨⟨A2, n2, c2⟩, rfl, hs2⟩, hb2⟩
        have hln := hs2.len
        simp only at hln
        subst hln
        have HX5 := Lib.hid (HX3.out.step hb2)
        have HX6 := Lib.hid (HX4.out.step hb2)
        have HB2 := Lib.hid (HB1.out.trans (hb2.mono HB1.out.size))
        have HS2 := Lib.hid hs2
        have hz1 := HB1.out.size
        clear hb2 hs2 q0 q1 q2 q3 q4 q5 q6 r0 r1 r2 r3 r8
        obtain ⟨q0, q1, q2, q3, q4, q5, q6⟩ := HX5.out
        obtain ⟨r0, r1, r2, r3, _, _, _, _, r8⟩ := HX6.out
        rw [← HRS.out] at HS2 ⊢
        go_wp2_with fail
        have hz3 := HX3.out.z
        have hkp : Kp (fun b => w1.heap.size ≤ b) w2 (((w2.setCell ⟨w.heap.size + 1, 0, none⟩ (.slice A2 rs.length c2)).setCell ⟨w.heap.size + 1, 1, none⟩ (.int .i64 d.secs.length)).setCell ⟨w.heap.size + 1, 2, none⟩ (.int .i64 rs.length)) :=
          (((Kp.of_below (Below.refl _ w2)).setCell (a := ⟨w.heap.size + 1, 0, none⟩) (by simp; omega) _).setCell (a := ⟨w.heap.size + 1, 1, none⟩) (by simp; omega) _).setCell (a := ⟨w.heap.size + 1, 2, none⟩) (by simp; omega) _
        exact bodyPost_ret (v := .tuple #[.agg #[.slice A2 rs.length c2, .int .i64 d.secs.length, .int .i64 rs.length], .int .i64 0]) (by simp [results, Try.results13, go_sem, q0, q1, q2]) rfl
          ⟨⟨⟨A2, rs.length, c2⟩, rfl, (HS2.out.keep hkp).mono (fun b hb => by omega)⟩, ((HB2.out.setCell (p := ⟨w.heap.size + 1, 0, none⟩) (Nat.le_succ _) _).setCell (p := ⟨w.heap.size + 1, 1, none⟩) (Nat.le_succ _) _).setCell (p := ⟨w.heap.size + 1, 2, none⟩) (Nat.le_succ _) _⟩
end Go.Proofs.Ytgbkhmoplocmkaa
