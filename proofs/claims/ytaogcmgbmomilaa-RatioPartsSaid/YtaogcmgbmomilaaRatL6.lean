/- RatioBetween, walked. -/
import Derived.Test.YtaogcmgbmomilaaRatL2
import Derived.Test.YtaogcmgbmomilaaRatW
import Derived.Test.YtaogcmgbmomilaaAppLib
namespace Go.Proofs.Ytaogcmgbmomilaa
open Go.RowKit Go.Shelf
set_option linter.unusedSimpArgs false
set_option linter.unusedVariables false

theorem intE_len (x : Int) : (intE x).length = 1 := rfl
theorem intE_one (x : Int) : ∀ u ∈ intE x, u.oneCell' = true := by
  intro u hu
  simp [intE] at hu
  subst hu
  rfl
theorem Try.infoInt : (Try.prog.info? 3).map (fun i => (i.zero, i.size, i.bytes)) = some (some (.int .i64 0), 1, 8) := by kernel_rfl
/-- two rows that are not one -/
def Apart (v u : Value) : Prop := ∀ g, v.ownBlock = some g → u.ownBlock ≠ some g
theorem Apart.symm {v u : Value} (h : Apart v u) : Apart u v := fun g h1 h2 => h g h2 h1
theorem apart_nil (u : Value) : Apart (.slice none 0 0) u := fun g h => by cases h
/-- what an append to one row leaves of another -/
theorem other_after {α : Type} {W W' : World} {obj : Obj} {b sz : Nat} {e : TypeId} {en : α → List Value} {v v' u : Value} {zs : List α} (ho : Owns W b e sz en u zs) (hA : Apart v u) (hg : (W.alloc obj).grownBy W' v.ownBlock)
    (hat : v'.ownBlock = v.ownBlock ∨ v'.ownBlock = some (W.alloc obj).heap.size) : Owns W' b e sz en u zs ∧ Apart v' u := by
  refine ⟨(ho.alloc obj).kept hg (fun g h1 h2 => hA g h2 h1), fun g h1 h2 => ?_⟩
  rcases hat with h | h
  · rw [h] at h1; exact hA g h1 h2
  · rw [h] at h1
    cases h1
    have := ho.lt _ h2
    rw [World.size_alloc] at this
    omega
theorem meanP_i64 (us vs : List Int) : (meanP us vs).1.i64 := by
  unfold meanP
  split
  · split
    · exact ⟨by unfold I64; decide, by unfold I64; decide⟩
    · exact newP_i64 _ _
  · exact ⟨by unfold I64; decide, by unfold I64; decide⟩
theorem zip_take_len : ∀ us vs : List Int, us.zip (vs.take us.length) = us.zip vs
  | [], vs => by simp
  | u :: us, [] => by simp
  | u :: us, v :: vs => by
    have := zip_take_len us vs
    simp only [List.length_cons, List.take_succ_cons, List.zip_cons_cons, this]

set_option maxRecDepth 100000 in
set_option maxHeartbeats 16000000 in
theorem RatioBetween_any {w : World} (us : List Int) (A : Option Addr) (c : Nat) (hx : Reads w w.heap.size A 1 I8.enc us) (hq : ∀ y ∈ us, I8.ok y) (hm : us.length ≤ maxLen)
    (vs : List Int) (D : Option Addr) (d : Nat) (hy : Reads w w.heap.size D 1 U8.enc vs) (hq2 : ∀ y ∈ vs, U8.ok y) (hm2 : vs.length ≤ maxLen) (f : Int) (wf : (Lit.int .u8 f).wf = true) :
    Calls Try.prog 9 #[.slice A us.length c, .slice D vs.length d, .int .u8 f] w fun e w' => e = .returned (.bool true) ∧ Below w.heap.size w w' := by
  unfold maxLen at hm hm2
  obtain ⟨f0, f1⟩ := bounds_u8 wf
  have HX := Lib.hid hx
  have HY := Lib.hid hy
  have HU : Hid (∀ y ∈ us, -128 ≤ y ∧ y ≤ 127) := Lib.hid (fun y h => by have := bounds_i8 (hq y h); omega)
  have HV : Hid (∀ y ∈ vs, 0 ≤ y ∧ y ≤ 255) := Lib.hid (fun y h => by have := bounds_u8 (hq2 y h); omega)
  clear hx hy hq hq2 wf
  by_cases h1 : 200 < us.length
  · have q1 : decide ((200 : Int) < (us.length : Int)) = true := by simp; omega
    clear h1
    go_enter Try.func9, Try.ntmps9
    go_wp2_with fail
    refine (sane_any _).mono ?_
    rintro e w1 ⟨rfl, hb1⟩
    go_wp2_with fail
    go_ret
    exact ⟨rfl, hb1⟩
  have q1 : decide ((200 : Int) < (us.length : Int)) = false := by simp; omega
  by_cases h2 : vs.length < us.length
  · have q2 : decide (vs.length < us.length) = true := by simpa using h2
    clear h1 h2
    go_enter Try.func9, Try.ntmps9
    go_wp2_with fail
    refine (sane_any _).mono ?_
    rintro e w1 ⟨rfl, hb1⟩
    go_wp2_with fail
    go_ret
    exact ⟨rfl, hb1⟩
  have q2 : decide (vs.length < us.length) = false := by simpa using h2
  by_cases h3 : f = 0
  · have q3 : (f == 0) = true := by simpa using h3
    clear h1 h2 h3
    go_enter Try.func9, Try.ntmps9
    go_wp2_with fail
    refine (sane_any _).mono ?_
    rintro e w1 ⟨rfl, hb1⟩
    go_wp2_with fail
    go_ret
    exact ⟨rfl, hb1⟩
  have q3 : (f == 0) = false := by simpa using h3
  have hf1 : 1 ≤ f := by omega
  have hlen : us.length ≤ 200 := by omega
  have hlv : us.length ≤ vs.length := by omega
  have HSM : Hid (Small us (vs.take us.length)) := Lib.hid ⟨HU.out, fun y h => HV.out y (List.mem_of_mem_take h), by simp; omega, by omega⟩
  obtain ⟨i0, hi0, hz0, hz1, hz2⟩ := info_parts Try.infoInt
  have HI := Lib.hid hi0
  clear hi0 h1 h2 h3
  go_enter Try.func9, Try.ntmps9
  go_wp2_with fail
  refine (sane_any _).mono ?_
  rintro e w1 ⟨rfl, hb1⟩
  have HB1 := Lib.hid hb1
  clear hb1
  go_wp2_with fail
  go_loopw [7, 8, 9, 10, 11, 12, 42] (fun v u m lo hi sm i wr => ∃ k : Nat, k ≤ us.length ∧ i = .int .i64 k ∧ lo = .int .i64 (foldM ((us.zip vs).take k)).1 ∧ hi = .int .i64 (foldM ((us.zip vs).take k)).2.1 ∧ sm = .bool (foldM ((us.zip vs).take k)).2.2 ∧
      Owns wr w.heap.size 3 1 intE v (us.take k) ∧ Owns wr w.heap.size 3 1 intE u (vs.take k) ∧ Owns wr w.heap.size 3 1 intE m ((vs.take k).map (· * f)) ∧ Apart v u ∧ Apart v m ∧ Apart u m ∧ Below w.heap.size w wr)
    (fun _ _ _ _ _ _ i _ => us.length - (intOf i).toNat)
  case atStart => exact ⟨0, Nat.zero_le _, rfl, rfl, rfl, rfl, Owns.nil_ _ _ _ _ _, Owns.nil_ _ _ _ _ _, Owns.nil_ _ _ _ _ _, apart_nil _, apart_nil _, apart_nil _, HB1.out⟩
  case round =>
    clear HB1
    obtain ⟨k, hk, rfl, rfl, rfl, rfl, ho1, ho2, ho3, a12, a13, a23, hB⟩ := hrel
    have hzr := hB.size
    by_cases hlt : k < us.length
    · have hlt2 : k < vs.length := by omega
      obtain ⟨ba, oa, x, rfl, hba, hxk, hca⟩ := (HX.out.below hB).at_ hlt
      obtain ⟨bb, ob, n, rfl, hbb, hyk, hcb⟩ := (HY.out.below hB).at_ hlt2
      have a0 := hca 0 _ rfl
      have b0 := hcb 0 _ rfl
      simp only [Nat.add_zero, Nat.mul_one] at a0 b0
      obtain ⟨x0, x1⟩ := HU.out x (List.mem_of_getElem? hxk)
      obtain ⟨n0, n1⟩ := HV.out n (List.mem_of_getElem? hyk)
      have hP := abs_mulN (x := n) (y := f) (A := 255) (B := 255) (by omega) (by omega)
      have hP0 : 0 ≤ n * f := Int.mul_nonneg (by omega) (by omega)
      obtain ⟨P, hp⟩ : ∃ P, n * f = P := ⟨_, rfl⟩
      rw [hp] at hP hP0
      have t1 : us.take (k + 1) = us.take k ++ [x] := take_at hxk
      have t2 : vs.take (k + 1) = vs.take k ++ [n] := take_at hyk
      have t3 : (vs.take (k + 1)).map (· * f) = (vs.take k).map (· * f) ++ [P] := by rw [t2, List.map_append, ← hp]; rfl
      have t4 : foldM ((us.zip vs).take (k + 1)) = stepM (foldM ((us.zip vs).take k)) (x, n) := by rw [take_at (zip_at hxk hyk), foldM_snoc]
      have T1 := Lib.hid t1
      have T2 := Lib.hid t2
      have T3 := Lib.hid t3
      have hl1 : (us.take k).length ≤ 200 := by simp; omega
      have hl2 : (vs.take k).length ≤ 200 := by simp; omega
      have hl3 : ((vs.take k).map (· * f)).length ≤ 200 := by simp; omega
      obtain ⟨⟨lo, hi, sm⟩, hs⟩ : ∃ s, s = foldM ((us.zip vs).take k) := ⟨_, rfl⟩
      rw [← hs] at t4
      rw [← hs]
      simp only
      have T4 := Lib.hid t4
      have HO1 := Lib.hid ho1
      have HO2 := Lib.hid ho2
      have HO3 := Lib.hid ho3
      have A12 := Lib.hid a12
      have A13 := Lib.hid a13
      have A23 := Lib.hid a23
      have HB := Lib.hid hB
      have hba2 : ba < wr.heap.size := by omega
      have hbb2 : bb < wr.heap.size := by omega
      clear hca hcb hxk hyk t1 t2 t3 t4 hs ho1 ho2 ho3 a12 a13 a23 hB
      go_wp2_with (at_builtin; refine stop_mk ?_)
      refine stop_out (wpList_append_reads (en := intE) (sz := 1) _ rfl _ _ _ rfl intE_len intE_one w.heap.size 3 i0 _ 8 Try.underlying34 HI.out hz0 hz1 hz2 rfl (by omega) _ (us.take k) rfl (HO1.out.alloc _) (wr.heap.size + 1) (some ⟨wr.heap.size, 0, none⟩) 1 [x] rfl (reads_one wr intE x _ _ rfl 1 wr.heap.size rfl) (fun h => by cases h) (by simp [maxLen]; omega) (by simp; omega) (by have := hzr; simp; omega) ?_)
      intro r5 w5 hown hg hat _
      obtain ⟨o2, c12⟩ := other_after HO2.out A12.out hg hat
      obtain ⟨o3, c13⟩ := other_after HO3.out A13.out hg hat
      have hB5 : Below w.heap.size w w5 := (HB.out.alloc hzr _).grown hg (by have := hzr; simp; omega) HO1.out.base_le
      have N1 := Lib.hid hown
      have N2 := Lib.hid o2
      have N3 := Lib.hid o3
      have C12 := Lib.hid c12
      have C13 := Lib.hid c13
      have HB5 := Lib.hid hB5
      have hz5 := hB5.size
      clear hown hg hat o2 o3 c12 c13 hB5
      go_wp2_with (at_builtin; refine stop_mk ?_)
      refine stop_out (wpList_append_reads (en := intE) (sz := 1) _ rfl _ _ _ rfl intE_len intE_one w.heap.size 3 i0 _ 8 Try.underlying34 HI.out hz0 hz1 hz2 rfl (by omega) _ (vs.take k) rfl (N2.out.alloc _) (w5.heap.size + 1) (some ⟨w5.heap.size, 0, none⟩) 1 [n] rfl (reads_one w5 intE n _ _ rfl 1 w5.heap.size rfl) (fun h => by cases h) (by simp [maxLen]; omega) (by simp; omega) (by have := hz5; simp; omega) ?_)
      intro r6 w6 hown hg hat _
      obtain ⟨o1, e12⟩ := other_after N1.out C12.out.symm hg hat
      obtain ⟨o3, e23⟩ := other_after N3.out A23.out hg hat
      have hB6 : Below w.heap.size w w6 := (HB5.out.alloc hz5 _).grown hg (by have := hz5; simp; omega) N2.out.base_le
      have M1 := Lib.hid o1
      have M2 := Lib.hid hown
      have M3 := Lib.hid o3
      have E12 := Lib.hid e12.symm
      have E23 := Lib.hid e23
      have HB6 := Lib.hid hB6
      have hz6 := hB6.size
      clear hown hg hat o1 o3 e12 e23 hB6
      go_wp2_with (at_builtin; refine stop_mk ?_)
      refine stop_out (wpList_append_reads (en := intE) (sz := 1) _ rfl _ _ _ rfl intE_len intE_one w.heap.size 3 i0 _ 8 Try.underlying34 HI.out hz0 hz1 hz2 rfl (by omega) _ ((vs.take k).map (· * f)) rfl (M3.out.alloc _) (w6.heap.size + 1) (some ⟨w6.heap.size, 0, none⟩) 1 [P] rfl (reads_one w6 intE P _ _ rfl 1 w6.heap.size rfl) (fun h => by cases h) (by simp [maxLen]; omega) (by simp; omega) (by have := hz6; simp; omega) ?_)
      intro r7 w7 hown hg hat _
      obtain ⟨o1, g13⟩ := other_after M1.out C13.out.symm hg hat
      obtain ⟨o2, g23⟩ := other_after M2.out E23.out.symm hg hat
      have hB7 : Below w.heap.size w w7 := (HB6.out.alloc hz6 _).grown hg (by have := hz6; simp; omega) M3.out.base_le
      have L1 := Lib.hid o1
      have L2 := Lib.hid o2
      have L3 := Lib.hid hown
      have G13 := Lib.hid g13.symm
      have G23 := Lib.hid g23.symm
      have HB7 := Lib.hid hB7
      clear hown hg hat o1 o2 g13 g23 hB7 hp
      by_cases hn : 0 < n
      · have d1 : decide (0 < n) = true := by simpa using hn
        cases sm with
        | false =>
          go_wp2_with fail
          go_roundw
          case rel => exact ⟨k + 1, by omega, by go_num, by rw [T4.out]; simp only [stepM]; simp [hn], by rw [T4.out]; simp only [stepM]; simp [hn], by rw [T4.out]; simp only [stepM]; simp [hn], by rw [T1.out]; exact L1.out, by rw [T2.out]; exact L2.out, by rw [T3.out]; exact L3.out, E12.out, G13.out, G23.out, HB7.out⟩
          case measure => simp [intOf]; omega
        | true =>
          by_cases hl : x < lo
          · have d2 : decide (x < lo) = true := by simpa using hl
            by_cases hh : hi < x
            · have d3 : decide (hi < x) = true := by simpa using hh
              go_wp2_with fail
              go_roundw
              case rel => exact ⟨k + 1, by omega, by go_num, by rw [T4.out]; simp only [stepM]; simp [hn, hl, hh], by rw [T4.out]; simp only [stepM]; simp [hn, hl, hh], by rw [T4.out]; simp only [stepM]; simp [hn, hl, hh], by rw [T1.out]; exact L1.out, by rw [T2.out]; exact L2.out, by rw [T3.out]; exact L3.out, E12.out, G13.out, G23.out, HB7.out⟩
              case measure => simp [intOf]; omega
            · have d3 : decide (hi < x) = false := by simpa using hh
              go_wp2_with fail
              go_roundw
              case rel => exact ⟨k + 1, by omega, by go_num, by rw [T4.out]; simp only [stepM]; simp [hn, hl, hh], by rw [T4.out]; simp only [stepM]; simp [hn, hl, hh], by rw [T4.out]; simp only [stepM]; simp [hn, hl, hh], by rw [T1.out]; exact L1.out, by rw [T2.out]; exact L2.out, by rw [T3.out]; exact L3.out, E12.out, G13.out, G23.out, HB7.out⟩
              case measure => simp [intOf]; omega
          · have d2 : decide (x < lo) = false := by simpa using hl
            by_cases hh : hi < x
            · have d3 : decide (hi < x) = true := by simpa using hh
              go_wp2_with fail
              go_roundw
              case rel => exact ⟨k + 1, by omega, by go_num, by rw [T4.out]; simp only [stepM]; simp [hn, hl, hh], by rw [T4.out]; simp only [stepM]; simp [hn, hl, hh], by rw [T4.out]; simp only [stepM]; simp [hn, hl, hh], by rw [T1.out]; exact L1.out, by rw [T2.out]; exact L2.out, by rw [T3.out]; exact L3.out, E12.out, G13.out, G23.out, HB7.out⟩
              case measure => simp [intOf]; omega
            · have d3 : decide (hi < x) = false := by simpa using hh
              go_wp2_with fail
              go_roundw
              case rel => exact ⟨k + 1, by omega, by go_num, by rw [T4.out]; simp only [stepM]; simp [hn, hl, hh], by rw [T4.out]; simp only [stepM]; simp [hn, hl, hh], by rw [T4.out]; simp only [stepM]; simp [hn, hl, hh], by rw [T1.out]; exact L1.out, by rw [T2.out]; exact L2.out, by rw [T3.out]; exact L3.out, E12.out, G13.out, G23.out, HB7.out⟩
              case measure => simp [intOf]; omega
      · have d1 : decide (0 < n) = false := by simpa using hn
        go_wp2_with fail
        go_roundw
        case rel => exact ⟨k + 1, by omega, by go_num, by rw [T4.out]; simp only [stepM]; simp [hn], by rw [T4.out]; simp only [stepM]; simp [hn], by rw [T4.out]; simp only [stepM]; simp [hn], by rw [T1.out]; exact L1.out, by rw [T2.out]; exact L2.out, by rw [T3.out]; exact L3.out, E12.out, G13.out, G23.out, HB7.out⟩
        case measure => simp [intOf]; omega
    · obtain rfl : k = us.length := by omega
      rw [List.take_length] at ho1
      rw [List.take_of_length_le (by simp; omega), ← zip_take_len us vs]
      obtain ⟨ws, hws⟩ : ∃ l, l = vs.take us.length := ⟨_, rfl⟩
      have hsm := HSM.out
      rw [← hws] at ho2 ho3 hsm
      rw [← hws]
      have HLW : Hid (ws.length = us.length) := Lib.hid hsm.2.2.1.symm
      obtain ⟨⟨rn, rd⟩, hr, hok, hval, hzero⟩ := mean_small hsm
      have hr2 := mean_scale hsm (f := f) hf1 (by omega)
      rw [hr] at hr2
      have hbt := mean_between hsm hok hval
      obtain ⟨p1, p2, p3, p4, p5, _⟩ := minmax_all (us.zip ws) (fun x hx => by have := hsm.pair x hx; omega)
      obtain ⟨⟨lo, hi, sm⟩, hs⟩ : ∃ s, s = foldM (us.zip ws) := ⟨_, rfl⟩
      rw [← hs] at hbt p1 p2 p3 p4 p5
      rw [← hs]
      simp only at hbt p1 p2 p3 p4 p5 ⊢
      obtain ⟨Av, cv, rfl, _, _⟩ := ho1.shape
      obtain ⟨Aw, cw, rfl, _, _⟩ := ho2.shape
      obtain ⟨Am, cm, rfl, _, _⟩ := ho3.shape
      simp only [List.length_map]
      have R1 := Lib.hid (ho1.reads intE_len)
      have R2 := Lib.hid (ho2.reads intE_len)
      have R3 : Hid (Reads wr wr.heap.size Am 1 intE (ws.map (· * f))) := Lib.hid (by have h := ho3; simp only [List.length_map] at h; exact h.reads intE_len)
      have HR := Lib.hid hr
      have HR2 := Lib.hid hr2
      have HB := Lib.hid hB
      have HIR : Hid (Ra.i64 ⟨rn, rd⟩) := Lib.hid (by have := meanP_i64 us ws; rw [hr] at this; exact this)
      have hlo : I64 lo := I64_of (by omega) (by omega)
      have hhi : I64 hi := I64_of (by omega) (by omega)
      have HBT := Lib.hid hbt
      have HOK := Lib.hid hok
      have HZ : Hid (sm = false → rn = 0 ∧ rd = 1) := Lib.hid (fun h => by have := hzero (p5 h).1; cases this; exact ⟨rfl, rfl⟩)
      clear ho1 ho2 ho3 a12 a13 a23 hr hr2 hval hzero hbt hok p1 p2 p3 p4 p5 hs hws hsm hB
      go_wp2_with fail
      refine (Mean_any us ws Av Aw cv cw _ R1.out R2.out (by omega)).mono ?_
      rw [HR.out]
      simp only [Ra.v]
      rintro e w2 ⟨rfl, hb2⟩
      have G2 := HB.out.trans (hb2.mono hzr)
      have hz2' := hb2.size
      go_wp2_with fail
      have hmapl : (ws.map (· * f)).length = ws.length := by simp
      have K2 := (Below.refl wr.heap.size wr).trans (hb2.alloc hb2.size (.cells #[.int .i64 rn, .int .i64 rd] 23))
      have hM := Mean_any us (ws.map (· * f)) Av Am cv cm (w2.alloc (.cells #[.int .i64 rn, .int .i64 rd] 23)) ((R1.out.below K2).more K2.size) ((R3.out.below K2).more K2.size) (by omega)
      rw [hmapl] at hM
      refine hM.mono ?_
      rw [HR2.out]
      simp only [Ra.v]
      rintro e w3 ⟨rfl, hb3⟩
      have F3 := hb3.mono (B' := w2.heap.size + 1) (by simp)
      have G3 := (G2.alloc G2.size (.cells #[.int .i64 rn, .int .i64 rd] 23)).trans (hb3.mono (by simp; omega))
      have z3 : w2.heap.size + 1 ≤ w3.heap.size := by have := hb3.size; simpa using this
      obtain ⟨p0, p1, hp⟩ := one_box (a := ⟨rn, rd⟩) F3
      clear hb2 hb3 hM K2 G2 hmapl
      cases sm with
      | false =>
        obtain ⟨rfl, rfl⟩ := HZ.out rfl
        go_wp2_with fail
        go_ret
        first | exact ⟨rfl, G3.alloc G3.size _⟩ | exact ⟨ret_bool (by simp), G3.alloc G3.size _⟩
      | true =>
        obtain ⟨k1, k2, c1, c2⟩ := HBT.out rfl
        have hcm1 := cmpP_ok k1 HOK.out
        have hcm2 := cmpP_ok HOK.out k2
        obtain ⟨m1, hm1⟩ : ∃ m, m = cmpV ⟨lo, 1⟩ ⟨rn, rd⟩ := ⟨_, rfl⟩
        obtain ⟨m2, hm2⟩ : ∃ m, m = cmpV ⟨rn, rd⟩ ⟨hi, 1⟩ := ⟨_, rfl⟩
        rw [← hm1] at c1 hcm1
        rw [← hm2] at c2 hcm2
        have M1 := Lib.hid hcm1
        have M2 := Lib.hid hcm2
        have HLO := Lib.hid hlo
        have HHI := Lib.hid hhi
        clear k1 k2 hcm1 hcm2 hm1 hm2 hlo hhi
        go_wp2_with fail
        have I1 : I64 1 := I64_of (by decide) (by decide)
        refine Calls.mono (RaCompare_any ⟨lo, 1⟩ ⟨rn, rd⟩ ⟨HLO.out, I1⟩ HIR.out _) ?_
        rw [M1.out]
        rintro e w4 ⟨rfl, hb4⟩
        have F4 := (F3.alloc z3 (.cells #[.int .i64 rn, .int .i64 rd] 23)).trans (hb4.mono (by simp; omega))
        have G4 := (G3.alloc G3.size (.cells #[.int .i64 rn, .int .i64 rd] 23)).trans (hb4.mono (by have := G3.size; simp; omega))
        clear p0 p1 hp
        obtain ⟨p0, p1, hp⟩ := one_box (a := ⟨rn, rd⟩) F4
        clear hb4
        go_wp2_with fail
        refine Calls.mono (RaCompare_any ⟨rn, rd⟩ ⟨hi, 1⟩ HIR.out ⟨HHI.out, I1⟩ _) ?_
        rw [M2.out]
        rintro e w5 ⟨rfl, hb5⟩
        have e1 : decide (m1 ≤ 0) = true := by simpa using c1
        have e2 : decide (m2 ≤ 0) = true := by simpa using c2
        go_wp2_with fail
        go_ret
        first | exact ⟨rfl, G4.trans (hb5.mono G4.size)⟩ | exact ⟨ret_bool (by simp), G4.trans (hb5.mono G4.size)⟩
end Go.Proofs.Ytaogcmgbmomilaa
