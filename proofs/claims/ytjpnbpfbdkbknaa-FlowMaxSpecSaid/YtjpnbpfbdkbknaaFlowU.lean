/- The reference's Max, walked. -/
import Derived.Test.YtjpnbpfbdkbknaaFlowO
import Derived.Test.YtjpnbpfbdkbknaaFlowJ
namespace Go.Proofs.Ytjpnbpfbdkbknaa
open Go.RowKit Go.Shelf
set_option linter.unusedSimpArgs false
set_option linter.unusedVariables false

theorem WayP.back {l : List Ed} {p : Int → Nat} {a : Int} : ∀ (rs : List Nat) (v : Int), WayP l p a v rs → ∀ r ∈ rs, p (endR l r) = r ∧ endR l r ≠ a
  | [], v, _, r, hr => by simp at hr
  | q :: rs, v, ⟨h1, h2, h3, h4, h5⟩, r, hr => by
    rcases List.mem_cons.1 hr with rfl | hr
    · rw [h4]; exact ⟨h2, h1⟩
    · exact WayP.back rs _ h5 r hr

/-- what the reference's Max returns -/
def RMaxOut (n a b : Int) (l : List Ed) (w' : World) (e : Ending) : Prop :=
  (okX n l a b = true ∧ ∃ F cf C xs cs c, e = .returned (.tuple #[.slice F l.length cf, .slice (some ⟨C, 0, none⟩) n.toNat n.toNat, .int .i64 0]) ∧ MaxR n.toNat l a b xs c ∧ xs.length = l.length ∧ CutOk n.toNat cs c ∧
    Reads w' w'.heap.size F 1 intE xs ∧ Reads w' w'.heap.size (some ⟨C, 0, none⟩) 1 boolE cs) ∨
  (okX n l a b = false ∧ e = .returned (.tuple #[.slice none 0 0, .slice none 0 0, .int .i64 180]))

set_option maxRecDepth 100000 in
set_option maxHeartbeats 8000000 in
theorem RMax_any (n a b : Int) (hn64 : -9223372036854775808 ≤ n ∧ n ≤ 9223372036854775807) (l : List Ed) (A : Option Addr) (c : Nat) (w : World) (hx : Reads w w.heap.size A 3 Ed.enc l) (hlc : l.length ≤ 9223372036854775807) :
    Calls Try.prog 20 #[.int .i64 n, .slice A l.length c, .int .i64 a, .int .i64 b] w fun e w' => RMaxOut n a b l w' e ∧ Below w.heap.size w w' := by
  have HX := Lib.hid hx
  have hl63 : l.length ≤ 9223372036854775807 := hlc
  have HD := Lib.hid (ends_any n a b l A c w hx hl63)
  clear hx hlc
  cases hok : okX n l a b
  · have HO := Lib.hid hok
    rw [hok] at HD
    clear hok
    go_enter Try.func20, Try.ntmps20
    go_wp2_with fail
    refine (HD.out).mono ?_
    rintro e w1 ⟨rfl, hb1⟩
    have HB1 := Lib.hid hb1
    clear hb1
    go_wp2_with fail
    go_ret3
    exact ⟨.inr ⟨HO.out, rfl⟩, HB1.out⟩
  · have hok2 := hok
    simp only [okX, Bool.and_eq_true] at hok2
    obtain ⟨hn1, hn2, hn3, hn4⟩ := okN_out hok2.1
    obtain ⟨ha0, ha1, hb0, hb1, hab⟩ := okV_out hok2.2
    have HO := Lib.hid hok
    rw [hok] at HD
    obtain ⟨n, rfl⟩ : ∃ m : Nat, n = (m : Int) := ⟨n.toNat, by omega⟩
    obtain ⟨a, rfl⟩ : ∃ m : Nat, a = (m : Int) := ⟨a.toNat, by omega⟩
    obtain ⟨b, rfl⟩ : ∃ m : Nat, b = (m : Int) := ⟨b.toNat, by omega⟩
    have han : a < n := by omega
    have hbn : b < n := by omega
    have HE := Lib.hid hn4
    have HAB : Hid (a ≠ b) := Lib.hid (by omega)
    have hll := hn3
    have hnn : n ≤ 4096 := by omega
    have hn2' : 1 ≤ n := by omega
    clear hok hok2 hn4 hn3 ha0 ha1 hb0 hb1 hab hn1 hn2 hn64
    obtain ⟨i0, hinf2, hy0, hy1, hy2⟩ := info_parts Try.infoInt
    have hmk := fun W => run_make (P := Try.prog) W 23 3 i0 (.int .i64 0) Try.underlying23 hinf2 hy0 .i64 .i64 (l.length : Int) (l.length : Int) (by omega) (by omega) (by rw [hy2]; omega) (by omega)
    rw [hy1] at hmk
    simp only [Int.toNat_natCast, Nat.mul_one, made_ints] at hmk
    obtain ⟨iz, hiz⟩ : ∃ q, q = ((List.replicate l.length (0 : Int)).map (Value.int .i64)).toArray := ⟨_, rfl⟩
    rw [← hiz] at hmk
    have HIZ := Lib.hid hiz
    clear hinf2 hy0 hy1 hy2 hiz
    go_enter Try.func20, Try.ntmps20
    go_wp2_with fail
    refine (HD.out).mono ?_
    rintro e w1 ⟨rfl, hb1⟩
    have HB1 := Lib.hid hb1
    go_wp2_with fail
    obtain ⟨W2, hW2⟩ : ∃ X, X = w1.alloc (.cells iz 3) := ⟨_, rfl⟩
    obtain ⟨F, hF⟩ : ∃ q, q = w1.heap.size := ⟨_, rfl⟩
    have b2 : Below w.heap.size w W2 := by rw [hW2]; exact hb1.alloc hb1.size _
    have f2 : FlAt W2 F (List.replicate l.length 0) := by unfold FlAt; rw [hW2, hF, ← HIZ.out]; exact heap_alloc_new w1 _
    have HB2 := Lib.hid b2
    have HF2 := Lib.hid f2.reads
    rw [← hW2, ← hF]
    clear b2 f2 hb1 hmk hW2 hF
    go_loopg [11] (sumM l).toNat (fun k fv wr => ∃ Af cf xs, fv = .slice Af l.length cf ∧ (Af = none → cf = 0) ∧ Reads wr wr.heap.size Af 1 intE xs ∧ IsFl n l a b xs ∧ Below w.heap.size w wr ∧ (k : Int) = sumM l - outE l xs a)
    case atStart =>
      refine ⟨_, _, _, rfl, fun h => by simp at h, HF2.out, zeros_fl n l a b (fun e he => (okE_out (HE.out e he)).2.2.2.2.2.1), HB2.out, ?_⟩
      have h2 : outE l (List.replicate l.length 0) a = 0 := out_zeros l a
      have h3 := (sumM_le l HE.out).1
      rw [h2]; omega
    case round =>
      obtain ⟨Af, cf, xs, rfl, hnf, hrd, hfl, hB, hk⟩ := hrel
      have hout := out_le a l xs hfl.1
      have hxl : xs.length = l.length := ((bd_iff _ _).1 hfl.1).1
      have HKK := Lib.hid (And.intro hk (And.intro hout hxl))
      have HB := Lib.hid hB
      have HF := Lib.hid hfl
      have HR := Lib.hid hrd
      have HN := Lib.hid hnf
      have hs := Rsearch_any n l A c xs Af cf a wr ((HX.out.below hB).more hB.size) hrd hfl.1 HE.out hll hnn han
      rw [hxl] at hs
      have HS := Lib.hid hs
      clear hs hB hfl hrd hk hout hxl hnf
      go_wp2_with fail
      refine (HS.out).mono ?_
      rintro e w4 ⟨⟨Mb, Y, ms, bys, ord, rfl, hsr, hcl, hmb, hyf⟩, hb4⟩
      have hB4 := HB.out.trans (hb4.mono HB.out.size)
      have HB4 := Lib.hid hB4
      have HR4 := Lib.hid ((HR.out.below hb4).more hb4.size)
      have HSR := Lib.hid hsr
      have HCL := Lib.hid hcl
      have hml := hsr.1
      have c0 : w4.cell? ⟨Mb, b, none⟩ = some (.bool (ms.getD b false)) := by
        have hkl : b < ms.length := by omega
        simp [World.cell?, hmb, List.getElem?_eq_getElem hkl, List.getD_eq_getElem?_getD]
      have c1 : Mb < w4.heap.size := (Array.getElem?_eq_some_iff.1 hmb).1
      have HMB := Lib.hid hmb
      have HYF := Lib.hid hyf
      have HML := Lib.hid hml
      obtain ⟨q, hq⟩ : ∃ q, q = ms.getD b false := ⟨_, rfl⟩
      rw [← hq] at c0
      have HQ := Lib.hid hq
      clear hsr hcl hmb hyf hb4 hB4 hml hq
      cases q
      · have hmaxr : Hid (MaxR n l a b xs (fun v => decide (v ∈ ord)) ∧ CutOk n ms (fun v => decide (v ∈ ord))) := Lib.hid (by
          obtain ⟨r1, r2, r3, r4, r5, r6⟩ := HSR.out
          have hbo : (b : Int) ∉ ord := fun h => by have := (r5 b hbn).1 h; rw [← HQ.out] at this; exact absurd this (by decide)
          refine ⟨r3.max HF.out hbo HCL.out (fun v => by simp), r1, fun i hi => ?_⟩
          have e : ms.getD i false = decide ((i : Int) ∈ ord) := by
            have := r5 i hi
            cases hh : ms.getD i false
            · rw [hh] at this; simp at this; simp [this]
            · rw [hh] at this; simp at this; simp [this]
          show ms[i]? = some (decide ((i : Int) ∈ ord))
          rw [← e, List.getD_eq_getElem?_getD, List.getElem?_eq_getElem (by omega)]
          rfl)
        go_wp2_with fail
        go_ret3
        exact ⟨.inl ⟨HO.out, Af, cf, Mb, xs, ms, _, rfl, hmaxr.out.1, HKK.out.2.2, hmaxr.out.2, HR4.out, heap_reads_bools HMB.out⟩, HB4.out⟩
      · have hbo : (b : Int) ∈ ord := (HSR.out.2.2.2.2.1 b hbn).2 HQ.out.symm
        obtain ⟨kb, hkb⟩ := List.getElem?_of_mem hbo
        obtain ⟨rs, hw, hnd, hrl, hwa⟩ := HSR.out.2.2.1.wayAt kb _ hkb
        have hcap : ∀ r ∈ rs, 0 < capR l xs r := fun r hr => (hwa r hr).1
        have hen : ∀ r ∈ rs, bys.getD (endR l r).toNat 0 = encR r := fun r hr => by
          obtain ⟨_, j, _, _, hj⟩ := hwa r hr
          obtain ⟨h1, h2⟩ := WayP.back rs _ hw r hr
          have := HSR.out.2.2.2.2.2 _ (List.mem_of_getElem? hj) h2
          rw [this]
          congr 1
        have ha := augment_any n l A c xs Af cf bys (some ⟨Y, 0, none⟩) n a b rs w4 ((HX.out.below HB4.out).more HB4.out.size) HR4.out HYF.out.reads HN.out HF.out.1 HE.out hll hnn hbn HSR.out.2.1 hw hen hnd hcap
        rw [HKK.out.2.2, HSR.out.2.1] at ha
        have HA := Lib.hid ha
        have HW := Lib.hid (And.intro hw (And.intro hnd hcap))
        clear ha hw hnd hcap hen hwa hrl hkb hbo
        go_wp2_with fail
        refine (HA.out).mono ?_
        rintro e w5 ⟨⟨Ax, cx, rfl, hnx, hrx⟩, hb5⟩
        obtain ⟨dl, hdl⟩ : ∃ d, d = leastR l xs 1073741824 rs := ⟨_, rfl⟩
        rw [← hdl] at hrx
        have hd1 : 0 < dl := by rw [hdl]; exact leastR_pos l xs rs _ (by decide) HW.out.2.2
        have hd2 : dl ≤ 1073741824 ∧ ∀ r ∈ rs, dl ≤ capR l xs r := by rw [hdl]; exact leastR_le l xs rs _
        have haug := aug_fl (b := b) (by omega : (0 : Int) ≤ dl) HF.out HW.out.1.way hd2.2 HW.out.2.1 (by have := HAB.out; omega)
        have HAUG := Lib.hid haug
        have hko := HKK.out.1
        have ho8 := out_le a l _ haug.1.1
        have HK8 : Hid ((sumM l - outE l (pushAll xs dl rs) a).toNat < gk ∧ ((sumM l - outE l (pushAll xs dl rs) a).toNat : Int) = sumM l - outE l (pushAll xs dl rs) a) := Lib.hid (by rw [haug.2] at ho8 ⊢; omega)
        have HRX := Lib.hid hrx
        have HNX := Lib.hid hnx
        have HB5 := Lib.hid (HB4.out.trans (hb5.mono HB4.out.size))
        clear hrx hnx hb5 hdl hd1 hd2 haug hko ho8
        go_wp2_with fail
        go_roundg (sumM l - outE l (pushAll xs dl rs) a).toNat
        case measure => exact HK8.out.1
        case rel => exact ⟨Ax, cx, _, rfl, HNX.out, HRX.out, HAUG.out.1, HB5.out, HK8.out.2⟩
end Go.Proofs.Ytjpnbpfbdkbknaa
