/- FlowScale, walked. -/
import Derived.Test.YtjpnbpfbdkbknaaFlowL2
namespace Go.Proofs.Ytjpnbpfbdkbknaa
open Go.RowKit Go.Shelf
set_option linter.unusedSimpArgs false
set_option linter.unusedVariables false


theorem and_1023 (a : Int) : ∃ r : Int, bits BinOp.and IntKind.i64 a 1023 = r ∧ 0 ≤ r ∧ r ≤ 1023 := by
  refine ⟨_, rfl, ?_⟩
  show 0 ≤ IntKind.i64.wrap ((BitVec.ofInt 64 a &&& BitVec.ofInt 64 1023).toNat : Int) ∧ IntKind.i64.wrap ((BitVec.ofInt 64 a &&& BitVec.ofInt 64 1023).toNat : Int) ≤ 1023
  have h2 : (BitVec.ofInt 64 1023).toNat = 1023 := by decide
  have h1 : (BitVec.ofInt 64 a &&& BitVec.ofInt 64 1023).toNat ≤ 1023 := by
    rw [BitVec.toNat_and, h2]
    exact Nat.and_le_right
  rw [IntKind.wrap_i64]
  omega
/-- the first k edges scaled -/
def halfE (y : Int) (l : List Ed) (k : Nat) : List Ed := scaleE y (l.take k) ++ l.drop k
theorem half_len (y : Int) (l : List Ed) (k : Nat) (hk : k ≤ l.length) : (halfE y l k).length = l.length := by simp [halfE, scaleE]; omega
theorem half_get (y : Int) (l : List Ed) (k : Nat) (e : Ed) (h : l[k]? = some e) : (halfE y l k)[k]? = some e := by
  have hl := (List.getElem?_eq_some_iff.1 h).1
  unfold halfE
  rw [List.getElem?_append_right (by simp [scaleE]; omega)]
  simp [scaleE]
  rw [show k - min k l.length = 0 by omega]
  simpa using h
theorem half_next (y : Int) (l : List Ed) (k : Nat) (e : Ed) (h : l[k]? = some e) : (halfE y l k).set k ⟨e.f, e.t, e.m * y⟩ = halfE y l (k + 1) := by
  have hl := (List.getElem?_eq_some_iff.1 h).1
  have hd : l.drop k = e :: l.drop (k + 1) := by rw [List.drop_eq_getElem_cons hl, (List.getElem?_eq_some_iff.1 h).2]
  unfold halfE
  rw [List.set_append_right _ _ (by simp [scaleE]; omega), hd, take_snoc h]
  have : k - (scaleE y (l.take k)).length = 0 := by simp [scaleE]; omega
  rw [this]
  simp [scaleE]
theorem half_all (y : Int) (l : List Ed) : halfE y l l.length = scaleE y l := by simp [halfE]
theorem flat_set : ∀ (ys : List Ed) (k : Nat) (e : Ed) (m : Int), ys[k]? = some e → (ys.set k ⟨e.f, e.t, m⟩).flatMap Ed.enc = (ys.flatMap Ed.enc).set (k * 3 + 2) (.int .i64 m)
  | [], k, e, m, h => by simp at h
  | x :: ys, 0, e, m, h => by
    simp at h
    subst h
    simp [Ed.enc]
  | x :: ys, k + 1, e, m, h => by
    have h' : ys[k]? = some e := by simpa using h
    simp only [List.set_cons_succ, List.flatMap_cons, flat_set ys k e m h']
    rw [List.set_append_right _ _ (by simp [Ed.enc]; omega)]
    congr 2
    simp [Ed.enc]
    omega
theorem Owns.setM {w : World} {base : Nat} {A : Option Addr} {c : Nat} {ys : List Ed} {n : Nat} (h : Owns w base 39 3 Ed.enc (.slice A n c) ys) {k : Nat} {e : Ed} (hk : ys[k]? = some e) (m : Int) :
    ∃ g, A = some ⟨g, 0, none⟩ ∧ base ≤ g ∧ g < w.heap.size ∧ w.cell? ⟨g, k * 3 + 2, none⟩ = some (.int .i64 e.m) ∧ w.frozen? ⟨g, k * 3 + 2, none⟩ = false ∧ Owns (w.setCell ⟨g, k * 3 + 2, none⟩ (.int .i64 m)) base 39 3 Ed.enc (.slice A n c) (ys.set k ⟨e.f, e.t, m⟩) := by
  have hkl := (List.getElem?_eq_some_iff.1 hk).1
  rcases h.2 with ⟨_, h2⟩ | ⟨g, cap, cur, hv, h2, h3, h4, h5, h6, h7⟩
  · omega
  · simp only [Value.slice.injEq] at hv
    obtain ⟨rfl, rfl, rfl⟩ := hv
    have hc := World.ownsRow.cellAt h (k * 3 + 2) (by omega)
    refine ⟨g, rfl, h2, (Array.getElem?_eq_some_iff.1 h3).1, by rw [hc]; exact flat_get edE_len ys k e 2 _ hk rfl, by simp [World.frozen?, h3], ⟨?_, .inr ⟨g, c, cur.setIfInBounds (k * 3 + 2) (.int .i64 m), by simp, h2, heap_setCell_same w g _ _ _ _ h3, by simpa using h4, h5, by simpa using h6, ?_⟩⟩⟩
    · rw [flat_length edE_len]
    · rw [flat_set ys k e m hk, ← h7]
      simp [List.take_set]
theorem okX_scale {n a b y : Int} {l : List Ed} (hy : 1 ≤ y ∧ y ≤ 1024) (hm : ∀ e ∈ l, 0 ≤ e.m ∧ e.m ≤ 524288) : okX n (scaleE y l) a b = okX n l a b := by
  have h1 : okN n (scaleE y l) = okN n l := by
    unfold okN scaleE
    rw [List.length_map, List.all_map]
    congr 1
    rw [Bool.eq_iff_iff, List.all_eq_true, List.all_eq_true]
    constructor
    · intro h e he
      have := okE_out (h e he)
      obtain ⟨m0, m1⟩ := hm e he
      simp at this
      simp [okE]
      omega
    · intro h e he
      have := okE_out (h e he)
      obtain ⟨m0, m1⟩ := hm e he
      have p1 : 0 ≤ e.m * y := Int.mul_nonneg m0 (by omega)
      have p2 : e.m * y ≤ 524288 * 1024 := Int.mul_le_mul m1 hy.2 (by omega) (by omega)
      simp [okE]
      omega
  unfold okX
  rw [h1]
theorem cut_same {n : Nat} {cs ds : List Bool} {c d : Int → Bool} (h1 : CutOk n cs c) (h2 : CutOk n ds d) (h : ∀ v : Int, 0 ≤ v → v < n → c v = d v) : cs = ds := by
  apply List.ext_getElem?
  intro i
  by_cases hi : i < n
  · rw [h1.2 i hi, h2.2 i hi, h i (by omega) (by omega)]
  · rw [List.getElem?_eq_none (by rw [h1.1]; omega), List.getElem?_eq_none (by rw [h2.1]; omega)]
theorem sum_small : ∀ (l : List Ed), (∀ e ∈ l, 0 ≤ e.m ∧ e.m ≤ 524288) → 0 ≤ sumM l ∧ sumM l ≤ 524288 * (l.length : Int)
  | [], _ => by simp [sumM]
  | e :: l, h => by
    have h1 := h e (List.mem_cons_self ..)
    have h2 := sum_small l (fun e' he => h e' (List.mem_cons_of_mem _ he))
    simp only [sumM, List.map_cons, List.sum_cons, List.length_cons] at h2 ⊢
    omega
set_option maxRecDepth 100000 in
set_option maxHeartbeats 8000000 in
theorem FlowScale_walk (n a b : Int) (hn64 : -9223372036854775808 ≤ n ∧ n ≤ 9223372036854775807) (l : List Ed) (A : Option Addr) (c : Nat) (z : Int) (w : World) (hx : Reads w w.heap.size A 3 Ed.enc l) (hlc : l.length ≤ c) (hc : c ≤ maxLen) (hnil : A = none → c = 0) :
    Calls Try.prog 8 #[.int .i64 n, .slice A l.length c, .int .i64 a, .int .i64 b, .int .i64 z] w fun e w' => e = .returned (.bool true) ∧ Below w.heap.size w w' := by
  have HX := Lib.hid hx
  have hl63 : l.length ≤ 9223372036854775807 := by unfold maxLen at hc; omega
  clear hx
  obtain ⟨i0, hinf, hz0, hz1, hz2⟩ := info_parts Try.infoEd
  have HI := Lib.hid hinf
  clear hinf
  obtain ⟨r, hr, hr0, hr1⟩ := and_1023 z
  have hwr : IntKind.i64.wrap (1 + r) = 1 + r := IntWalk.i64_in _ (by omega)
  go_enter Try.func8, Try.ntmps8
  go_wp2_with fail
  refine (sane_any _).mono ?_
  rintro e w1 ⟨rfl, hb_w1⟩
  have ba := Lib.hid hb_w1
  have S_w1 : Below w.heap.size w w1 := (Below.refl _ w).trans (hb_w1.mono (by (try simp) <;> omega))
  have HX := Lib.hid ((HX.out.below S_w1).more S_w1.size)
  have z_w1 := S_w1.size
  go_wp2_with fail
  refine (Few_any n l A c _).mono ?_
  rintro e w2 ⟨rfl, rfl⟩
  obtain ⟨bf, hbf⟩ : ∃ q, q = fewN n l := ⟨_, rfl⟩
  have hfw : bf = true → l.length ≤ 60 ∧ n ≤ 40 := fun h => by rw [h] at hbf; have := hbf.symm; simp [fewN] at this; omega
  rw [← hbf]
  clear hbf
  cases bf
  · clear hfw
    go_wp2_with fail
    go_ret
    exact ⟨rfl, ba.out⟩
  obtain ⟨hl60, hn40⟩ := hfw rfl
  clear hfw
  obtain ⟨y, hy⟩ : ∃ y, y = 1 + r := ⟨_, rfl⟩
  have hy1 : 1 ≤ y ∧ y ≤ 1024 := by omega
  obtain ⟨hy1, hy2⟩ := hy1
  have OE : Owns (w1.alloc (.cells #[] 39)) w1.heap.size 39 3 Ed.enc (.slice (some ⟨w1.heap.size, 0, none⟩) 0 0) [] := Owns.lit (ys := ([] : List Ed)) edE_len rfl (Nat.le_refl _) (by simp)
  have be : Below w1.heap.size w1 (w1.alloc (.cells #[] 39)) := (Below.refl _ _).alloc (Nat.le_refl _) _
  have HR1 := Lib.hid (HX.out.below be)
  have HOE := Lib.hid OE
  have HBE := Lib.hid be
  have HN0 := Lib.hid (And.intro hlc (And.intro hc hnil))
  clear OE be
  go_wp2_with (at_builtin; refine stop_mk ?_)
  refine stop_out (wpList_append_reads (en := Ed.enc) (sz := 3) _ rfl _ _ _ rfl edE_len edE_one w1.heap.size 39 i0 _ 24 Try.underlying22 HI.out hz0 hz1 hz2 rfl (by decide) (.slice (some ⟨w1.heap.size, 0, none⟩) 0 0) [] rfl HOE.out
    w1.heap.size A c l rfl HR1.out (fun h => HN0.out.2.2 h) (by simp [maxLen]; omega) (by simp; omega) (by simp) ?_)
  intro v3 w3 k1 k2 k3 _
  rw [List.nil_append] at k1
  obtain ⟨A3, c3, rfl, hnv, hmv⟩ := k1.shape
  have hb3 : Below w1.heap.size w1 w3 := HBE.out.grown k2 (by simp) (fun q e => HOE.out.base_le q e)
  have HO3 : Hid (Owns w3 w1.heap.size 39 3 Ed.enc (.slice A3 l.length c3) (halfE y l 0)) := Lib.hid (by simpa [halfE, scaleE] using k1)
  have HB3 := Lib.hid hb3
  have hcv : l.length ≤ c3 ∧ c3 ≤ maxLen := by
    rcases k1.form with ⟨h1, h2⟩ | ⟨g, cap, h1, _, _, h2, h3⟩
    · simp only [Value.slice.injEq] at h1
      obtain ⟨_, _, rfl⟩ := h1
      rw [h2]
      simp
    · simp only [Value.slice.injEq] at h1
      obtain ⟨_, _, rfl⟩ := h1
      exact ⟨h3, h2⟩
  have HCV := Lib.hid (And.intro hcv hnv)
  rw [← hy] at hwr
  have HY := Lib.hid hy
  have hr2 : 1 + r = y := hy.symm
  clear k1 k2 k3 hb3 hcv hnv hy hr0 hr1
  go_wp2_with fail
  go_loopw [37] (fun i wr => ∃ k : Nat, k ≤ l.length ∧ i = .int .i64 k ∧ (∀ j e, j < k → l[j]? = some e → 0 ≤ e.m ∧ e.m ≤ 524288) ∧ Owns wr w1.heap.size 39 3 Ed.enc (.slice A3 l.length c3) (halfE y l k) ∧ Below w1.heap.size w1 wr) (fun i _ => l.length - (intOf i).toNat)
  case atStart => exact ⟨0, Nat.zero_le _, rfl, fun _ _ h => absurd h (by omega), HO3.out, HB3.out⟩
  case round =>
    obtain ⟨k, hk, rfl, hsm, how, hB⟩ := hrel
    have HSM := Lib.hid hsm
    have HOW := Lib.hid how
    have HB := Lib.hid hB
    by_cases hlt : k < l.length
    · obtain ⟨e, hxk⟩ : ∃ e, l[k]? = some e := ⟨_, List.getElem?_eq_getElem hlt⟩
      obtain ⟨g, rfl, hg1, hg2, hg3, hg4, hg5⟩ := how.setM (half_get y l k e hxk) (e.m * y)
      rw [half_next y l k e hxk] at hg5
      obtain ⟨f, t, m⟩ := e
      have HXK := Lib.hid hxk
      have HG := Lib.hid (And.intro hg1 hg5)
      simp only at hg3
      clear hsm how hB hxk hg5 hg1
      by_cases m0 : m < 0
      · have e1 : decide (m < 0) = true := by simpa using m0
        go_wp2_with fail
        go_ret
        exact ⟨rfl, ba.out.trans (HB.out.mono ba.out.size)⟩
      · have e1 : decide (m < 0) = false := by simpa using m0
        by_cases m1 : 524288 < m
        · have e2 : decide (524288 < m) = true := by simpa using m1
          go_wp2_with fail
          go_ret
          exact ⟨rfl, ba.out.trans (HB.out.mono ba.out.size)⟩
        · have e2 : decide (524288 < m) = false := by simpa using m1
          have p1 : 0 ≤ m * y := Int.mul_nonneg (by omega) (by omega)
          have p2 : m * y ≤ 524288 * 1024 := Int.mul_le_mul (by omega) hy2 (by omega) (by omega)
          have hwm : IntKind.i64.wrap (m * y) = m * y := IntWalk.i64_in _ (by omega)
          go_wp2_with fail
          go_roundw
          case rel =>
            refine ⟨k + 1, by omega, by go_num, fun j e' hj he => ?_, HG.out.2, HB.out.setCell (by show w1.heap.size ≤ g; exact HG.out.1) _⟩
            rcases Nat.lt_or_ge j k with h | h
            · exact HSM.out j e' h he
            · obtain rfl : j = k := by omega
              rw [HXK.out] at he
              injection he with he
              subst he
              simp only
              omega
          case measure => simp [intOf]; omega
    · obtain rfl : k = l.length := by omega
      rw [half_all] at how
      have hsm2 : ∀ e ∈ l, 0 ≤ e.m ∧ e.m ≤ 524288 := fun e he => by
        obtain ⟨j, hj⟩ := List.getElem?_of_mem he
        exact hsm j e (List.getElem?_eq_some_iff.1 hj).1 hj
      have HS2 := Lib.hid hsm2
      have hl2 : (scaleE y l).length = l.length := by simp [scaleE]
      have HR3 := Lib.hid (how.reads edE_len)
      have HXR := Lib.hid ((HX.out.below HB.out).more HB.out.size)
      have HMB : Hid (∀ W, Reads W W.heap.size A3 3 Ed.enc (scaleE y l) → Calls Try.prog 19 #[.int .i64 n, .slice A3 l.length c3, .int .i64 a, .int .i64 b] W fun e w' => MaxOut n a b (scaleE y l) w' e ∧ Below W.heap.size W w') := Lib.hid (fun W hR => by
        have h := Max_any n a b hn64 (scaleE y l) A3 c3 W hR (by rw [hl2]; exact HCV.out.1.1) HCV.out.1.2 HCV.out.2
        rw [hl2] at h
        exact h)
      have HVB : Hid (∀ W, Reads W W.heap.size A3 3 Ed.enc (scaleE y l) → Calls Try.prog 22 #[.int .i64 n, .slice A3 l.length c3, .int .i64 a, .int .i64 b] W fun e w' => ValOut n a b (scaleE y l) e ∧ Below W.heap.size W w') := Lib.hid (fun W hR => by
        have h := value_any n a b hn64 (scaleE y l) A3 c3 W hR (by rw [hl2]; exact HCV.out.1.1) HCV.out.1.2 HCV.out.2
        rw [hl2] at h
        exact h)
      have hoks := okX_scale (n := n) (a := a) (b := b) ⟨hy1, hy2⟩ hsm2
      have HOKS := Lib.hid hoks
      have hzB := HB.out.size
      clear hsm how hB hsm2 hl2 hoks
      go_wp2_with fail
      refine (Max_any n a b hn64 l A c _ HXR.out hlc hc hnil).mono ?_
      rintro e w5 ⟨hm1, hb5⟩
      have HR5 := Lib.hid ((HR3.out.below hb5).more hb5.size)
      have HX5 := Lib.hid ((HXR.out.below hb5).more hb5.size)
      have HB5 := Lib.hid (HB.out.trans (hb5.mono hzB))
      clear hb5
      rcases hm1 with ⟨hok, F1, C1, xs, cs, cf, rfl, hmax, hxl, hcut, hrx, hrc⟩ | ⟨hok, rfl⟩
      · have HM := Lib.hid (And.intro hok (And.intro hmax hcut))
        have HC5 := Lib.hid hrc
        clear hok hmax hxl hcut hrx hrc
        go_wp2_with fail
        refine (HMB.out _ HR5.out).mono ?_
        rintro e w6 ⟨hm2, hb6⟩
        have hz6 := hb6.size
        have HR6 := Lib.hid ((HR5.out.below hb6).more hz6)
        have HX6 := Lib.hid ((HX5.out.below hb6).more hz6)
        have HC6 := Lib.hid ((HC5.out.below hb6).more hz6)
        have HB6 := Lib.hid (HB5.out.trans (hb6.mono HB5.out.size))
        clear hb6
        rcases hm2 with ⟨hok2, F2, C2, ys, ds, df, rfl, hmax2, hyl2, hcut2, hry2, hrd⟩ | ⟨hok2, rfl⟩
        · have HM2 := Lib.hid (And.intro hmax2 hcut2)
          have HD6 := Lib.hid hrd
          clear hok2 hmax2 hyl2 hcut2 hry2 hrd
          go_wp2_with fail
          refine (value_any n a b hn64 l A c _ HX6.out hlc hc hnil).mono ?_
          rintro e w7 ⟨hv1, hb7⟩
          have hz7 := hb7.size
          have HR7 := Lib.hid ((HR6.out.below hb7).more hz7)
          have HC7 := Lib.hid ((HC6.out.below hb7).more hz7)
          have HD7 := Lib.hid ((HD6.out.below hb7).more hz7)
          have HB7 := Lib.hid (HB6.out.trans (hb7.mono HB6.out.size))
          clear hb7
          rcases hv1 with ⟨_, xs2, cf2, hmax3, rfl⟩ | ⟨hno, _⟩
          rotate_left
          · rw [HM.out.1] at hno
            cases hno
          have HM3 := Lib.hid hmax3
          clear hmax3
          go_wp2_with fail
          refine (HVB.out _ HR7.out).mono ?_
          rintro e w8 ⟨hv2, hb8⟩
          have hz8 := hb8.size
          have HC8 := Lib.hid ((HC7.out.below hb8).more hz8)
          have HD8 := Lib.hid ((HD7.out.below hb8).more hz8)
          have HB8 := Lib.hid (HB7.out.trans (hb8.mono HB7.out.size))
          clear hb8
          rcases hv2 with ⟨_, ys2, df2, hmax4, rfl⟩ | ⟨hno, _⟩
          rotate_left
          · rw [HOKS.out, HM.out.1] at hno
            cases hno
          obtain ⟨hn2, hn3, hl3, _, ha0, ha1, hb0, hb1, hab⟩ := okX_out HM.out.1
          have hin := okX_inn HM.out.1
          have he := (HM3.out.scale (show 0 < y by omega) hin ha0 (by omega) hmax4).2
          have hcd := cut_same HM.out.2.2 HM2.out.2 (HM.out.2.1.scale (show 0 < y by omega) hin ha0 (by omega) HM2.out.1).1
          have hvb := out_le a l xs2 HM3.out.1.1
          have hsb := sum_small l HS2.out
          obtain ⟨V, hV⟩ : ∃ V, V = outE l xs2 a := ⟨_, rfl⟩
          rw [← hV] at he hvb
          rw [he, ← hV]
          have hvl : -31457280 ≤ V ∧ V ≤ 31457280 := by omega
          have hvy : -32212254720 ≤ V * y ∧ V * y ≤ 32212254720 := by
            have h1 : (V * y).natAbs ≤ 31457280 * 1024 := by rw [Int.natAbs_mul]; exact Nat.mul_le_mul (by omega) (by omega)
            omega
          have hwv : IntKind.i64.wrap (V * y) = V * y := IntWalk.i64_in _ (by omega)
          have hdl : cs.length = n.toNat := HM.out.2.2.1
          have SC : Hid (Calls Try.prog 21 #[.slice (some ⟨C1, 0, none⟩) n.toNat n.toNat, .slice (some ⟨C2, 0, none⟩) n.toNat n.toNat] w8 fun e w' => e = .returned (.bool true) ∧ Below w8.heap.size w8 w') := Lib.hid (by
            have h := SameCut_any cs ds (some ⟨C1, 0, none⟩) (some ⟨C2, 0, none⟩) n.toNat n.toNat w8 HC8.out HD8.out (by omega)
            rw [decide_eq_true hcd, ← hcd, hdl] at h
            exact h)
          clear he hV hvb hsb hcd hdl hmax4 hin hn2 hn3 hl3 ha0 ha1 hb0 hb1 hab
          go_wp2_with fail
          refine (SC.out).mono ?_
          rintro e w9 ⟨rfl, hb9⟩
          go_wp2_with fail
          go_ret
          exact ⟨rfl, ba.out.trans ((HB8.out.trans (hb9.mono HB8.out.size)).mono ba.out.size)⟩
        · rw [HOKS.out, HM.out.1] at hok2
          cases hok2
      · have HOK := Lib.hid hok
        clear hok
        go_wp2_with fail
        refine (HMB.out _ HR5.out).mono ?_
        rintro e w6 ⟨hm2, hb6⟩
        have HB6 := Lib.hid (HB5.out.trans (hb6.mono HB5.out.size))
        rcases hm2 with ⟨hok2, _⟩ | ⟨hok2, rfl⟩
        · rw [HOKS.out, HOK.out] at hok2
          cases hok2
        · clear hok2 hb6
          go_wp2_with fail
          go_ret
          exact ⟨rfl, ba.out.trans (HB6.out.mono ba.out.size)⟩
end Go.Proofs.Ytjpnbpfbdkbknaa
