/- value and FlowReverse, walked. -/
import Derived.Test.YtjpnbpfbdkbknaaFlowL1
namespace Go.Proofs.Ytjpnbpfbdkbknaa
open Go.RowKit Go.Shelf
set_option linter.unusedSimpArgs false
set_option linter.unusedVariables false


theorem Try.infoEd : (Try.prog.info? 39).map (fun i => (i.zero, i.size, i.bytes)) = some (some (.agg #[.int .i64 0, .int .i64 0, .int .i64 0]), 3, 24) := by kernel_rfl
theorem edE_one (y : Ed) : ∀ u ∈ y.enc, u.oneCell' = true := by intro u hu; simp [Ed.enc] at hu; rcases hu with rfl | rfl | rfl <;> rfl
theorem okE_turn (n : Int) (e : Ed) : okE n ⟨e.t, e.f, e.m⟩ = okE n e := by
  by_cases h : okE n e = true
  · rw [h]; have := okE_out h; simp [okE]; omega
  · have h0 : okE n e = false := by simpa using h
    rw [h0]
    simp [okE] at h0 ⊢
    omega
theorem okX_turn (n a b : Int) (l : List Ed) : okX n (turnE l) b a = okX n l a b := by
  have h1 : okN n (turnE l) = okN n l := by
    unfold okN turnE
    rw [List.length_map, List.all_map]
    congr 1
    apply List.all_congr rfl
    intro e
    exact okE_turn n e
  have h2 : okV n b a = okV n a b := by
    unfold okV
    cases decide (0 ≤ a) <;> cases decide (a < n) <;> cases decide (0 ≤ b) <;> cases decide (b < n) <;> simp
    all_goals (constructor <;> exact fun h => h.symm)
  unfold okX
  rw [h1, h2]
/-- what value returns -/
def ValOut (n a b : Int) (l : List Ed) (e : Ending) : Prop :=
  (okX n l a b = true ∧ ∃ xs c, MaxR n.toNat l a b xs c ∧ e = .returned (.tuple #[.int .i64 (outE l xs a), .bool true])) ∨ (okX n l a b = false ∧ e = .returned (.tuple #[.int .i64 0, .bool false]))
set_option maxRecDepth 100000 in
set_option maxHeartbeats 8000000 in
theorem value_any (n a b : Int) (hn64 : -9223372036854775808 ≤ n ∧ n ≤ 9223372036854775807) (l : List Ed) (A : Option Addr) (c : Nat) (w : World) (hx : Reads w w.heap.size A 3 Ed.enc l) (hlc : l.length ≤ c) (hc : c ≤ maxLen) (hnil : A = none → c = 0) :
    Calls Try.prog 22 #[.int .i64 n, .slice A l.length c, .int .i64 a, .int .i64 b] w fun e w' => ValOut n a b l e ∧ Below w.heap.size w w' := by
  have HX := Lib.hid hx
  have hl63 : l.length ≤ 9223372036854775807 := by unfold maxLen at hc; omega
  clear hx
  go_enter Try.func22, Try.ntmps22
  go_wp2_with fail
  refine (Max_any n a b hn64 l A c _ HX.out hlc hc hnil).mono ?_
  rintro e w3 ⟨⟨hok, Fb, Cb, xs, cs, cf, rfl, hmax, hxl, hcut, hrx, hrc⟩ | ⟨hok, rfl⟩, hb_w3⟩
  · have ba := Lib.hid hb_w3
    have S_w3 : Below w.heap.size w w3 := (Below.refl _ w).trans (hb_w3.mono (by (try simp) <;> omega))
    have HX := Lib.hid ((HX.out.below S_w3).more S_w3.size)
    have z_w3 := S_w3.size
    have HF := Lib.hid (hrx)
    obtain ⟨hn2, hn3, hl3, _, ha0, ha1, hb0, hb1, hab⟩ := okX_out hok
    have hv := Value_any n a b l A c xs (some ⟨Fb, 0, none⟩) l.length w3 HX.out hl63 HF.out (by omega)
    rw [value_yes hok hmax.1, hxl] at hv
    have HV := Lib.hid hv
    have HM := Lib.hid (And.intro hok hmax)
    clear hv hrx hrc hmax hcut hxl hok
    go_wp2_with fail
    refine (HV.out).mono ?_
    rintro e w4 ⟨rfl, hb_w4⟩
    have S_w4 : Below w3.heap.size w3 w4 := (Below.refl _ w3).trans (hb_w4.mono (by (try simp) <;> omega))
    have HX := Lib.hid ((HX.out.below S_w4).more S_w4.size)
    have ba := Lib.hid (ba.out.trans (S_w4.mono ba.out.size))
    have HF := Lib.hid ((HF.out.below S_w4).more S_w4.size)
    have z_w4 := S_w4.size
    go_wp2_with fail
    go_ret2
    exact ⟨.inl ⟨HM.out.1, xs, cf, HM.out.2, rfl⟩, ba.out⟩
  · have ba := Lib.hid hb_w3
    have S_w3 : Below w.heap.size w w3 := (Below.refl _ w).trans (hb_w3.mono (by (try simp) <;> omega))
    have HX := Lib.hid ((HX.out.below S_w3).more S_w3.size)
    have z_w3 := S_w3.size
    have hv := Value_any n a b l A c [] none 0 w3 HX.out hl63 Reads.nil_ (by decide)
    have hvf : valueF n a b l [] = (0, 180) := by unfold valueF; rw [hok]; rfl
    rw [hvf] at hv
    have HV := Lib.hid hv
    have HO := Lib.hid hok
    clear hv hvf hok
    go_wp2_with fail
    refine (HV.out).mono ?_
    rintro e w4 ⟨rfl, hb_w4⟩
    have S_w4 : Below w3.heap.size w3 w4 := (Below.refl _ w3).trans (hb_w4.mono (by (try simp) <;> omega))
    have HX := Lib.hid ((HX.out.below S_w4).more S_w4.size)
    have ba := Lib.hid (ba.out.trans (S_w4.mono ba.out.size))
    have z_w4 := S_w4.size
    go_wp2_with fail
    go_ret2
    exact ⟨.inr ⟨HO.out, rfl⟩, ba.out⟩

theorem turn_take {l : List Ed} {k : Nat} {e : Ed} (h : l[k]? = some e) : turnE (l.take (k + 1)) = turnE (l.take k) ++ [⟨e.t, e.f, e.m⟩] := by
  unfold turnE
  rw [take_snoc h, List.map_append]
  rfl
set_option maxRecDepth 100000 in
set_option maxHeartbeats 8000000 in
theorem FlowReverse_walk (n a b : Int) (hn64 : -9223372036854775808 ≤ n ∧ n ≤ 9223372036854775807) (l : List Ed) (A : Option Addr) (c : Nat) (w : World) (hx : Reads w w.heap.size A 3 Ed.enc l) (hlc : l.length ≤ c) (hc : c ≤ maxLen) (hnil : A = none → c = 0) :
    Calls Try.prog 9 #[.int .i64 n, .slice A l.length c, .int .i64 a, .int .i64 b] w fun e w' => e = .returned (.bool true) ∧ Below w.heap.size w w' := by
  have HX := Lib.hid hx
  have hl63 : l.length ≤ 9223372036854775807 := by unfold maxLen at hc; omega
  clear hx
  obtain ⟨i0, hinf, hz0, hz1, hz2⟩ := info_parts Try.infoEd
  have HI := Lib.hid hinf
  clear hinf
  go_enter Try.func9, Try.ntmps9
  go_wp2_with fail
  refine (sane_any _).mono ?_
  rintro e w1 ⟨rfl, hb_w1⟩
  have ba := Lib.hid hb_w1
  have S_w1 : Below w.heap.size w w1 := (Below.refl _ w).trans (hb_w1.mono (by (try simp) <;> omega))
  have HX := Lib.hid ((HX.out.below S_w1).more S_w1.size)
  have z_w1 := S_w1.size
  go_wp2_with fail
  refine (Few_any n l A c _).mono ?_
  rintro e w2 ⟨rfl, rfl⟩
  obtain ⟨bf, hbf⟩ : ∃ q, q = fewN n l := ⟨_, rfl⟩
  have hfw : bf = true → l.length ≤ 60 ∧ n ≤ 40 := fun h => by rw [h] at hbf; have := hbf.symm; simp [fewN] at this; omega
  rw [← hbf]
  clear hbf
  cases bf
  · clear hfw
    go_wp2_with fail
    go_ret
    exact ⟨rfl, ba.out⟩
  obtain ⟨hl60, hn40⟩ := hfw rfl
  clear hfw
  go_wp2_with fail
  obtain ⟨W3, hW3⟩ : ∃ X, X = w1.alloc (.cells #[] 39) := ⟨_, rfl⟩
  obtain ⟨S, hS⟩ : ∃ q, q = w1.heap.size := ⟨_, rfl⟩
  have ho : Owns W3 S 39 3 Ed.enc (.slice (some ⟨S, 0, none⟩) 0 0) (turnE (l.take 0)) := by
    have h := Owns.lit (w := w1) (base := S) (e := 39) (ys := ([] : List Ed)) (cs := #[]) edE_len rfl (by omega) (by simp)
    rw [hW3, hS]
    rw [hS] at h
    simpa [turnE] using h
  have hb3 : Below w1.heap.size w1 W3 := by rw [hW3]; exact (Below.refl _ _).alloc (Nat.le_refl _) _
  have HO := Lib.hid ho
  have HB3 := Lib.hid hb3
  have hwS : w.heap.size ≤ S := by rw [hS]; exact ba.out.size
  have HS := Lib.hid hS
  rw [← hS, ← hW3]
  clear hW3 ho hb3 hS
  go_loopw [9, 25] (fun v i wr => ∃ k : Nat, k ≤ l.length ∧ i = .int .i64 k ∧ Owns wr S 39 3 Ed.enc v (turnE (l.take k)) ∧ Below w1.heap.size w1 wr) (fun _ i _ => l.length - (intOf i).toNat)
  case atStart => exact ⟨0, Nat.zero_le _, rfl, HO.out, HB3.out⟩
  case round =>
    obtain ⟨k, hk, rfl, how, hB⟩ := hrel
    have HOW := Lib.hid how
    have HB := Lib.hid hB
    have hSr : S ≤ wr.heap.size := by rw [HS.out]; exact hB.size
    by_cases hlt : k < l.length
    · obtain ⟨bb, off, x, rfl, hbl, hxk, hc⟩ := (HX.out.below hB).at_ hlt
      have c0 := hc 0 _ rfl
      have c1 := hc 1 _ rfl
      have c2 := hc 2 _ rfl
      simp only [Nat.add_zero] at c0
      have hb2 : bb < wr.heap.size := by have := hB.size; omega
      have HXK := Lib.hid hxk
      obtain ⟨Av, cv, rfl, hnv, hmv⟩ := how.shape
      have hlen : (turnE (l.take k)).length = k := by simp [turnE]; omega
      have HLN := Lib.hid hlen
      clear hc hxk how hB
      rw [hlen]
      clear hlen
      go_wp2_with (at_builtin; refine stop_mk ?_)
      refine stop_out (wpList_append_reads (en := Ed.enc) (sz := 3) _ rfl _ _ _ rfl edE_len edE_one S 39 i0 _ 24 Try.underlying22 HI.out hz0 hz1 hz2 rfl (by decide) (.slice Av k cv) (turnE (l.take k)) rfl (by have h := (HOW.out.alloc (.cells #[.int .i64 x.f, .int .i64 x.t, .int .i64 x.m] 39)).alloc (.cells #[.int .i64 x.t, .int .i64 x.f, .int .i64 x.m] 39); rw [HLN.out] at h; exact h)
        (wr.heap.size + 1 + 1) (some ⟨wr.heap.size + 1, 0, none⟩) 1 [⟨x.t, x.f, x.m⟩] rfl (reads_one (wr.alloc (.cells #[.int .i64 x.f, .int .i64 x.t, .int .i64 x.m] 39)) Ed.enc ⟨x.t, x.f, x.m⟩ _ _ rfl 3 (wr.heap.size + 1) (by simp)) (fun h => by cases h) (by rw [HLN.out]; simp [maxLen]; omega) (by rw [HLN.out]; simp; omega) (by simp; omega) ?_)
      intro v4 w4 k1 k2 k3 _
      have KK := Lib.hid (And.intro k1 (And.intro k2 k3))
      clear k1 k2 k3
      go_wp2_with fail
      go_roundw
      case rel =>
        obtain ⟨k1, k2, k3⟩ := KK.out
        have hz := HB.out.size
        refine ⟨k + 1, by omega, by go_num, by rw [turn_take HXK.out]; exact k1, ((HB.out.alloc hz _).alloc (by simp; omega) _).grown k2 (by simp; omega) (fun q e => by have h := HOW.out.base_le q; rw [HLN.out] at h; have := h e; rw [HS.out] at this; omega)⟩
      case measure => simp [intOf]; omega
    · obtain rfl : k = l.length := by omega
      obtain ⟨Av, cv, rfl, hnv, hmv⟩ := how.shape
      have hlen : (turnE (l.take l.length)).length = (turnE l).length := by rw [List.take_of_length_le (Nat.le_refl _)]
      have hlen2 : (turnE l).length = l.length := by simp [turnE]
      have HR := Lib.hid (how.reads edE_len)
      have hcv : (turnE l).length ≤ cv ∧ cv ≤ maxLen := by
        rcases how.form with ⟨h1, h2⟩ | ⟨g, cap, h1, _, _, h2, h3⟩
        · rw [← hlen, h2]
          simp only [Value.slice.injEq] at h1
          obtain ⟨_, _, rfl⟩ := h1
          simp
        · simp only [Value.slice.injEq] at h1
          obtain ⟨_, _, rfl⟩ := h1
          rw [← hlen]
          exact ⟨h3, h2⟩
      rw [hlen, hlen2]
      have HNV := Lib.hid hnv
      have HVB : Hid (∀ W, Reads W W.heap.size Av 3 Ed.enc (turnE l) → Calls Try.prog 22 #[.int .i64 n, .slice Av l.length cv, .int .i64 b, .int .i64 a] W fun e w' => ValOut n b a (turnE l) e ∧ Below W.heap.size W w') := Lib.hid (fun W hR => by
        have h := value_any n b a hn64 (turnE l) Av cv W hR hcv.1 hcv.2 hnv
        rw [hlen2] at h
        exact h)
      rw [List.take_of_length_le (Nat.le_refl _)] at HR
      clear hB how hlen hlen2 hcv
      go_wp2_with fail
      refine (value_any n a b hn64 l A c _ ((HX.out.below HB.out).more HB.out.size) hlc hc hnil).mono ?_
      rintro e w5 ⟨hv1, hb5⟩
      have HR5 := Lib.hid ((HR.out.below hb5).more hb5.size)
      have HB5 := Lib.hid (HB.out.trans (hb5.mono HB.out.size))
      clear hb5
      rcases hv1 with ⟨hok, xs, cf, hmax, rfl⟩ | ⟨hok, rfl⟩
      · have HM := Lib.hid (And.intro hok hmax)
        clear hok hmax
        go_wp2_with fail
        refine (HVB.out _ HR5.out).mono ?_
        rintro e w6 ⟨hv2, hb6⟩
        rcases hv2 with ⟨hok2, ys, df, hmax2, rfl⟩ | ⟨hok2, rfl⟩
        · obtain ⟨hn2, hn3, hl3, _, ha0, ha1, hb0, hb1, hab⟩ := okX_out HM.out.1
          have he := HM.out.2.turn (okX_inn HM.out.1) ha0 (by omega) hb0 (by omega) hmax2
          rw [he]
          clear he hmax2 hok2 hn2 hn3 hl3 ha0 ha1 hb0 hb1 hab
          go_wp2_with fail
          go_ret
          exact ⟨rfl, ba.out.trans ((HB5.out.trans (hb6.mono HB5.out.size)).mono ba.out.size)⟩
        · rw [okX_turn, HM.out.1] at hok2
          cases hok2
      · have HOK := Lib.hid hok
        clear hok
        go_wp2_with fail
        refine (HVB.out _ HR5.out).mono ?_
        rintro e w6 ⟨hv2, hb6⟩
        rcases hv2 with ⟨hok2, ys, df, hmax2, rfl⟩ | ⟨hok2, rfl⟩
        · rw [okX_turn, HOK.out] at hok2
          cases hok2
        · clear hok2
          go_wp2_with fail
          go_ret
          exact ⟨rfl, ba.out.trans ((HB5.out.trans (hb6.mono HB5.out.size)).mono ba.out.size)⟩
end Go.Proofs.Ytjpnbpfbdkbknaa
