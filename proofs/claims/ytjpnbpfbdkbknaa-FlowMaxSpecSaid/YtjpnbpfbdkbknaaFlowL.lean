/- Capacity, the program's and the reference's; the reference's Value. -/
import Derived.Test.YtjpnbpfbdkbknaaFlowK
namespace Go.Proofs.Ytjpnbpfbdkbknaa
open Go.RowKit Go.Shelf
set_option linter.unusedSimpArgs false
set_option linter.unusedVariables false

theorem cut_next {l : List Ed} {k : Nat} {e : Ed} (c : Int → Bool) (h : l[k]? = some e) : cutE (l.take (k + 1)) c = cutE (l.take k) c + (if c e.f && !c e.t then e.m else 0) := by
  rw [take_snoc h, cut_snoc]
theorem cut_le_sum (c : Int → Bool) : ∀ (l : List Ed), (∀ e ∈ l, 0 ≤ e.m) → 0 ≤ cutE l c ∧ cutE l c ≤ sumM l
  | [], _ => by simp [cutE, sumM]
  | e :: l, h => by
    have h1 := h e (List.mem_cons_self ..)
    have h2 := cut_le_sum c l (fun e' he => h e' (List.mem_cons_of_mem _ he))
    simp only [cutE, sumM, List.map_cons, List.sum_cons] at h2 ⊢
    split <;> omega
theorem cut_bound {l : List Ed} {n : Int} (hl : l.length ≤ 65536) (hE : ∀ e ∈ l, okE n e = true) (k : Nat) (c : Int → Bool) : 0 ≤ cutE (l.take k) c ∧ cutE (l.take k) c ≤ 70368744177664 := by
  have h1 := cut_le_sum c (l.take k) (fun e he => (okE_out (hE e (List.mem_of_mem_take he))).2.2.2.2.2.1)
  have h2 := (sumM_le (l.take k) (fun e he => hE e (List.mem_of_mem_take he))).2
  have h3 : (l.take k).length ≤ 65536 := by simp; omega
  omega

set_option maxRecDepth 100000 in
set_option maxHeartbeats 8000000 in
theorem Capacity_any (n a b : Int) (l : List Ed) (A : Option Addr) (c : Nat) (cs : List Bool) (D : Option Addr) (d : Nat) (w : World) (hx : Reads w w.heap.size A 3 Ed.enc l) (hl63 : l.length ≤ 9223372036854775807) (hy : Reads w w.heap.size D 1 boolE cs) (hc63 : cs.length ≤ 9223372036854775807) :
    Calls Try.prog 15 #[.int .i64 n, .slice A l.length c, .int .i64 a, .int .i64 b, .slice D cs.length d] w fun e w' => e = .returned (.tuple #[.int .i64 (capF n a b l cs).1, .int .i64 (capF n a b l cs).2]) ∧ Below w.heap.size w w' := by
  have HX := Lib.hid hx
  have HY := Lib.hid hy
  clear hx hy
  have HC := Lib.hid (check_any n a b l A c w HX.out hl63)
  cases hok : okX n l a b
  · have hv : capF n a b l cs = (0, 180) := by unfold capF; rw [hok]; rfl
    rw [hv]
    rw [hok] at HC
    try simp only [if_false, Bool.false_eq_true] at HC
    clear hv hok
    go_enter Try.func15, Try.ntmps15
    go_wp2_with fail
    refine (HC.out).mono ?_
    rintro e w1 ⟨rfl, hb1⟩
    go_wp2_with fail
    go_ret2
    exact ⟨rfl, hb1⟩
  · rw [hok] at HC
    try simp only [if_true] at HC
    by_cases hlen : (cs.length : Int) = n
    · have hok2 := hok
      simp only [okX, Bool.and_eq_true] at hok2
      obtain ⟨hn1, hn2, hn3, hn4⟩ := okN_out hok2.1
      obtain ⟨ha0, ha1, hb0, hb1, hab⟩ := okV_out hok2.2
      have hin := okX_inn hok
      obtain ⟨n, rfl⟩ : ∃ m : Nat, n = (m : Int) := ⟨n.toNat, by omega⟩
      obtain ⟨a, rfl⟩ : ∃ m : Nat, a = (m : Int) := ⟨a.toNat, by omega⟩
      obtain ⟨b, rfl⟩ : ∃ m : Nat, b = (m : Int) := ⟨b.toNat, by omega⟩
      simp only [Int.toNat_natCast] at hin
      obtain rfl : cs.length = n := by omega
      have hv : capF cs.length a b l cs = if (cs.getD a false && !cs.getD b false) then (cutE l (fun v => cs.getD v.toNat false), 0) else (0, 180) := by
        unfold capF
        rw [hok]
        simp
      obtain ⟨V, hV⟩ : ∃ V, V = capF cs.length a b l cs := ⟨_, rfl⟩
      rw [← hV] at hv ⊢
      have HV := Lib.hid hv
      have HIN := Lib.hid hin
      have HE := Lib.hid hn4
      have han : a < cs.length := by omega
      have hbn : b < cs.length := by omega
      have hll := hn3
      have hnn : cs.length ≤ 4096 := by omega
      clear hok hok2 hn4 hn3 hin hv hV hlen ha0 ha1 hb0 hb1 hab hn1 hn2 hc63
      go_enter Try.func15, Try.ntmps15
      go_wp2_with fail
      refine (HC.out).mono ?_
      rintro e w1 ⟨rfl, hb1⟩
      obtain ⟨db, doff, x, rfl, hdl, hxa, hdc⟩ := (HY.out.below hb1).at_ han
      have d0 := hdc 0 _ rfl
      simp only [Nat.add_zero, Nat.mul_one] at d0
      obtain ⟨db2, doff2, y, he2, hdl2, hyb, hdc2⟩ := (HY.out.below hb1).at_ hbn
      have d1 := hdc2 0 _ rfl
      simp only [Option.some.injEq, Addr.mk.injEq] at he2
      obtain ⟨rfl, rfl, _⟩ := he2
      simp only [Nat.add_zero, Nat.mul_one] at d1
      have hdw : db < w1.heap.size := by have := hb1.size; omega
      have hga : cs.getD a false = x := getD_some hxa
      have hgb : cs.getD b false = y := getD_some hyb
      have HG := Lib.hid (And.intro hga hgb)
      have HB1 := Lib.hid hb1
      clear hdc hdc2 hxa hyb hga hgb hb1
      cases x
      · have HNV : Hid (V = (0, 180)) := Lib.hid (by rw [HV.out, HG.out.1]; rfl)
        go_wp2_with fail
        go_ret2
        exact ⟨by rw [HNV.out]; rfl, HB1.out⟩
      · cases y
        · have HNV : Hid (V = (cutE l (fun v => cs.getD v.toNat false), 0)) := Lib.hid (by rw [HV.out, HG.out.1, HG.out.2]; rfl)
          go_wp2_with fail
          go_loopw [10, 42] (fun s i wr => Below w.heap.size w wr ∧ ∃ k : Nat, k ≤ l.length ∧ i = .int .i64 k ∧ s = .int .i64 (cutE (l.take k) (fun v => cs.getD v.toNat false))) (fun s i _ => l.length - (intOf i).toNat)
          case atStart => exact ⟨HB1.out, 0, Nat.zero_le _, rfl, by simp [cutE]⟩
          case round =>
            obtain ⟨hB, k, hk, rfl, rfl⟩ := hrel
            have hsm := cut_bound hll HE.out k (fun v => cs.getD v.toNat false)
            obtain ⟨S, hS⟩ : ∃ S, S = cutE (l.take k) (fun v => cs.getD v.toNat false) := ⟨_, rfl⟩
            rw [← hS] at hsm ⊢
            obtain ⟨hs0, hs1⟩ := hsm
            have HS := Lib.hid hS
            have HB := Lib.hid hB
            clear hS
            by_cases hlt : k < l.length
            · obtain ⟨bb, off, x, rfl, hbl, hxk, hc⟩ := (HX.out.below hB).at_ hlt
              have c0 := hc 0 _ rfl
              have c1 := hc 1 _ rfl
              have c2 := hc 2 _ rfl
              simp only [Nat.add_zero] at c0
              have hx4 := HIN.out x (List.mem_of_getElem? hxk)
              have hme := (okE_out (HE.out _ (List.mem_of_getElem? hxk))).2.2.2.2.2
              obtain ⟨f, t, m⟩ := x
              simp only at hx4 c0 c1 c2 hme
              obtain ⟨f, rfl⟩ : ∃ v : Nat, f = (v : Int) := ⟨f.toNat, by omega⟩
              obtain ⟨t, rfl⟩ : ∃ v : Nat, t = (v : Int) := ⟨t.toNat, by omega⟩
              have hfn : f < cs.length := by omega
              have htn : t < cs.length := by omega
              obtain ⟨b1, o1, xf, h1, _, hf, hc1⟩ := (HY.out.below hB).at_ hfn
              obtain ⟨b2, o2, xt, h2, _, ht, hc2⟩ := (HY.out.below hB).at_ htn
              simp only [Option.some.injEq, Addr.mk.injEq] at h1 h2
              obtain ⟨rfl, rfl, _⟩ := h1
              obtain ⟨rfl, rfl, _⟩ := h2
              have f0 := hc1 0 _ rfl
              have t0 := hc2 0 _ rfl
              simp only [Nat.add_zero, Nat.mul_one] at f0 t0
              have hgf : cs.getD f false = xf := getD_some hf
              have hgt : cs.getD t false = xt := getD_some ht
              have hcut := cut_next (fun v => cs.getD v.toNat false) hxk
              simp only [Int.toNat_natCast, hgf, hgt] at hcut
              have HCT := Lib.hid hcut
              have hb2 : bb < wr.heap.size := by have := hB.size; omega
              have hdw2 : db < wr.heap.size := by have := hB.size; omega
              have hw1 : IntKind.i64.wrap (S + m) = S + m := IntWalk.i64_in _ (by omega)
              clear hc hc1 hc2 hx4 hxk hf ht hgf hgt hcut hB hme
              cases xf
              · go_wp2_with fail
                go_roundw
                case rel => exact ⟨HB.out.alloc HB.out.size _, k + 1, by omega, by go_num, by rw [HCT.out, ← HS.out]; simp⟩
                case measure => simp [intOf]; omega
              · cases xt
                · go_wp2_with fail
                  go_roundw
                  case rel => exact ⟨HB.out.alloc HB.out.size _, k + 1, by omega, by go_num, by rw [HCT.out, ← HS.out]; simp⟩
                  case measure => simp [intOf]; omega
                · go_wp2_with fail
                  go_roundw
                  case rel => exact ⟨HB.out.alloc HB.out.size _, k + 1, by omega, by go_num, by rw [HCT.out, ← HS.out]; simp⟩
                  case measure => simp [intOf]; omega
            · obtain rfl : k = l.length := by omega
              clear hB
              go_wp2_with fail
              go_ret2
              exact ⟨by rw [HNV.out, HS.out, List.take_of_length_le (Nat.le_refl _)]; rfl, HB.out⟩
        · have HNV : Hid (V = (0, 180)) := Lib.hid (by rw [HV.out, HG.out.1, HG.out.2]; rfl)
          go_wp2_with fail
          go_ret2
          exact ⟨by rw [HNV.out]; rfl, HB1.out⟩
    · have hv : capF n a b l cs = (0, 180) := by
        unfold capF
        rw [decide_eq_false hlen]
        simp
      have q1 : ((cs.length : Int) != n) = true := by simpa using hlen
      rw [hv]
      clear hv hok hlen
      go_enter Try.func15, Try.ntmps15
      go_wp2_with fail
      refine (HC.out).mono ?_
      rintro e w1 ⟨rfl, hb1⟩
      go_wp2_with fail
      go_ret2
      exact ⟨rfl, hb1⟩

set_option maxRecDepth 100000 in
set_option maxHeartbeats 8000000 in
theorem RCapacity_any (n a b : Int) (l : List Ed) (A : Option Addr) (c : Nat) (cs : List Bool) (D : Option Addr) (d : Nat) (w : World) (hx : Reads w w.heap.size A 3 Ed.enc l) (hl63 : l.length ≤ 9223372036854775807) (hy : Reads w w.heap.size D 1 boolE cs) (hc63 : cs.length ≤ 9223372036854775807) :
    Calls Try.prog 16 #[.int .i64 n, .slice A l.length c, .int .i64 a, .int .i64 b, .slice D cs.length d] w fun e w' => e = .returned (.tuple #[.int .i64 (capF n a b l cs).1, .int .i64 (capF n a b l cs).2]) ∧ Below w.heap.size w w' := by
  have HX := Lib.hid hx
  have HY := Lib.hid hy
  clear hx hy
  have HC := Lib.hid (ends_any n a b l A c w HX.out hl63)
  cases hok : okX n l a b
  · have hv : capF n a b l cs = (0, 180) := by unfold capF; rw [hok]; rfl
    rw [hv]
    rw [hok] at HC
    try simp only [if_false, Bool.false_eq_true] at HC
    clear hv hok
    go_enter Try.func16, Try.ntmps16
    go_wp2_with fail
    refine (HC.out).mono ?_
    rintro e w1 ⟨rfl, hb1⟩
    go_wp2_with fail
    go_ret2
    exact ⟨rfl, hb1⟩
  · rw [hok] at HC
    try simp only [if_true] at HC
    by_cases hlen : (cs.length : Int) = n
    · have hok2 := hok
      simp only [okX, Bool.and_eq_true] at hok2
      obtain ⟨hn1, hn2, hn3, hn4⟩ := okN_out hok2.1
      obtain ⟨ha0, ha1, hb0, hb1, hab⟩ := okV_out hok2.2
      have hin := okX_inn hok
      obtain ⟨n, rfl⟩ : ∃ m : Nat, n = (m : Int) := ⟨n.toNat, by omega⟩
      obtain ⟨a, rfl⟩ : ∃ m : Nat, a = (m : Int) := ⟨a.toNat, by omega⟩
      obtain ⟨b, rfl⟩ : ∃ m : Nat, b = (m : Int) := ⟨b.toNat, by omega⟩
      simp only [Int.toNat_natCast] at hin
      obtain rfl : cs.length = n := by omega
      have hv : capF cs.length a b l cs = if (cs.getD a false && !cs.getD b false) then (cutE l (fun v => cs.getD v.toNat false), 0) else (0, 180) := by
        unfold capF
        rw [hok]
        simp
      obtain ⟨V, hV⟩ : ∃ V, V = capF cs.length a b l cs := ⟨_, rfl⟩
      rw [← hV] at hv ⊢
      have HV := Lib.hid hv
      have HIN := Lib.hid hin
      have HE := Lib.hid hn4
      have han : a < cs.length := by omega
      have hbn : b < cs.length := by omega
      have hll := hn3
      have hnn : cs.length ≤ 4096 := by omega
      clear hok hok2 hn4 hn3 hin hv hV hlen ha0 ha1 hb0 hb1 hab hn1 hn2 hc63
      go_enter Try.func16, Try.ntmps16
      go_wp2_with fail
      refine (HC.out).mono ?_
      rintro e w1 ⟨rfl, hb1⟩
      obtain ⟨db, doff, x, rfl, hdl, hxa, hdc⟩ := (HY.out.below hb1).at_ han
      have d0 := hdc 0 _ rfl
      simp only [Nat.add_zero, Nat.mul_one] at d0
      obtain ⟨db2, doff2, y, he2, hdl2, hyb, hdc2⟩ := (HY.out.below hb1).at_ hbn
      have d1 := hdc2 0 _ rfl
      simp only [Option.some.injEq, Addr.mk.injEq] at he2
      obtain ⟨rfl, rfl, _⟩ := he2
      simp only [Nat.add_zero, Nat.mul_one] at d1
      have hdw : db < w1.heap.size := by have := hb1.size; omega
      have hga : cs.getD a false = x := getD_some hxa
      have hgb : cs.getD b false = y := getD_some hyb
      have HG := Lib.hid (And.intro hga hgb)
      have HB1 := Lib.hid hb1
      clear hdc hdc2 hxa hyb hga hgb hb1
      cases x
      · have HNV : Hid (V = (0, 180)) := Lib.hid (by rw [HV.out, HG.out.1]; rfl)
        go_wp2_with fail
        go_ret2
        exact ⟨by rw [HNV.out]; rfl, HB1.out⟩
      · cases y
        · have HNV : Hid (V = (cutE l (fun v => cs.getD v.toNat false), 0)) := Lib.hid (by rw [HV.out, HG.out.1, HG.out.2]; rfl)
          go_wp2_with fail
          go_loopw [12, 13] (fun s i wr => Below w.heap.size w wr ∧ ∃ k : Nat, k ≤ l.length ∧ i = .int .i64 k ∧ s = .int .i64 (cutE (l.take k) (fun v => cs.getD v.toNat false))) (fun s i _ => l.length - (intOf i).toNat)
          case atStart => exact ⟨HB1.out, 0, Nat.zero_le _, rfl, by simp [cutE]⟩
          case round =>
            obtain ⟨hB, k, hk, rfl, rfl⟩ := hrel
            have hsm := cut_bound hll HE.out k (fun v => cs.getD v.toNat false)
            obtain ⟨S, hS⟩ : ∃ S, S = cutE (l.take k) (fun v => cs.getD v.toNat false) := ⟨_, rfl⟩
            rw [← hS] at hsm ⊢
            obtain ⟨hs0, hs1⟩ := hsm
            have HS := Lib.hid hS
            have HB := Lib.hid hB
            clear hS
            by_cases hlt : k < l.length
            · obtain ⟨bb, off, x, rfl, hbl, hxk, hc⟩ := (HX.out.below hB).at_ hlt
              have c0 := hc 0 _ rfl
              have c1 := hc 1 _ rfl
              have c2 := hc 2 _ rfl
              simp only [Nat.add_zero] at c0
              have hx4 := HIN.out x (List.mem_of_getElem? hxk)
              have hme := (okE_out (HE.out _ (List.mem_of_getElem? hxk))).2.2.2.2.2
              obtain ⟨f, t, m⟩ := x
              simp only at hx4 c0 c1 c2 hme
              obtain ⟨f, rfl⟩ : ∃ v : Nat, f = (v : Int) := ⟨f.toNat, by omega⟩
              obtain ⟨t, rfl⟩ : ∃ v : Nat, t = (v : Int) := ⟨t.toNat, by omega⟩
              have hfn : f < cs.length := by omega
              have htn : t < cs.length := by omega
              obtain ⟨b1, o1, xf, h1, _, hf, hc1⟩ := (HY.out.below hB).at_ hfn
              obtain ⟨b2, o2, xt, h2, _, ht, hc2⟩ := (HY.out.below hB).at_ htn
              simp only [Option.some.injEq, Addr.mk.injEq] at h1 h2
              obtain ⟨rfl, rfl, _⟩ := h1
              obtain ⟨rfl, rfl, _⟩ := h2
              have f0 := hc1 0 _ rfl
              have t0 := hc2 0 _ rfl
              simp only [Nat.add_zero, Nat.mul_one] at f0 t0
              have hgf : cs.getD f false = xf := getD_some hf
              have hgt : cs.getD t false = xt := getD_some ht
              have hcut := cut_next (fun v => cs.getD v.toNat false) hxk
              simp only [Int.toNat_natCast, hgf, hgt] at hcut
              have HCT := Lib.hid hcut
              have hb2 : bb < wr.heap.size := by have := hB.size; omega
              have hdw2 : db < wr.heap.size := by have := hB.size; omega
              have hw1 : IntKind.i64.wrap (S + m) = S + m := IntWalk.i64_in _ (by omega)
              clear hc hc1 hc2 hx4 hxk hf ht hgf hgt hcut hB hme
              cases xf
              · go_wp2_with fail
                go_roundw
                case rel => exact ⟨HB.out, k + 1, by omega, by go_num, by rw [HCT.out, ← HS.out]; simp⟩
                case measure => simp [intOf]; omega
              · cases xt
                · go_wp2_with fail
                  go_roundw
                  case rel => exact ⟨HB.out, k + 1, by omega, by go_num, by rw [HCT.out, ← HS.out]; simp⟩
                  case measure => simp [intOf]; omega
                · go_wp2_with fail
                  go_roundw
                  case rel => exact ⟨HB.out, k + 1, by omega, by go_num, by rw [HCT.out, ← HS.out]; simp⟩
                  case measure => simp [intOf]; omega
            · obtain rfl : k = l.length := by omega
              clear hB
              go_wp2_with fail
              go_ret2
              exact ⟨by rw [HNV.out, HS.out, List.take_of_length_le (Nat.le_refl _)]; rfl, HB.out⟩
        · have HNV : Hid (V = (0, 180)) := Lib.hid (by rw [HV.out, HG.out.1, HG.out.2]; rfl)
          go_wp2_with fail
          go_ret2
          exact ⟨by rw [HNV.out]; rfl, HB1.out⟩
    · have hv : capF n a b l cs = (0, 180) := by
        unfold capF
        rw [decide_eq_false hlen]
        simp
      have q1 : ((cs.length : Int) != n) = true := by simpa using hlen
      rw [hv]
      clear hv hok hlen
      go_enter Try.func16, Try.ntmps16
      go_wp2_with fail
      refine (HC.out).mono ?_
      rintro e w1 ⟨rfl, hb1⟩
      go_wp2_with fail
      go_ret2
      exact ⟨rfl, hb1⟩

set_option maxRecDepth 100000 in
set_option maxHeartbeats 4000000 in
theorem out_any (n : Int) (l : List Ed) (A : Option Addr) (c : Nat) (fs : List Int) (D : Option Addr) (d : Nat) (v : Int) (w : World) (hx : Reads w w.heap.size A 3 Ed.enc l) (hy : Reads w w.heap.size D 1 intE fs) (hlen : fs.length = l.length) (hll : l.length ≤ 65536) (hE : ∀ e ∈ l, okE n e = true) (hok : ∀ i, i < l.length → okAt l fs i = true) :
    Calls Try.prog 25 #[.slice A l.length c, .slice D fs.length d, .int .i64 v] w fun e w' => e = .returned (.int .i64 (outE l fs v)) ∧ Below w.heap.size w w' := by
  have HX := Lib.hid hx
  have HY := Lib.hid hy
  have HL := Lib.hid hlen
  have HE := Lib.hid hE
  have HO := Lib.hid hok
  have hl63 : l.length ≤ 9223372036854775807 := by omega
  clear hx hy hlen hE hok
  go_enter Try.func25, Try.ntmps25
  go_wp2_with fail
  go_loopw [7, 8] (fun s i wr => Below w.heap.size w wr ∧ ∃ k : Nat, k ≤ l.length ∧ i = .int .i64 k ∧ s = .int .i64 (outK l fs k v)) (fun s i _ => l.length - (intOf i).toNat)
  case atStart => exact ⟨by go_grown, 0, Nat.zero_le _, rfl, by simp [outK, outE]⟩
  case round =>
    obtain ⟨hB, k, hk, rfl, rfl⟩ := hrel
    obtain ⟨S, hS⟩ : ∃ S, S = outK l fs k v := ⟨_, rfl⟩
    have hbo := outK_bound hll HE.out hk HL.out (fun i hi => HO.out i (by omega)) v
    rw [← hS] at hbo ⊢
    obtain ⟨hs0, hs1⟩ := hbo
    have HS := Lib.hid hS
    have HB := Lib.hid hB
    clear hS
    by_cases hlt : k < l.length
    · obtain ⟨bb, off, x, rfl, hbl, hxk, hc⟩ := (HX.out.below hB).at_ hlt
      have c0 := hc 0 _ rfl
      have c1 := hc 1 _ rfl
      simp only [Nat.add_zero] at c0
      have hme := (okE_out (HE.out _ (List.mem_of_getElem? hxk))).2.2.2.2.2
      have hgd : l.getD k default = x := getD_some hxk
      obtain ⟨db, doff, y, rfl, hdl, hyk, hdc⟩ := (HY.out.below hB).at_ (k := k) (by rw [HL.out]; exact hlt)
      have d0 := hdc 0 _ rfl
      simp only [Nat.add_zero, Nat.mul_one] at d0
      have hyg : fs.getD k 0 = y := getD_some hyk
      have hz := HO.out k hlt
      rw [okAt, hyg, hgd] at hz
      have hnx := outK_next hxk hyk v
      obtain ⟨f, t, m⟩ := x
      simp only [Bool.and_eq_true, decide_eq_true_eq] at hz hme c0 c1 hnx
      obtain ⟨z0, z1⟩ := hz
      have hb2 : bb < wr.heap.size := by have := hB.size; omega
      have hd2 : db < wr.heap.size := by have := hB.size; omega
      have hlt2 : k < fs.length := by rw [HL.out]; exact hlt
      have HNX := Lib.hid hnx
      have hm2 := hme.2
      clear hc hdc hme hgd hyg hnx hxk hyk hB hdl hbl
      by_cases ef : f = v
      · have g1 : (f == v) = true := by simp [ef]
        by_cases et : t = v
        · have g2 : (t == v) = true := by simp [et]
          have HN2 : Hid (outK l fs (k + 1) v = S + y - y) := Lib.hid (by rw [HNX.out, ← HS.out, if_pos ef, if_pos et]; omega)
          have w1 : IntKind.i64.wrap (S + y) = S + y := IntWalk.i64_in _ (by omega)
          have w2 : IntKind.i64.wrap (S + y - y) = S + y - y := IntWalk.i64_in _ (by omega)
          clear ef et
          go_wp2_with fail
          go_roundw
          case rel => exact ⟨HB.out, k + 1, by omega, by go_num, by rw [HN2.out]; congr 1; omega⟩
          case measure => simp [intOf]; omega
        · have g2 : (t == v) = false := by simpa using et
          have HN2 : Hid (outK l fs (k + 1) v = S + y) := Lib.hid (by rw [HNX.out, ← HS.out, if_pos ef, if_neg et]; omega)
          have w1 : IntKind.i64.wrap (S + y) = S + y := IntWalk.i64_in _ (by omega)
          clear ef et
          go_wp2_with fail
          go_roundw
          case rel => exact ⟨HB.out, k + 1, by omega, by go_num, by rw [HN2.out]⟩
          case measure => simp [intOf]; omega
      · have g1 : (f == v) = false := by simpa using ef
        by_cases et : t = v
        · have g2 : (t == v) = true := by simp [et]
          have HN2 : Hid (outK l fs (k + 1) v = S - y) := Lib.hid (by rw [HNX.out, ← HS.out, if_neg ef, if_pos et]; omega)
          have w2 : IntKind.i64.wrap (S - y) = S - y := IntWalk.i64_in _ (by omega)
          clear ef et
          go_wp2_with fail
          go_roundw
          case rel => exact ⟨HB.out, k + 1, by omega, by go_num, by rw [HN2.out]⟩
          case measure => simp [intOf]; omega
        · have g2 : (t == v) = false := by simpa using et
          have HN2 : Hid (outK l fs (k + 1) v = S) := Lib.hid (by rw [HNX.out, ← HS.out, if_neg ef, if_neg et]; omega)
          clear ef et
          go_wp2_with fail
          go_roundw
          case rel => exact ⟨HB.out, k + 1, by omega, by go_num, by rw [HN2.out]⟩
          case measure => simp [intOf]; omega
    · obtain rfl : k = l.length := by omega
      clear hB
      go_wp2_with fail
      go_ret
      exact ⟨by rw [← outK_all HL.out, ← HS.out]; rfl, HB.out⟩

set_option maxRecDepth 100000 in
set_option maxHeartbeats 8000000 in
theorem RValue_any (n a b : Int) (l : List Ed) (A : Option Addr) (c : Nat) (fs : List Int) (D : Option Addr) (d : Nat) (w : World) (hx : Reads w w.heap.size A 3 Ed.enc l) (hl63 : l.length ≤ 9223372036854775807) (hy : Reads w w.heap.size D 1 intE fs) (hf63 : fs.length ≤ 9223372036854775807) :
    Calls Try.prog 14 #[.int .i64 n, .slice A l.length c, .int .i64 a, .int .i64 b, .slice D fs.length d] w fun e w' => e = .returned (.tuple #[.int .i64 (valueF n a b l fs).1, .int .i64 (valueF n a b l fs).2]) ∧ Below w.heap.size w w' := by
  have HX := Lib.hid hx
  have HY := Lib.hid hy
  clear hx hy
  have HC := Lib.hid (ends_any n a b l A c w HX.out hl63)
  cases hok : okX n l a b
  · have hv : valueF n a b l fs = (0, 180) := by unfold valueF; rw [hok]; rfl
    rw [hv]
    rw [hok] at HC
    clear hv hok
    go_enter Try.func14, Try.ntmps14
    go_wp2_with fail
    refine (HC.out).mono ?_
    rintro e w1 ⟨rfl, hb1⟩
    go_wp2_with fail
    go_ret2
    exact ⟨rfl, hb1⟩
  · rw [hok] at HC
    by_cases hlen : fs.length = l.length
    · have hok2 := hok
      simp only [okX, Bool.and_eq_true] at hok2
      obtain ⟨hn1, hn2, hn3, hn4⟩ := okN_out hok2.1
      obtain ⟨ha0, ha1, hb0, hb1, hab⟩ := okV_out hok2.2
      obtain ⟨n, rfl⟩ : ∃ m : Nat, n = (m : Int) := ⟨n.toNat, by omega⟩
      obtain ⟨a, rfl⟩ : ∃ m : Nat, a = (m : Int) := ⟨a.toNat, by omega⟩
      obtain ⟨b, rfl⟩ : ∃ m : Nat, b = (m : Int) := ⟨b.toNat, by omega⟩
      have hv : valueF n a b l fs = if ((List.range l.length).all (okAt l fs) && consF n l a b fs) then (outE l fs a, 0) else (0, 180) := by
        unfold valueF okFl
        rw [hok, decide_eq_true hlen]
        simp only [Bool.true_and, Int.toNat_natCast]
      obtain ⟨V, hV⟩ : ∃ V, V = valueF n a b l fs := ⟨_, rfl⟩
      rw [← hV] at hv ⊢
      have HV := Lib.hid hv
      have HE := Lib.hid hn4
      have HL := Lib.hid hlen
      have han : a < n := by omega
      have hll := hn3
      have hnn : n ≤ 4096 := by omega
      have q1 : ((fs.length : Int) != (l.length : Int)) = false := by simp; omega
      clear hok hok2 hn4 hn3 hv hV hlen ha0 ha1 hb0 hb1 hab hn1 hn2
      go_enter Try.func14, Try.ntmps14
      go_wp2_with fail
      refine (HC.out).mono ?_
      rintro e w1 ⟨rfl, hb1⟩
      have HB1 := Lib.hid hb1
      clear hb1
      go_wp2_with fail
      go_loopw [12] (fun i wr => ∃ k : Nat, k ≤ l.length ∧ i = .int .i64 k ∧ (∀ j, j < k → okAt l fs j = true) ∧ Below w.heap.size w wr) (fun i _ => l.length - (intOf i).toNat)
      case atStart => exact ⟨0, Nat.zero_le _, rfl, fun _ h => absurd h (by omega), HB1.out⟩
      case round =>
        obtain ⟨k, hk, rfl, hno, hB⟩ := hrel
        have HNO := Lib.hid hno
        have HB := Lib.hid hB
        by_cases hlt : k < l.length
        · obtain ⟨bb, off, x, rfl, hbl, hxk, hc⟩ := (HX.out.below hB).at_ hlt
          have c2 := hc 2 _ rfl
          have hgd : l.getD k default = x := getD_some hxk
          obtain ⟨f, t, m⟩ := x
          simp only at c2
          obtain ⟨db, doff, x, rfl, hdl, hyk, hdc⟩ := (HY.out.below hB).at_ (k := k) (by rw [HL.out]; exact hlt)
          have d0 := hdc 0 _ rfl
          simp only [Nat.add_zero, Nat.mul_one] at d0
          have hyg : fs.getD k 0 = x := getD_some hyk
          have hb2 : bb < wr.heap.size := by have := hB.size; omega
          have hd2 : db < wr.heap.size := by have := hB.size; omega
          have hlt2 : k < fs.length := by rw [HL.out]; exact hlt
          have HOK : Hid (okAt l fs k = (decide (0 ≤ x) && decide (x ≤ m))) := Lib.hid (by rw [okAt, hyg, hgd])
          clear hc hdc hxk hyk hgd hyg hno hB hbl hdl
          have no : Hid (okAt l fs k = false → V = (0, 180)) := Lib.hid (fun h => by
            rw [HV.out, if_neg]
            intro hh
            rw [Bool.and_eq_true, List.all_eq_true] at hh
            have := hh.1 k (List.mem_range.2 hlt)
            rw [h] at this
            cases this)
          by_cases h0 : x < 0
          · have HNV : Hid (V = (0, 180)) := Lib.hid (no.out (by rw [HOK.out]; simp; omega))
            have e1 : decide (x < 0) = true := by simpa using h0
            go_wp2_with fail
            go_quiet (fail)
            go_wp2_with fail
            go_ret2
            exact ⟨by rw [HNV.out]; rfl, below_drewN HB.out _⟩
          · have e1 : decide (x < 0) = false := by simpa using h0
            by_cases h1 : m < x
            · have HNV : Hid (V = (0, 180)) := Lib.hid (no.out (by rw [HOK.out]; simp; omega))
              have e2 : decide (m < x) = true := by simpa using h1
              go_wp2_with fail
              go_quiet (fail)
              go_wp2_with fail
              go_ret2
              exact ⟨by rw [HNV.out]; rfl, below_drewN HB.out _⟩
            · have e2 : decide (m < x) = false := by simpa using h1
              have hokk : Hid (okAt l fs k = true) := Lib.hid (by rw [HOK.out]; simp; omega)
              go_wp2_with fail
              go_quiet (fail)
              go_wp2_with fail
              refine ⟨⟨k + 1, by omega, by go_num, fun j hj => ?_, below_drewN HB.out _⟩, by simp [intOf]; omega⟩
              rcases Nat.lt_or_ge j k with h | h
              · exact HNO.out j h
              · obtain rfl : j = k := by omega
                exact hokk.out
        · obtain rfl : k = l.length := by omega
          clear hno hB
          go_wp2_with fail
          go_loopw [13] (fun i wx => Below w.heap.size w wx ∧ ∃ v : Nat, v ≤ n ∧ i = .int .i64 v ∧ ∀ u, u < v → restV l fs a b u = true) (fun i _ => n - (intOf i).toNat)
          case atStart => exact ⟨HB.out, 0, Nat.zero_le _, rfl, fun _ h => absurd h (by omega)⟩
          case round =>
            obtain ⟨hB, v, hv, rfl, hvo⟩ := hrel
            have HB2 := Lib.hid hB
            have HVO := Lib.hid hvo
            have hallv : Hid ((List.range l.length).all (okAt l fs) = true) := Lib.hid (by
              rw [List.all_eq_true]
              intro j hj
              exact HNO.out j (List.mem_range.1 hj))
            have HOUT := Lib.hid (fun (u : Int) => out_any n l A c fs D d u wr ((HX.out.below hB).more hB.size) ((HY.out.below hB).more hB.size) HL.out hll HE.out HNO.out)
            clear hB hvo
            by_cases hlt : v < n
            · obtain ⟨s, hs⟩ : ∃ s, s = outE l fs v := ⟨_, rfl⟩
              have HOV := Lib.hid (HOUT.out v)
              rw [← hs] at HOV
              have HS := Lib.hid hs
              clear hs
              have next : ∀ (hr : restV l fs a b v = true), ∀ u, u < v + 1 → restV l fs a b u = true := fun hr u hu => by
                rcases Nat.lt_or_ge u v with h | h
                · exact HVO.out u h
                · obtain rfl : u = v := by omega
                  exact hr
              have NX := Lib.hid next
              clear next
              by_cases e1 : v = a
              · have g1 : ((v : Int) != (a : Int)) = false := by simp [e1]
                have HR : Hid (restV l fs a b v = true) := Lib.hid (by simp [restV, e1])
                clear e1
                go_wp2_with fail
                go_roundw
                case rel => exact ⟨HB2.out, v + 1, by omega, by go_num, NX.out HR.out⟩
                case measure => simp [intOf]; omega
              · have g1 : ((v : Int) != (a : Int)) = true := by simp; omega
                by_cases e2 : v = b
                · have g2 : ((v : Int) != (b : Int)) = false := by simp [e2]
                  have HR : Hid (restV l fs a b v = true) := Lib.hid (by simp [restV, e2])
                  clear e1 e2
                  go_wp2_with fail
                  go_roundw
                  case rel => exact ⟨HB2.out, v + 1, by omega, by go_num, NX.out HR.out⟩
                  case measure => simp [intOf]; omega
                · have g2 : ((v : Int) != (b : Int)) = true := by simp; omega
                  by_cases e3 : s = 0
                  · have g3 : (s != 0) = false := by simp [e3]
                    have HR : Hid (restV l fs a b v = true) := Lib.hid (by
                      have := HS.out
                      simp only [restV, ← this, e3]
                      simp)
                    clear e1 e2 e3
                    go_wp2_with fail
                    refine (HOV.out).mono ?_
                    rintro e w5 ⟨rfl, hb5⟩
                    have HB5 := Lib.hid (HB2.out.trans (hb5.mono HB2.out.size))
                    clear hb5
                    go_wp2_with fail
                    go_roundw
                    case rel => exact ⟨HB5.out, v + 1, by omega, by go_num, NX.out HR.out⟩
                    case measure => simp [intOf]; omega
                  · have g3 : (s != 0) = true := by simpa using e3
                    have HNV : Hid (V = (0, 180)) := Lib.hid (by
                      rw [HV.out, if_neg]
                      intro hh
                      rw [Bool.and_eq_true] at hh
                      have h2 := hh.2
                      unfold consF at h2
                      rw [List.all_eq_true] at h2
                      have h3 := h2 v (List.mem_range.2 hlt)
                      have h4 := HS.out
                      simp only [restV, ← h4] at h3
                      simp at h3
                      omega)
                    clear e1 e2 e3
                    go_wp2_with fail
                    refine (HOV.out).mono ?_
                    rintro e w5 ⟨rfl, hb5⟩
                    have HB5 := Lib.hid (HB2.out.trans (hb5.mono HB2.out.size))
                    clear hb5
                    go_wp2_with fail
                    go_ret2
                    exact ⟨by rw [HNV.out]; rfl, HB5.out⟩
            · obtain rfl : v = n := by omega
              have HNV : Hid (V = (outE l fs a, 0)) := Lib.hid (by
                rw [HV.out, if_pos]
                rw [hallv.out, Bool.true_and, consF, List.all_eq_true]
                intro u hu
                exact HVO.out u (List.mem_range.1 hu))
              have HOA := Lib.hid (HOUT.out a)
              obtain ⟨s, hs⟩ : ∃ s, s = outE l fs a := ⟨_, rfl⟩
              rw [← hs] at HNV HOA
              clear hs
              go_wp2_with fail
              refine (HOA.out).mono ?_
              rintro e w5 ⟨rfl, hb5⟩
              have HB5 := Lib.hid (HB2.out.trans (hb5.mono HB2.out.size))
              clear hb5
              go_wp2_with fail
              go_ret2
              exact ⟨by rw [HNV.out]; rfl, HB5.out⟩
    · have hv : valueF n a b l fs = (0, 180) := by
        unfold valueF okFl
        rw [decide_eq_false hlen]
        simp
      have q1 : ((fs.length : Int) != (l.length : Int)) = true := by simp; omega
      rw [hv]
      clear hv hok hlen
      go_enter Try.func14, Try.ntmps14
      go_wp2_with fail
      refine (HC.out).mono ?_
      rintro e w1 ⟨rfl, hb1⟩
      go_wp2_with fail
      go_ret2
      exact ⟨rfl, hb1⟩
end Go.Proofs.Ytjpnbpfbdkbknaa
