/- FlowMaxSpec, walked. -/
import Derived.Test.YtjpnbpfbdkbknaaFlowL3
import Derived.Test.YtjpnbpfbdkbknaaFlowU
namespace Go.Proofs.Ytjpnbpfbdkbknaa
open Go.RowKit Go.Shelf
set_option linter.unusedSimpArgs false
set_option linter.unusedVariables false

set_option maxRecDepth 100000 in
set_option maxHeartbeats 8000000 in
theorem FlowMaxSpec_walk (n a b : Int) (hn64 : -9223372036854775808 ≤ n ∧ n ≤ 9223372036854775807) (l : List Ed) (A : Option Addr) (c : Nat) (w : World) (hx : Reads w w.heap.size A 3 Ed.enc l) (hlc : l.length ≤ c) (hc : c ≤ maxLen) (hnil : A = none → c = 0) :
    Calls Try.prog 4 #[.int .i64 n, .slice A l.length c, .int .i64 a, .int .i64 b] w fun e w' => e = .returned (.bool true) ∧ Below w.heap.size w w' := by
  have HX := Lib.hid hx
  have hl63 : l.length ≤ 9223372036854775807 := by unfold maxLen at hc; omega
  clear hx
  go_enter Try.func4, Try.ntmps4
  go_wp2_with fail
  refine (sane_any _).mono ?_
  rintro e w1 ⟨rfl, hb_w1⟩
  have ba := Lib.hid hb_w1
  have S_w1 : Below w.heap.size w w1 := (Below.refl _ w).trans (hb_w1.mono (by (try simp) <;> omega))
  have HX := Lib.hid ((HX.out.below S_w1).more S_w1.size)
  have z_w1 := S_w1.size
  go_wp2_with fail
  refine (Few_any n l A c _).mono ?_
  rintro e w2 ⟨rfl, rfl⟩
  obtain ⟨bf, hbf⟩ : ∃ q, q = fewN n l := ⟨_, rfl⟩
  have hfw : bf = true → l.length ≤ 60 ∧ n ≤ 40 := fun h => by rw [h] at hbf; have := hbf.symm; simp [fewN] at this; omega
  rw [← hbf]
  clear hbf
  cases bf
  · clear hfw
    go_wp2_with fail
    go_ret
    exact ⟨rfl, ba.out⟩
  obtain ⟨hl60, hn40⟩ := hfw rfl
  clear hfw
  go_wp2_with fail
  refine (Max_any n a b hn64 l A c _ HX.out hlc hc hnil).mono ?_
  rintro e w3 ⟨⟨hok, Fb, Cb, xs, cs, cf, rfl, hmax, hxl, hcut, hrx, hrc⟩ | ⟨hok, rfl⟩, hb_w3⟩
  · have S_w3 : Below w1.heap.size w1 w3 := (Below.refl _ w1).trans (hb_w3.mono (by (try simp) <;> omega))
    have HX := Lib.hid ((HX.out.below S_w3).more S_w3.size)
    have ba := Lib.hid (ba.out.trans (S_w3.mono ba.out.size))
    have z_w3 := S_w3.size
    have HF := Lib.hid (hrx)
    have HC := Lib.hid (hrc)
    have HM := Lib.hid (And.intro hok (And.intro hmax (And.intro hcut hxl)))
    clear hok hmax hcut hxl hrx hrc
    go_wp2_with fail
    refine (RMax_any n a b hn64 l A c _ HX.out hl63).mono ?_
    rintro e w4 ⟨⟨hok2, F2, c2, C2, ys, ds, df, rfl, hmax, hyl, hcut, hry, hrd⟩ | ⟨hok2, _⟩, hb_w4⟩
    rotate_left
    · rw [HM.out.1] at hok2
      cases hok2
    have S_w4 : Below w3.heap.size w3 w4 := (Below.refl _ w3).trans (hb_w4.mono (by (try simp) <;> omega))
    have HX := Lib.hid ((HX.out.below S_w4).more S_w4.size)
    have ba := Lib.hid (ba.out.trans (S_w4.mono ba.out.size))
    have HF := Lib.hid ((HF.out.below S_w4).more S_w4.size)
    have HC := Lib.hid ((HC.out.below S_w4).more S_w4.size)
    have z_w4 := S_w4.size
    have HG := Lib.hid (hry)
    have HD := Lib.hid (hrd)
    obtain ⟨hn2, hn3, hl3, _, ha0, ha1, hb0, hb1, hab⟩ := okX_out HM.out.1
    have hin := okX_inn HM.out.1
    have hsame := HM.out.2.1.same hin ha0 (by omega) hmax
    have hcd := cut_same HM.out.2.2.1 hcut hsame.1
    have hdl : cs.length = n.toNat := HM.out.2.2.1.1
    have hvx := value_yes HM.out.1 HM.out.2.1.1
    have hvy := value_yes HM.out.1 hmax.1
    rw [← hsame.2] at hvy
    have SC : Hid (Calls Try.prog 21 #[.slice (some ⟨Cb, 0, none⟩) n.toNat n.toNat, .slice (some ⟨C2, 0, none⟩) n.toNat n.toNat] w4 fun e w' => e = .returned (.bool true) ∧ Below w4.heap.size w4 w') := Lib.hid (by
      have h := SameCut_any cs ds (some ⟨Cb, 0, none⟩) (some ⟨C2, 0, none⟩) n.toNat n.toNat w4 HC.out HD.out (by omega)
      rw [decide_eq_true hcd, ← hcd, hdl] at h
      exact h)
    have RV : ∀ W, Below w4.heap.size w4 W → Calls Try.prog 14 #[.int .i64 n, .slice A l.length c, .int .i64 a, .int .i64 b, .slice (some ⟨Fb, 0, none⟩) l.length l.length] W fun e w' => e = .returned (.tuple #[.int .i64 (outE l xs a), .int .i64 0]) ∧ Below W.heap.size W w' := fun W hW => by
      have h := RValue_any n a b l A c xs (some ⟨Fb, 0, none⟩) l.length W ((HX.out.below hW).more hW.size) hl63 ((HF.out.below hW).more hW.size) (by rw [HM.out.2.2.2]; exact hl63)
      rw [hvx, HM.out.2.2.2] at h
      exact h
    have RW : ∀ W, Below w4.heap.size w4 W → Calls Try.prog 14 #[.int .i64 n, .slice A l.length c, .int .i64 a, .int .i64 b, .slice F2 l.length c2] W fun e w' => e = .returned (.tuple #[.int .i64 (outE l xs a), .int .i64 0]) ∧ Below W.heap.size W w' := fun W hW => by
      have h := RValue_any n a b l A c ys F2 c2 W ((HX.out.below hW).more hW.size) hl63 ((HG.out.below hW).more hW.size) (by rw [hyl]; exact hl63)
      rw [hvy, hyl] at h
      exact h
    have HRV := Lib.hid RV
    have HRW := Lib.hid RW
    obtain ⟨V, hV⟩ : ∃ V, V = outE l xs a := ⟨_, rfl⟩
    rw [← hV] at HRV HRW
    clear RV RW hry hrd hmax hyl hcut hsame hcd hdl hvx hvy hok2 hin hn2 hn3 hl3 ha0 ha1 hb0 hb1 hab hV
    go_wp2_with fail
    refine (SC.out).mono ?_
    rintro e w5 ⟨rfl, hb5⟩
    have HB5 := Lib.hid hb5
    clear hb5
    go_wp2_with fail
    refine (HRV.out _ HB5.out).mono ?_
    rintro e w6 ⟨rfl, hb6⟩
    have HB6 := Lib.hid (HB5.out.trans (hb6.mono HB5.out.size))
    clear hb6
    go_wp2_with fail
    refine (HRW.out _ HB6.out).mono ?_
    rintro e w7 ⟨rfl, hb7⟩
    have HB7 := Lib.hid (HB6.out.trans (hb7.mono HB6.out.size))
    clear hb7
    go_wp2_with fail
    go_ret
    exact ⟨rfl, ba.out.trans (HB7.out.mono ba.out.size)⟩
  · have S_w3 : Below w1.heap.size w1 w3 := (Below.refl _ w1).trans (hb_w3.mono (by (try simp) <;> omega))
    have HX := Lib.hid ((HX.out.below S_w3).more S_w3.size)
    have ba := Lib.hid (ba.out.trans (S_w3.mono ba.out.size))
    have z_w3 := S_w3.size
    have HO := Lib.hid hok
    clear hok
    go_wp2_with fail
    refine (RMax_any n a b hn64 l A c _ HX.out hl63).mono ?_
    rintro e w4 ⟨⟨hok2, _⟩ | ⟨hok2, rfl⟩, hb_w4⟩
    · rw [HO.out] at hok2
      cases hok2
    have S_w4 : Below w3.heap.size w3 w4 := (Below.refl _ w3).trans (hb_w4.mono (by (try simp) <;> omega))
    have HX := Lib.hid ((HX.out.below S_w4).more S_w4.size)
    have ba := Lib.hid (ba.out.trans (S_w4.mono ba.out.size))
    have z_w4 := S_w4.size
    have SC : Hid (Calls Try.prog 21 #[.slice none 0 0, .slice none 0 0] w4 fun e w' => e = .returned (.bool true) ∧ Below w4.heap.size w4 w') := Lib.hid (SameCut_any [] [] none none 0 0 w4 Reads.nil_ Reads.nil_ (by decide))
    have HRV : Hid (∀ W, Below w4.heap.size w4 W → Calls Try.prog 14 #[.int .i64 n, .slice A l.length c, .int .i64 a, .int .i64 b, .slice none 0 0] W fun e w' => e = .returned (.tuple #[.int .i64 (valueF n a b l []).1, .int .i64 (valueF n a b l []).2]) ∧ Below W.heap.size W w') := Lib.hid (fun W hW => RValue_any n a b l A c [] none 0 W ((HX.out.below hW).more hW.size) hl63 Reads.nil_ (by decide))
    obtain ⟨⟨V, VE⟩, hV⟩ : ∃ q, q = valueF n a b l [] := ⟨_, rfl⟩
    rw [← hV] at HRV
    clear hok2 hV
    go_wp2_with fail
    refine (SC.out).mono ?_
    rintro e w5 ⟨rfl, hb5⟩
    have HB5 := Lib.hid hb5
    clear hb5
    go_wp2_with fail
    refine (HRV.out _ HB5.out).mono ?_
    rintro e w6 ⟨rfl, hb6⟩
    have HB6 := Lib.hid (HB5.out.trans (hb6.mono HB5.out.size))
    clear hb6
    go_wp2_with fail
    refine (HRV.out _ HB6.out).mono ?_
    rintro e w7 ⟨rfl, hb7⟩
    have HB7 := Lib.hid (HB6.out.trans (hb7.mono HB6.out.size))
    clear hb7
    go_wp2_with fail
    go_ret
    exact ⟨rfl, ba.out.trans (HB7.out.mono ba.out.size)⟩

theorem FlowMaxSpec_any {w : World} (n : Int) (hn : (Lit.int .i64 n).wf = true) (l : List Ed) (A : Option Addr) (c : Nat) (hx : Reads w w.heap.size A 3 Ed.enc l) (hq : ∀ y ∈ l, y.ok) (hlc : l.length ≤ c) (hc : c ≤ maxLen) (hnil : A = none → c = 0) (a : Int) (ha : (Lit.int .i64 a).wf = true) (b : Int) (hb : (Lit.int .i64 b).wf = true) :
    Calls Try.prog 4 #[.int .i64 n, .slice A l.length c, .int .i64 a, .int .i64 b] w fun e w' => e = .returned (.bool true) ∧ Below w.heap.size w w' :=
  FlowMaxSpec_walk n a b (by have := Go.bounds_i64 hn; omega) l A c w hx hlc hc hnil
end Go.Proofs.Ytjpnbpfbdkbknaa
