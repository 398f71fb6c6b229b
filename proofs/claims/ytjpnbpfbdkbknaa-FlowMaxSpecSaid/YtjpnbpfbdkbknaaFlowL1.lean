/- FlowCheckSpec, FlowWeak, FlowDual, FlowLeast, walked. -/
import Derived.Test.YtjpnbpfbdkbknaaFlowN
namespace Go.Proofs.Ytjpnbpfbdkbknaa
open Go.RowKit Go.Shelf
set_option linter.unusedSimpArgs false
set_option linter.unusedVariables false

set_option maxRecDepth 100000 in
set_option maxHeartbeats 8000000 in
theorem FlowCheckSpec_walk (n a b : Int) (hn64 : -9223372036854775808 ≤ n ∧ n ≤ 9223372036854775807) (l : List Ed) (A : Option Addr) (c : Nat) (w : World) (hx : Reads w w.heap.size A 3 Ed.enc l) (hlc : l.length ≤ c) (hc : c ≤ maxLen) (hnil : A = none → c = 0) (fs : List Int) (D : Option Addr) (d : Nat) (hy : Reads w w.heap.size D 1 intE fs) (hf63 : fs.length ≤ 9223372036854775807) (cs : List Bool) (E : Option Addr) (e : Nat) (hz : Reads w w.heap.size E 1 boolE cs) (hc63 : cs.length ≤ 9223372036854775807) :
    Calls Try.prog 3 #[.int .i64 n, .slice A l.length c, .int .i64 a, .int .i64 b, .slice D fs.length d, .slice E cs.length e] w fun e w' => e = .returned (.bool true) ∧ Below w.heap.size w w' := by
  have HX := Lib.hid hx
  have hl63 : l.length ≤ 9223372036854775807 := by unfold maxLen at hc; omega
  have HF := Lib.hid hy
  have HC := Lib.hid hz
  clear hx hy hz hlc hc hnil
  go_enter Try.func3, Try.ntmps3
  go_wp2_with fail
  refine (sane_any _).mono ?_
  rintro e w1 ⟨rfl, hb_w1⟩
  have ba := Lib.hid hb_w1
  have S_w1 : Below w.heap.size w w1 := (Below.refl _ w).trans (hb_w1.mono (by (try simp) <;> omega))
  have HX := Lib.hid ((HX.out.below S_w1).more S_w1.size)
  have HF := Lib.hid ((HF.out.below S_w1).more S_w1.size)
  have HC := Lib.hid ((HC.out.below S_w1).more S_w1.size)
  have z_w1 := S_w1.size
  go_wp2_with fail
  refine (Few_any n l A c _).mono ?_
  rintro e w2 ⟨rfl, rfl⟩
  obtain ⟨bf, hbf⟩ : ∃ q, q = fewN n l := ⟨_, rfl⟩
  rw [← hbf]
  clear hbf
  cases bf
  · go_wp2_with fail
    go_ret
    exact ⟨rfl, ba.out⟩
  by_cases hlongf : fs.length ≤ 80
  rotate_left
  · have qf : decide ((80 : Int) < (fs.length : Int)) = true := by simp; omega
    clear hlongf
    go_wp2_with fail
    go_ret
    exact ⟨rfl, ba.out⟩
  have qf : decide ((80 : Int) < (fs.length : Int)) = false := by simp; omega
  by_cases hlongc : cs.length ≤ 80
  rotate_left
  · have qc : decide ((80 : Int) < (cs.length : Int)) = true := by simp; omega
    clear hlongc
    go_wp2_with fail
    go_ret
    exact ⟨rfl, ba.out⟩
  have qc : decide ((80 : Int) < (cs.length : Int)) = false := by simp; omega
  obtain ⟨⟨V, VE⟩, hV⟩ : ∃ q, q = valueF n a b l fs := ⟨_, rfl⟩
  obtain ⟨⟨C, CE⟩, hC⟩ : ∃ q, q = capF n a b l cs := ⟨_, rfl⟩
  go_wp2_with fail
  refine (Value_any n a b l A c fs D d _ HX.out hl63 HF.out hf63).mono ?_
  rw [← hV]
  rintro e w3 ⟨rfl, hb_w3⟩
  have S_w3 : Below w1.heap.size w1 w3 := (Below.refl _ w1).trans (hb_w3.mono (by (try simp) <;> omega))
  have HX := Lib.hid ((HX.out.below S_w3).more S_w3.size)
  have HF := Lib.hid ((HF.out.below S_w3).more S_w3.size)
  have HC := Lib.hid ((HC.out.below S_w3).more S_w3.size)
  have ba := Lib.hid (ba.out.trans (S_w3.mono ba.out.size))
  have z_w3 := S_w3.size
  go_wp2_with fail
  refine (RValue_any n a b l A c fs D d _ HX.out hl63 HF.out hf63).mono ?_
  rw [← hV]
  rintro e w4 ⟨rfl, hb_w4⟩
  have S_w4 : Below w3.heap.size w3 w4 := (Below.refl _ w3).trans (hb_w4.mono (by (try simp) <;> omega))
  have HX := Lib.hid ((HX.out.below S_w4).more S_w4.size)
  have HF := Lib.hid ((HF.out.below S_w4).more S_w4.size)
  have HC := Lib.hid ((HC.out.below S_w4).more S_w4.size)
  have ba := Lib.hid (ba.out.trans (S_w4.mono ba.out.size))
  have z_w4 := S_w4.size
  go_wp2_with fail
  refine (Capacity_any n a b l A c cs E e _ HX.out hl63 HC.out hc63).mono ?_
  rw [← hC]
  rintro e w5 ⟨rfl, hb_w5⟩
  have S_w5 : Below w4.heap.size w4 w5 := (Below.refl _ w4).trans (hb_w5.mono (by (try simp) <;> omega))
  have HX := Lib.hid ((HX.out.below S_w5).more S_w5.size)
  have HF := Lib.hid ((HF.out.below S_w5).more S_w5.size)
  have HC := Lib.hid ((HC.out.below S_w5).more S_w5.size)
  have ba := Lib.hid (ba.out.trans (S_w5.mono ba.out.size))
  have z_w5 := S_w5.size
  go_wp2_with fail
  refine (RCapacity_any n a b l A c cs E _ _ HX.out hl63 HC.out hc63).mono ?_
  rw [← hC]
  rintro e w6 ⟨rfl, hb_w6⟩
  have S_w6 : Below w5.heap.size w5 w6 := (Below.refl _ w5).trans (hb_w6.mono (by (try simp) <;> omega))
  have HX := Lib.hid ((HX.out.below S_w6).more S_w6.size)
  have HF := Lib.hid ((HF.out.below S_w6).more S_w6.size)
  have HC := Lib.hid ((HC.out.below S_w6).more S_w6.size)
  have ba := Lib.hid (ba.out.trans (S_w6.mono ba.out.size))
  have z_w6 := S_w6.size
  clear hV hC
  go_wp2_with fail
  refine (Check_any n l A c _ HX.out hl63).mono ?_
  rintro e w7 ⟨rfl, hb_w7⟩
  have S_w7 : Below w6.heap.size w6 w7 := (Below.refl _ w6).trans (hb_w7.mono (by (try simp) <;> omega))
  have HX := Lib.hid ((HX.out.below S_w7).more S_w7.size)
  have HF := Lib.hid ((HF.out.below S_w7).more S_w7.size)
  have HC := Lib.hid ((HC.out.below S_w7).more S_w7.size)
  have ba := Lib.hid (ba.out.trans (S_w7.mono ba.out.size))
  have z_w7 := S_w7.size
  go_wp2_with fail
  refine (RCheck_any n l A c _ HX.out hl63).mono ?_
  rintro e w8 ⟨rfl, hb_w8⟩
  have S_w8 : Below w7.heap.size w7 w8 := (Below.refl _ w7).trans (hb_w8.mono (by (try simp) <;> omega))
  have HX := Lib.hid ((HX.out.below S_w8).more S_w8.size)
  have HF := Lib.hid ((HF.out.below S_w8).more S_w8.size)
  have HC := Lib.hid ((HC.out.below S_w8).more S_w8.size)
  have ba := Lib.hid (ba.out.trans (S_w8.mono ba.out.size))
  have z_w8 := S_w8.size
  go_wp2_with fail
  go_ret
  exact ⟨rfl, ba.out⟩

set_option maxRecDepth 100000 in
set_option maxHeartbeats 8000000 in
theorem FlowWeak_walk (n a b : Int) (hn64 : -9223372036854775808 ≤ n ∧ n ≤ 9223372036854775807) (l : List Ed) (A : Option Addr) (c : Nat) (w : World) (hx : Reads w w.heap.size A 3 Ed.enc l) (hlc : l.length ≤ c) (hc : c ≤ maxLen) (hnil : A = none → c = 0) (fs : List Int) (D : Option Addr) (d : Nat) (hy : Reads w w.heap.size D 1 intE fs) (hf63 : fs.length ≤ 9223372036854775807) (cs : List Bool) (E : Option Addr) (e : Nat) (hz : Reads w w.heap.size E 1 boolE cs) (hc63 : cs.length ≤ 9223372036854775807) :
    Calls Try.prog 6 #[.int .i64 n, .slice A l.length c, .int .i64 a, .int .i64 b, .slice D fs.length d, .slice E cs.length e] w fun e w' => e = .returned (.bool true) ∧ Below w.heap.size w w' := by
  have HX := Lib.hid hx
  have hl63 : l.length ≤ 9223372036854775807 := by unfold maxLen at hc; omega
  have HF := Lib.hid hy
  have HC := Lib.hid hz
  clear hx hy hz hlc hc hnil
  go_enter Try.func6, Try.ntmps6
  go_wp2_with fail
  refine (sane_any _).mono ?_
  rintro e w1 ⟨rfl, hb_w1⟩
  have ba := Lib.hid hb_w1
  have S_w1 : Below w.heap.size w w1 := (Below.refl _ w).trans (hb_w1.mono (by (try simp) <;> omega))
  have HX := Lib.hid ((HX.out.below S_w1).more S_w1.size)
  have HF := Lib.hid ((HF.out.below S_w1).more S_w1.size)
  have HC := Lib.hid ((HC.out.below S_w1).more S_w1.size)
  have z_w1 := S_w1.size
  go_wp2_with fail
  refine (Few_any n l A c _).mono ?_
  rintro e w2 ⟨rfl, rfl⟩
  obtain ⟨bf, hbf⟩ : ∃ q, q = fewN n l := ⟨_, rfl⟩
  rw [← hbf]
  clear hbf
  cases bf
  · go_wp2_with fail
    go_ret
    exact ⟨rfl, ba.out⟩
  by_cases hlongf : fs.length ≤ 80
  rotate_left
  · have qf : decide ((80 : Int) < (fs.length : Int)) = true := by simp; omega
    clear hlongf
    go_wp2_with fail
    go_ret
    exact ⟨rfl, ba.out⟩
  have qf : decide ((80 : Int) < (fs.length : Int)) = false := by simp; omega
  by_cases hlongc : cs.length ≤ 80
  rotate_left
  · have qc : decide ((80 : Int) < (cs.length : Int)) = true := by simp; omega
    clear hlongc
    go_wp2_with fail
    go_ret
    exact ⟨rfl, ba.out⟩
  have qc : decide ((80 : Int) < (cs.length : Int)) = false := by simp; omega
  obtain ⟨⟨V, VE⟩, hV⟩ : ∃ q, q = valueF n a b l fs := ⟨_, rfl⟩
  obtain ⟨⟨C, CE⟩, hC⟩ : ∃ q, q = capF n a b l cs := ⟨_, rfl⟩
  have hwk := weak_law n a b l fs cs
  rw [← hV, ← hC] at hwk
  simp only at hwk
  have HWK := Lib.hid hwk
  clear hwk
  go_wp2_with fail
  refine (Value_any n a b l A c fs D d _ HX.out hl63 HF.out hf63).mono ?_
  rw [← hV]
  rintro e w3 ⟨rfl, hb_w3⟩
  have S_w3 : Below w1.heap.size w1 w3 := (Below.refl _ w1).trans (hb_w3.mono (by (try simp) <;> omega))
  have HX := Lib.hid ((HX.out.below S_w3).more S_w3.size)
  have HF := Lib.hid ((HF.out.below S_w3).more S_w3.size)
  have HC := Lib.hid ((HC.out.below S_w3).more S_w3.size)
  have ba := Lib.hid (ba.out.trans (S_w3.mono ba.out.size))
  have z_w3 := S_w3.size
  go_wp2_with fail
  refine (Capacity_any n a b l A c cs E e _ HX.out hl63 HC.out hc63).mono ?_
  rw [← hC]
  rintro e w5 ⟨rfl, hb_w5⟩
  have S_w5 : Below w3.heap.size w3 w5 := (Below.refl _ w3).trans (hb_w5.mono (by (try simp) <;> omega))
  have HX := Lib.hid ((HX.out.below S_w5).more S_w5.size)
  have HF := Lib.hid ((HF.out.below S_w5).more S_w5.size)
  have HC := Lib.hid ((HC.out.below S_w5).more S_w5.size)
  have ba := Lib.hid (ba.out.trans (S_w5.mono ba.out.size))
  have z_w5 := S_w5.size
  clear hV hC
  rcases HWK.out with rfl | rfl | ⟨rfl, rfl, hle⟩
  · go_wp2_with fail
    go_ret
    exact ⟨rfl, ba.out⟩
  · by_cases h0 : VE = 0
    · subst h0
      go_wp2_with fail
      go_ret
      exact ⟨rfl, ba.out⟩
    · have g0 : (VE != 0) = true := by simpa using h0
      go_wp2_with fail
      go_ret
      exact ⟨rfl, ba.out⟩
  · have g0 : decide (V ≤ C) = true := by simpa using hle
    go_wp2_with fail
    go_ret
    exact ⟨rfl, ba.out⟩

set_option maxRecDepth 100000 in
set_option maxHeartbeats 8000000 in
theorem FlowDual_walk (n a b : Int) (hn64 : -9223372036854775808 ≤ n ∧ n ≤ 9223372036854775807) (l : List Ed) (A : Option Addr) (c : Nat) (w : World) (hx : Reads w w.heap.size A 3 Ed.enc l) (hlc : l.length ≤ c) (hc : c ≤ maxLen) (hnil : A = none → c = 0) :
    Calls Try.prog 5 #[.int .i64 n, .slice A l.length c, .int .i64 a, .int .i64 b] w fun e w' => e = .returned (.bool true) ∧ Below w.heap.size w w' := by
  have HX := Lib.hid hx
  have hl63 : l.length ≤ 9223372036854775807 := by unfold maxLen at hc; omega
  clear hx
  go_enter Try.func5, Try.ntmps5
  go_wp2_with fail
  refine (sane_any _).mono ?_
  rintro e w1 ⟨rfl, hb_w1⟩
  have ba := Lib.hid hb_w1
  have S_w1 : Below w.heap.size w w1 := (Below.refl _ w).trans (hb_w1.mono (by (try simp) <;> omega))
  have HX := Lib.hid ((HX.out.below S_w1).more S_w1.size)
  have z_w1 := S_w1.size
  go_wp2_with fail
  refine (Few_any n l A c _).mono ?_
  rintro e w2 ⟨rfl, rfl⟩
  obtain ⟨bf, hbf⟩ : ∃ q, q = fewN n l := ⟨_, rfl⟩
  rw [← hbf]
  clear hbf
  cases bf
  · go_wp2_with fail
    go_ret
    exact ⟨rfl, ba.out⟩
  go_wp2_with fail
  refine (Max_any n a b hn64 l A c _ HX.out hlc hc hnil).mono ?_
  rintro e w3 ⟨⟨hok, Fb, Cb, xs, cs, cf, rfl, hmax, hxl, hcut, hrx, hrc⟩ | ⟨hok, rfl⟩, hb_w3⟩
  · have S_w3 : Below w1.heap.size w1 w3 := (Below.refl _ w1).trans (hb_w3.mono (by (try simp) <;> omega))
    have HX := Lib.hid ((HX.out.below S_w3).more S_w3.size)
    have ba := Lib.hid (ba.out.trans (S_w3.mono ba.out.size))
    have z_w3 := S_w3.size
    have HF := Lib.hid (hrx)
    have HC := Lib.hid (hrc)
    obtain ⟨hn2, hn3, _, _, ha0, ha1, hb0, hb1, hab⟩ := okX_out hok
    obtain ⟨V, hV, hC, _⟩ := dual_law hok hmax hcut
    have e1 : xs.length ≤ 9223372036854775807 := by omega
    have e2 : cs.length ≤ 9223372036854775807 := by have := hcut.1; omega
    have hcl := hcut.1
    have HXL := Lib.hid (And.intro hxl hcl)
    clear hrx hrc hmax hcut hxl hcl hok
    have hv := Value_any n a b l A c xs (some ⟨Fb, 0, none⟩) l.length w3 HX.out hl63 HF.out e1
    rw [hV, HXL.out.1] at hv
    have HV := Lib.hid hv
    clear hv
    go_wp2_with fail
    refine (HV.out).mono ?_
    rintro e w4 ⟨rfl, hb_w4⟩
    have S_w4 : Below w3.heap.size w3 w4 := (Below.refl _ w3).trans (hb_w4.mono (by (try simp) <;> omega))
    have HX := Lib.hid ((HX.out.below S_w4).more S_w4.size)
    have ba := Lib.hid (ba.out.trans (S_w4.mono ba.out.size))
    have HF := Lib.hid ((HF.out.below S_w4).more S_w4.size)
    have HC := Lib.hid ((HC.out.below S_w4).more S_w4.size)
    have z_w4 := S_w4.size
    have hv := Capacity_any n a b l A c cs (some ⟨Cb, 0, none⟩) n.toNat w4 HX.out hl63 HC.out e2
    rw [hC, HXL.out.2] at hv
    have HV2 := Lib.hid hv
    clear hv
    go_wp2_with fail
    refine (HV2.out).mono ?_
    rintro e w5 ⟨rfl, hb_w5⟩
    have S_w5 : Below w4.heap.size w4 w5 := (Below.refl _ w4).trans (hb_w5.mono (by (try simp) <;> omega))
    have HX := Lib.hid ((HX.out.below S_w5).more S_w5.size)
    have ba := Lib.hid (ba.out.trans (S_w5.mono ba.out.size))
    have HF := Lib.hid ((HF.out.below S_w5).more S_w5.size)
    have HC := Lib.hid ((HC.out.below S_w5).more S_w5.size)
    have z_w5 := S_w5.size
    clear hV hC
    go_wp2_with fail
    go_ret
    exact ⟨rfl, ba.out⟩
  · have S_w3 : Below w1.heap.size w1 w3 := (Below.refl _ w1).trans (hb_w3.mono (by (try simp) <;> omega))
    have HX := Lib.hid ((HX.out.below S_w3).more S_w3.size)
    have ba := Lib.hid (ba.out.trans (S_w3.mono ba.out.size))
    have z_w3 := S_w3.size
    have hways : chkN n l = 180 ∨ (chkN n l = 0 ∧ ((a == b) = true ∨ (a == b) = false ∧ (decide (a < 0) = true ∨ decide (a < 0) = false ∧ (decide (n ≤ a) = true ∨ decide (n ≤ a) = false ∧ (decide (b < 0) = true ∨ decide (b < 0) = false ∧ decide (n ≤ b) = true))))) := by
      unfold okX at hok
      unfold chkN
      cases ho : okN n l
      · left; rfl
      · right
        rw [ho] at hok
        simp [okV] at hok
        simp
        omega
    obtain ⟨K, hK⟩ : ∃ K, K = chkN n l := ⟨_, rfl⟩
    rw [← hK] at hways
    clear hok
    go_wp2_with fail
    refine (Check_any n l A c _ HX.out hl63).mono ?_
    rw [← hK]
    rintro e w4 ⟨rfl, hb_w4⟩
    have S_w4 : Below w3.heap.size w3 w4 := (Below.refl _ w3).trans (hb_w4.mono (by (try simp) <;> omega))
    have HX := Lib.hid ((HX.out.below S_w4).more S_w4.size)
    have ba := Lib.hid (ba.out.trans (S_w4.mono ba.out.size))
    have z_w4 := S_w4.size
    clear hK
    rcases hways with rfl | ⟨rfl, g1 | ⟨g1, g2 | ⟨g2, g3 | ⟨g3, g4 | ⟨g4, g5⟩⟩⟩⟩⟩
    all_goals
      go_wp2_with fail
      go_ret
      exact ⟨rfl, ba.out⟩

set_option maxRecDepth 100000 in
set_option maxHeartbeats 8000000 in
theorem FlowLeast_walk (n a b : Int) (hn64 : -9223372036854775808 ≤ n ∧ n ≤ 9223372036854775807) (l : List Ed) (A : Option Addr) (c : Nat) (w : World) (hx : Reads w w.heap.size A 3 Ed.enc l) (hlc : l.length ≤ c) (hc : c ≤ maxLen) (hnil : A = none → c = 0) (cs : List Bool) (E : Option Addr) (e : Nat) (hz : Reads w w.heap.size E 1 boolE cs) (hc63 : cs.length ≤ 9223372036854775807) :
    Calls Try.prog 7 #[.int .i64 n, .slice A l.length c, .int .i64 a, .int .i64 b, .slice E cs.length e] w fun e w' => e = .returned (.bool true) ∧ Below w.heap.size w w' := by
  have HX := Lib.hid hx
  have hl63 : l.length ≤ 9223372036854775807 := by unfold maxLen at hc; omega
  have HC := Lib.hid hz
  clear hx hz
  go_enter Try.func7, Try.ntmps7
  go_wp2_with fail
  refine (sane_any _).mono ?_
  rintro e w1 ⟨rfl, hb_w1⟩
  have ba := Lib.hid hb_w1
  have S_w1 : Below w.heap.size w w1 := (Below.refl _ w).trans (hb_w1.mono (by (try simp) <;> omega))
  have HX := Lib.hid ((HX.out.below S_w1).more S_w1.size)
  have HC := Lib.hid ((HC.out.below S_w1).more S_w1.size)
  have z_w1 := S_w1.size
  go_wp2_with fail
  refine (Few_any n l A c _).mono ?_
  rintro e w2 ⟨rfl, rfl⟩
  obtain ⟨bf, hbf⟩ : ∃ q, q = fewN n l := ⟨_, rfl⟩
  rw [← hbf]
  clear hbf
  cases bf
  · go_wp2_with fail
    go_ret
    exact ⟨rfl, ba.out⟩
  by_cases hlongc : cs.length ≤ 80
  rotate_left
  · have qc : decide ((80 : Int) < (cs.length : Int)) = true := by simp; omega
    clear hlongc
    go_wp2_with fail
    go_ret
    exact ⟨rfl, ba.out⟩
  have qc : decide ((80 : Int) < (cs.length : Int)) = false := by simp; omega
  go_wp2_with fail
  refine (Max_any n a b hn64 l A c _ HX.out hlc hc hnil).mono ?_
  obtain ⟨⟨C, CE⟩, hC⟩ : ∃ q, q = capF n a b l cs := ⟨_, rfl⟩
  rintro e w3 ⟨⟨hok, Fb, Cb, xs, ds, cf, rfl, hmax, hxl, hcut, hrx, hrc⟩ | ⟨hok, rfl⟩, hb_w3⟩
  · have S_w3 : Below w1.heap.size w1 w3 := (Below.refl _ w1).trans (hb_w3.mono (by (try simp) <;> omega))
    have HX := Lib.hid ((HX.out.below S_w3).more S_w3.size)
    have HC := Lib.hid ((HC.out.below S_w3).more S_w3.size)
    have ba := Lib.hid (ba.out.trans (S_w3.mono ba.out.size))
    have z_w3 := S_w3.size
    have HD := Lib.hid (hrc)
    obtain ⟨hn2, hn3, _, _, ha0, ha1, hb0, hb1, hab⟩ := okX_out hok
    have e2 : ds.length ≤ 9223372036854775807 := by have := hcut.1; omega
    have hlw := least_law (ds := cs) hok hmax hcut
    have hcl := hcut.1
    rw [← hcl]
    have HLW := Lib.hid hlw
    clear hrx hrc hmax hcut hxl hcl hok hlw
    go_wp2_with fail
    refine (Capacity_any n a b l A c cs E _ _ HX.out hl63 HC.out hc63).mono ?_
    rw [← hC]
    rintro e w4 ⟨rfl, hb_w4⟩
    have S_w4 : Below w3.heap.size w3 w4 := (Below.refl _ w3).trans (hb_w4.mono (by (try simp) <;> omega))
    have HX := Lib.hid ((HX.out.below S_w4).more S_w4.size)
    have HC := Lib.hid ((HC.out.below S_w4).more S_w4.size)
    have ba := Lib.hid (ba.out.trans (S_w4.mono ba.out.size))
    have HD := Lib.hid ((HD.out.below S_w4).more S_w4.size)
    have z_w4 := S_w4.size
    rcases HLW.out with h | ⟨V, W, h1, h2, hle, hll, hsub⟩
    · rw [← hC] at h
      simp only [Prod.mk.injEq] at h
      obtain ⟨rfl, rfl⟩ := h
      clear hC
      go_wp2_with fail
      go_ret
      exact ⟨rfl, ba.out⟩
    rw [← hC] at h2
    simp only [Prod.mk.injEq] at h2
    obtain ⟨rfl, rfl⟩ := h2
    have HSUB := Lib.hid hsub
    have HLL := Lib.hid hll
    clear hsub hC hll
    go_wp2_with fail
    refine (Capacity_any n a b l A c ds (some ⟨Cb, 0, none⟩) ds.length _ HX.out hl63 HD.out e2).mono ?_
    rw [h1]
    rintro e w5 ⟨rfl, hb_w5⟩
    have S_w5 : Below w4.heap.size w4 w5 := (Below.refl _ w4).trans (hb_w5.mono (by (try simp) <;> omega))
    have HX := Lib.hid ((HX.out.below S_w5).more S_w5.size)
    have HC := Lib.hid ((HC.out.below S_w5).more S_w5.size)
    have ba := Lib.hid (ba.out.trans (S_w5.mono ba.out.size))
    have HD := Lib.hid ((HD.out.below S_w5).more S_w5.size)
    have z_w5 := S_w5.size
    clear h1
    have g1 : decide (C < V) = false := by simp; omega
    have g2 : ((ds.length : Int) != (cs.length : Int)) = false := by simp [HLL.out]
    by_cases hgt : V < C
    · have g3 : decide (V < C) = true := by simpa using hgt
      go_wp2_with fail
      go_ret
      exact ⟨rfl, ba.out⟩
    have g3 : decide (V < C) = false := by simpa using hgt
    have HEQ : Hid (C = V) := Lib.hid (by omega)
    go_wp2_with fail
    go_loopw [82] (fun i wr => Below w5.heap.size w5 wr ∧ ∃ k : Nat, k ≤ ds.length ∧ i = .int .i64 k) (fun i _ => ds.length - (intOf i).toNat)
    case atStart => exact ⟨Below.refl _ _, 0, Nat.zero_le _, rfl⟩
    case round =>
      obtain ⟨hB, k, hk, rfl⟩ := hrel
      have HB := Lib.hid hB
      by_cases hlt : k < ds.length
      · have hlt2 : k < cs.length := by rw [← HLL.out]; exact hlt
        obtain ⟨db, doff, x, hda, hdl, hxk, hdc⟩ := (HD.out.below hB).at_ hlt
        simp only [Option.some.injEq, Addr.mk.injEq] at hda
        obtain ⟨rfl, rfl, _⟩ := hda
        obtain ⟨eb, eoff, y, rfl, hel, hyk, hec⟩ := (HC.out.below hB).at_ hlt2
        have d0 := hdc 0 _ rfl
        have e0 := hec 0 _ rfl
        simp only [Nat.add_zero, Nat.mul_one, Nat.zero_add] at d0 e0
        have z1 : Cb < wr.heap.size := by have := hB.size; omega
        have z2 : eb < wr.heap.size := by have := hB.size; omega
        have HXY : Hid (x = true → y = true) := Lib.hid (fun hx => by
          have := HSUB.out HEQ.out k (by rw [hxk, hx])
          rw [hyk] at this
          injection this)
        clear hdc hec hxk hyk hB
        cases x
        · go_wp2_with fail
          go_roundw
          case rel => exact ⟨HB.out, k + 1, by omega, by go_num⟩
          case measure => simp [intOf]; omega
        · obtain rfl : y = true := HXY.out rfl
          go_wp2_with fail
          go_roundw
          case rel => exact ⟨HB.out, k + 1, by omega, by go_num⟩
          case measure => simp [intOf]; omega
      · obtain rfl : k = ds.length := by omega
        clear hB
        go_wp2_with fail
        go_ret
        exact ⟨rfl, ba.out.trans (HB.out.mono ba.out.size)⟩
  · have S_w3 : Below w1.heap.size w1 w3 := (Below.refl _ w1).trans (hb_w3.mono (by (try simp) <;> omega))
    have HX := Lib.hid ((HX.out.below S_w3).more S_w3.size)
    have HC := Lib.hid ((HC.out.below S_w3).more S_w3.size)
    have ba := Lib.hid (ba.out.trans (S_w3.mono ba.out.size))
    have z_w3 := S_w3.size
    go_wp2_with fail
    refine (Capacity_any n a b l A c cs E _ _ HX.out hl63 HC.out hc63).mono ?_
    rw [← hC]
    rintro e w4 ⟨rfl, hb_w4⟩
    have S_w4 : Below w3.heap.size w3 w4 := (Below.refl _ w3).trans (hb_w4.mono (by (try simp) <;> omega))
    have HX := Lib.hid ((HX.out.below S_w4).more S_w4.size)
    have HC := Lib.hid ((HC.out.below S_w4).more S_w4.size)
    have ba := Lib.hid (ba.out.trans (S_w4.mono ba.out.size))
    have z_w4 := S_w4.size
    clear hC hok
    go_wp2_with fail
    go_ret
    exact ⟨rfl, ba.out⟩

theorem FlowCheckSpec_any {w : World} (n : Int) (hn : (Lit.int .i64 n).wf = true) (l : List Ed) (A : Option Addr) (c : Nat) (hx : Reads w w.heap.size A 3 Ed.enc l) (hq : ∀ y ∈ l, y.ok) (hlc : l.length ≤ c) (hc : c ≤ maxLen) (hnil : A = none → c = 0) (a : Int) (ha : (Lit.int .i64 a).wf = true) (b : Int) (hb : (Lit.int .i64 b).wf = true) (fs : List Int) (D : Option Addr) (d : Nat) (hy : Reads w w.heap.size D 1 In.enc fs) (hqf : ∀ y ∈ fs, In.ok y) (hf63 : fs.length ≤ maxLen) (cs : List Bool) (E : Option Addr) (e : Nat) (hz : Reads w w.heap.size E 1 Bo.enc cs) (hqc : ∀ y ∈ cs, Bo.ok y) (hc63 : cs.length ≤ maxLen) :
    Calls Try.prog 3 #[.int .i64 n, .slice A l.length c, .int .i64 a, .int .i64 b, .slice D fs.length d, .slice E cs.length e] w fun e w' => e = .returned (.bool true) ∧ Below w.heap.size w w' :=
  FlowCheckSpec_walk n a b (by have := Go.bounds_i64 hn; omega) l A c w hx hlc hc hnil fs D d hy (by unfold maxLen at hf63; omega) cs E e hz (by unfold maxLen at hc63; omega)
theorem FlowWeak_any {w : World} (n : Int) (hn : (Lit.int .i64 n).wf = true) (l : List Ed) (A : Option Addr) (c : Nat) (hx : Reads w w.heap.size A 3 Ed.enc l) (hq : ∀ y ∈ l, y.ok) (hlc : l.length ≤ c) (hc : c ≤ maxLen) (hnil : A = none → c = 0) (a : Int) (ha : (Lit.int .i64 a).wf = true) (b : Int) (hb : (Lit.int .i64 b).wf = true) (fs : List Int) (D : Option Addr) (d : Nat) (hy : Reads w w.heap.size D 1 In.enc fs) (hqf : ∀ y ∈ fs, In.ok y) (hf63 : fs.length ≤ maxLen) (cs : List Bool) (E : Option Addr) (e : Nat) (hz : Reads w w.heap.size E 1 Bo.enc cs) (hqc : ∀ y ∈ cs, Bo.ok y) (hc63 : cs.length ≤ maxLen) :
    Calls Try.prog 6 #[.int .i64 n, .slice A l.length c, .int .i64 a, .int .i64 b, .slice D fs.length d, .slice E cs.length e] w fun e w' => e = .returned (.bool true) ∧ Below w.heap.size w w' :=
  FlowWeak_walk n a b (by have := Go.bounds_i64 hn; omega) l A c w hx hlc hc hnil fs D d hy (by unfold maxLen at hf63; omega) cs E e hz (by unfold maxLen at hc63; omega)
theorem FlowDual_any {w : World} (n : Int) (hn : (Lit.int .i64 n).wf = true) (l : List Ed) (A : Option Addr) (c : Nat) (hx : Reads w w.heap.size A 3 Ed.enc l) (hq : ∀ y ∈ l, y.ok) (hlc : l.length ≤ c) (hc : c ≤ maxLen) (hnil : A = none → c = 0) (a : Int) (ha : (Lit.int .i64 a).wf = true) (b : Int) (hb : (Lit.int .i64 b).wf = true) :
    Calls Try.prog 5 #[.int .i64 n, .slice A l.length c, .int .i64 a, .int .i64 b] w fun e w' => e = .returned (.bool true) ∧ Below w.heap.size w w' :=
  FlowDual_walk n a b (by have := Go.bounds_i64 hn; omega) l A c w hx hlc hc hnil
theorem FlowLeast_any {w : World} (n : Int) (hn : (Lit.int .i64 n).wf = true) (l : List Ed) (A : Option Addr) (c : Nat) (hx : Reads w w.heap.size A 3 Ed.enc l) (hq : ∀ y ∈ l, y.ok) (hlc : l.length ≤ c) (hc : c ≤ maxLen) (hnil : A = none → c = 0) (a : Int) (ha : (Lit.int .i64 a).wf = true) (b : Int) (hb : (Lit.int .i64 b).wf = true) (cs : List Bool) (E : Option Addr) (e : Nat) (hz : Reads w w.heap.size E 1 Bo.enc cs) (hqc : ∀ y ∈ cs, Bo.ok y) (hc63 : cs.length ≤ maxLen) :
    Calls Try.prog 7 #[.int .i64 n, .slice A l.length c, .int .i64 a, .int .i64 b, .slice E cs.length e] w fun e w' => e = .returned (.bool true) ∧ Below w.heap.size w w' :=
  FlowLeast_walk n a b (by have := Go.bounds_i64 hn; omega) l A c w hx hlc hc hnil cs E e hz (by unfold maxLen at hc63; omega)
end Go.Proofs.Ytjpnbpfbdkbknaa
