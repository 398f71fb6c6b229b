/- StampsNextSpec, walked. -/
import Derived.Test.YtplfeelcijnkjaaStampsL1
import Derived.Test.YtplfeelcijnkjaaStampsR
import Derived.BigRegion
namespace Go.Proofs.Ytplfeelcijnkjaa
open Go.RowKit
set_option linter.unusedSimpArgs false
set_option linter.unusedVariables false

set_option maxHeartbeats 4000000 in
theorem StampsNextSpec_any {w : World} (last : St) (hl : last.ok) (seen : Int) (ws : (Lit.int .i64 seen).wf = true) (us : List St) (A : Option Addr) (c : Nat) (hx : Reads w w.heap.size A 3 St.enc us) (hq : ∀ y ∈ us, y.ok) (hlc : us.length ≤ c) (hmc : c ≤ maxLen)
    (vs : List St) (D : Option Addr) (d : Nat) (hy : Reads w w.heap.size D 3 St.enc vs) (hq2 : ∀ y ∈ vs, y.ok) (hld : vs.length ≤ d) (hmd : d ≤ maxLen) :
    Calls Try.prog 4 #[last.v, .int .i64 seen, .slice A us.length c, .slice D vs.length d] w fun e w' => e = .returned (.bool true) ∧ Below w.heap.size w w' := by
  clear hl ws hq hq2
  have HX := Lib.hid hx
  have HY := Lib.hid hy
  have HMC := Lib.hid hmc
  have HMD := Lib.hid hmd
  clear hx hy hmc hmd
  by_cases h1 : us.length ≤ 40
  · by_cases h2 : vs.length ≤ 40
    · have d1 : decide (us.length ≤ 40) = true := by simpa using h1
      have d2 : decide (vs.length ≤ 40) = true := by simpa using h2
      obtain ⟨⟨⟨st, sc, sn⟩, ne⟩, hn⟩ : ∃ r, r = nextS last seen := ⟨_, rfl⟩
      have HN := Lib.hid hn.symm
      obtain ⟨⟨ms, me⟩, hme⟩ : ∃ r, r = mergeP us vs := ⟨_, rfl⟩
      have HME := Lib.hid hme.symm
      clear hn hme
      unfold St.v
      go_enter Try.func4, Try.ntmps4
      go_wp2_with fail
      refine (sane_any _).mono ?_
      rintro e w1 ⟨rfl, hb1⟩
      have G1 := hb1.mono (B' := w.heap.size + 1) (by simp)
      have z1 : w.heap.size + 1 ≤ w1.heap.size := by have := hb1.size; simpa using this
      clear hb1
      go_wp2_with fail
      refine (few_any us A c _).mono ?_
      rw [d1]
      rintro e w2 ⟨rfl, rfl⟩
      go_wp2_with fail
      refine (few_any vs D d _).mono ?_
      rw [d2]
      rintro e w2 ⟨rfl, rfl⟩
      obtain ⟨_, cl, fl, r0, _⟩ := below_new G1
      have a0 := cl 0
      have a1 := cl 1
      have a2 := cl 2
      simp at a0 a1 a2
      go_wp2_with fail
      refine (Next_any last seen _).mono ?_
      rw [HN.out]
      simp only [St.v]
      rintro e w2 ⟨rfl, hb2⟩
      have G2 := G1.trans (hb2.mono z1)
      have z2 : w.heap.size + 1 ≤ w2.heap.size := Nat.le_trans z1 hb2.size
      clear hb2 a0 a1 a2 cl fl
      obtain ⟨_, cl, fl, r0, _⟩ := below_new G2
      have a0 := cl 0
      have a1 := cl 1
      have a2 := cl 2
      simp at a0 a1 a2
      clear cl fl
      go_wp2_with fail
      refine (RNext_any last seen _).mono ?_
      rw [HN.out]
      simp only [St.v]
      rintro e w3 ⟨rfl, hb3⟩
      have F3 : Below (w2.heap.size + 1) _ w3 := hb3.mono (by simp)
      have z3 : w2.heap.size + 1 ≤ w3.heap.size := by have := hb3.size; simpa using this
      have G3 := (G2.alloc z2 (.cells #[.int .i64 st, .int .i64 sc, .int .i64 sn] 23)).trans (hb3.mono (by simp; omega))
      clear hb3
      go_wp2_with fail
      have B4 := (G3.alloc (by omega) (.cells #[.int .i64 st, .int .i64 sc, .int .i64 sn] 23))
      have B4w : Below w.heap.size w (w3.alloc (.cells #[.int .i64 st, .int .i64 sc, .int .i64 sn] 23)) := ((Below.refl _ _).alloc (Nat.le_refl _) _).trans (B4.mono (by omega))
      refine (Merge_any us vs A D c d _ ((HX.out.below B4w).more B4w.size) ((HY.out.below B4w).more B4w.size) hlc hld HMC.out HMD.out (by omega)).mono ?_
      rw [HME.out]
      rintro e w5 ⟨⟨vl, rfl, ho5⟩, hb5⟩
      obtain ⟨Al, cl, rfl, _, hml⟩ := ho5.shape
      have G5w := B4w.trans (hb5.mono B4w.size)
      have F5 : Below (w3.heap.size + 1) _ w5 := hb5.mono (by simp)
      have z5 : w3.heap.size + 1 ≤ w5.heap.size := by have := hb5.size; simpa using this
      have HO5 := Lib.hid ho5
      clear hb5 ho5 B4 B4w
      go_wp2_with fail
      refine (RMerge_any us vs A D c d _ ((HX.out.below G5w).more G5w.size) ((HY.out.below G5w).more G5w.size) (by omega)).mono ?_
      rw [HME.out]
      rintro e w6 ⟨⟨vm, rfl, ho6⟩, hb6⟩
      obtain ⟨Am, cm, rfl, _, _⟩ := ho6.shape
      have G6w := G5w.trans (hb6.mono G5w.size)
      have F6 := F5.trans (hb6.mono z5)
      have z6 := hb6.size
      have K6 := (F3.alloc z3 (.cells #[.int .i64 st, .int .i64 sc, .int .i64 sn] 23)).trans (F6.mono (by omega))
      obtain ⟨_, cs, fs, hls, _⟩ := below_new K6
      obtain ⟨_, ct, ft, hlt, _⟩ := below_new F6
      have s0 := cs 0
      have s1 := cs 1
      have s2 := cs 2
      have t0 := ct 0
      have t1 := ct 1
      have t2 := ct 2
      simp at s0 s1 s2 t0 t1 t2
      have ho56 := HO5.out.below hb6 (Nat.le_refl _)
      have HA := Lib.hid (ho56.reads St.enc_len)
      have HB := Lib.hid (ho6.reads St.enc_len)
      clear cs fs ct ft K6 F6 F5 F3 G3 G2 G1 hb6 ho6 ho56 HO5
      unfold maxLen at hml
      go_wp2_with fail
      refine (Same_any ms ms Al Am cl cm _ HA.out HB.out (by omega)).mono ?_
      rintro e w7 ⟨rfl, hw7⟩
      go_wp2_with fail
      go_ret
      exact ⟨ret_bool (by simp), G6w.trans (hw7.mono G6w.size)⟩
    · have d1 : decide (us.length ≤ 40) = true := by simpa using h1
      have d2 : decide (vs.length ≤ 40) = false := by simpa using h2
      clear h1 h2
      unfold St.v
      go_enter Try.func4, Try.ntmps4
      go_wp2_with fail
      refine (sane_any _).mono ?_
      rintro e w1 ⟨rfl, hb1⟩
      go_wp2_with fail
      refine (few_any us A c _).mono ?_
      rw [d1]
      rintro e w2 ⟨rfl, rfl⟩
      go_wp2_with fail
      refine (few_any vs D d _).mono ?_
      rw [d2]
      rintro e w2 ⟨rfl, rfl⟩
      go_wp2_with fail
      go_ret
      exact ⟨rfl, ((Below.refl _ _).alloc (Nat.le_refl _) _).trans (hb1.mono (by simp))⟩
  · have d1 : decide (us.length ≤ 40) = false := by simpa using h1
    clear h1
    unfold St.v
    go_enter Try.func4, Try.ntmps4
    go_wp2_with fail
    refine (sane_any _).mono ?_
    rintro e w1 ⟨rfl, hb1⟩
    go_wp2_with fail
    refine (few_any us A c _).mono ?_
    rw [d1]
    rintro e w2 ⟨rfl, rfl⟩
    go_wp2_with fail
    go_ret
    exact ⟨rfl, ((Below.refl _ _).alloc (Nat.le_refl _) _).trans (hb1.mono (by simp))⟩
end Go.Proofs.Ytplfeelcijnkjaa
