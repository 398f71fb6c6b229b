/- holds: do the halves of four sectors begin with some bytes? -/
import Derived.Test.YtebbmplbpgilaaaDskW
namespace Go.Proofs.Ytebbmplbpgilaaa
open Go.RowKit Go.Shelf
set_option linter.unusedSimpArgs false
set_option linter.unusedVariables false

/-- an array of four bytes, in a box -/
def Ar4 (W : World) (b : Nat) (f0 f1 f2 f3 : Int) : Prop := (∀ k : Nat, k < 4 → W.cell? ⟨b, k, none⟩ = some (.int .u8 ([f0, f1, f2, f3].getD k 0))) ∧ b < W.heap.size
theorem Ar4.step {W W' : World} {b : Nat} {f0 f1 f2 f3 : Int} (h : Ar4 W b f0 f1 f2 f3) (hb : Below W.heap.size W W') : Ar4 W' b f0 f1 f2 f3 :=
  ⟨fun k hk => (hb.cell (p := ⟨b, k, none⟩) h.2).trans (h.1 k hk), Nat.lt_of_lt_of_le h.2 hb.size⟩
theorem Ar4.of_box {W : World} {b : Nat} {f0 f1 f2 f3 : Int} (h : Box4 W b (.int .u8 f0) (.int .u8 f1) (.int .u8 f2) (.int .u8 f3)) : Ar4 W b f0 f1 f2 f3 :=
  ⟨fun k hk => by
    match k, hk with
    | 0, _ => exact h.c0
    | 1, _ => exact h.c1
    | 2, _ => exact h.c2
    | 3, _ => exact h.c3, h.z⟩
set_option maxRecDepth 100000 in
set_option maxHeartbeats 4000000 in
theorem holds_any {P : Nat → Prop} (d : Dk) (sv pv : Sl) (f0 f1 f2 f3 s0 s1 s2 s3 : Int) (w : World) (hd : Di w P sv pv d)
    (hr : ∀ k : Nat, k < 4 → readD d k = (hsL ([f0, f1, f2, f3].getD k 0) ([s0, s1, s2, s3].getD k 0), 0)) :
    Calls Try.prog 28 #[dkV sv pv d, .agg #[.int .u8 f0, .int .u8 f1, .int .u8 f2, .int .u8 f3], .agg #[.int .u8 s0, .int .u8 s1, .int .u8 s2, .int .u8 s3]] w fun e w' => e = .returned (.bool true) ∧ Below w.heap.size w w' := by
  have HD0 := Lib.hid hd
  have HR := Lib.hid hr
  obtain ⟨sa, sn, sc⟩ := sv
  obtain ⟨pa, pn, pc⟩ := pv
  obtain ⟨ss, pend, left, st⟩ := d
  simp only [dkV]
  clear hd hr
  go_enter Try.func28, Try.ntmps28
  go_wp2_with fail
  obtain ⟨W0, hW0⟩ : ∃ W, W = ((w.alloc (.cells #[.slice sa sn sc, .slice pa pn pc, .int .i64 left, .bool st] 25)).alloc (.cells #[.int .u8 f0, .int .u8 f1, .int .u8 f2, .int .u8 f3] 44)).alloc (.cells #[.int .u8 s0, .int .u8 s1, .int .u8 s2, .int .u8 s3] 44) := ⟨_, rfl⟩
  have b0 : Below w.heap.size w W0 := by rw [hW0]; exact (((Below.refl _ _).alloc (Nat.le_refl _) _).alloc (by simp) _).alloc (by simp; omega) _
  have x0 : Box4 W0 w.heap.size (.slice sa sn sc) (.slice pa pn pc) (.int .i64 left) (.bool st) := by rw [hW0]; exact ((Box4.new ..).step ((Below.refl _ _).alloc (Nat.le_refl _) _)).step ((Below.refl _ _).alloc (Nat.le_refl _) _)
  have xf : Ar4 W0 (w.heap.size + 1) f0 f1 f2 f3 := by rw [hW0]; exact Ar4.of_box ((Box4.at_ (w.alloc _) _ _ _ _ _ _ (by simp)).step ((Below.refl _ _).alloc (Nat.le_refl _) _))
  have xs : Ar4 W0 (w.heap.size + 1 + 1) s0 s1 s2 s3 := by rw [hW0]; exact Ar4.of_box (Box4.at_ _ _ _ _ _ _ _ (by simp))
  rw [← hW0]
  clear hW0
  have HX0 := Lib.hid x0
  have HF := Lib.hid xf
  have HS := Lib.hid xs
  have HB := Lib.hid b0
  have HD := Lib.hid (HD0.out.step b0)
  clear x0 xf xs b0
  go_loopw [7] (fun i wr => ∃ k : Nat, k ≤ 4 ∧ i = .int .i64 k ∧ Below W0.heap.size W0 wr) (fun i _ => 4 - (intOf i).toNat)
  case atStart => exact ⟨0, by omega, rfl, Below.refl _ _⟩
  case round =>
    obtain ⟨k, hk, rfl, hB⟩ := hrel
    have HX := Lib.hid (HX0.out.step hB)
    have HFr := Lib.hid (HF.out.step hB)
    have HSr := Lib.hid (HS.out.step hB)
    have HDr := Lib.hid (HD.out.step hB)
    have HBr := Lib.hid hB
    clear hB
    by_cases hlt : k < 4
    · have hlt2 : decide (k < 4) = true := by simpa using hlt
      have hlt3 : decide ((k : Int) < 4) = true := by simp; omega
      obtain ⟨q0, q1, q2, q3, q4, q5, q6, q7, q8⟩ := HX.out
      have hRd := Lib.hid (Read_any (P := P) ⟨ss, pend, left, st⟩ ⟨sa, sn, sc⟩ ⟨pa, pn, pc⟩ (k : Int) wr HDr.out)
      rw [HR.out k hlt] at hRd
      simp only [dkV] at hRd
      obtain ⟨fk, hfk⟩ : ∃ x, x = [f0, f1, f2, f3].getD k 0 := ⟨_, rfl⟩
      obtain ⟨sk, hsk⟩ : ∃ x, x = [s0, s1, s2, s3].getD k 0 := ⟨_, rfl⟩
      rw [← hfk, ← hsk] at hRd
      have g0 := HFr.out.1 k hlt
      have g1 := HSr.out.1 k hlt
      rw [← hfk] at g0
      rw [← hsk] at g1
      have z0 := HFr.out.2
      have z1 := HSr.out.2
      clear hfk hsk
      go_wp2_with fail
      refine hRd.out.mono ?_
      rintro e w2 ⟨⟨v, rfl, hv⟩, hb2⟩
      have HB2 := Lib.hid (HBr.out.trans (hb2.mono HBr.out.size))
      have g0 := (hb2.cell (p := ⟨w.heap.size + 1, k, none⟩) z0).trans g0
      have g1 := (hb2.cell (p := ⟨w.heap.size + 1 + 1, k, none⟩) z1).trans g1
      have z2 := hb2.size
      have z0' : w.heap.size + 1 < w2.heap.size := by omega
      have z1' : w.heap.size + 1 + 1 < w2.heap.size := by omega
      obtain ⟨va, vn, vc⟩ := v
      have hvn := hv.1.1
      simp only at hvn
      obtain rfl : vn = 128 := by rw [hvn]; exact hsL_len _ _
      obtain ⟨bv, ov, hve, hbv, hcv⟩ := hv.1.reads (by rw [hsL_len]; decide)
      simp only at hve
      subst hve
      clear hvn
      have c0 := hcv 0 _ 0 _ (hsL_0 fk sk) rfl
      have c1 := hcv 1 _ 0 _ (hsL_1 fk sk) rfl
      have c64 := hcv 64 _ 0 _ (hsL_64 fk sk) rfl
      have c127 := hcv 127 _ 0 _ (hsL_127 fk sk) rfl
      simp only [Nat.zero_mul, Nat.mul_one, Nat.add_zero] at c0 c1 c64 c127
      clear q0 q1 q2 q3 q4 q5 q6 q7 q8 hRd hb2 hv hcv z0 z1
      go_wp2_with fail
      go_quiet (fail)
      go_wp2_with fail
      go_roundw
      case rel => exact ⟨k + 1, by omega, by go_num, below_drewN HB2.out _⟩
      case measure => simp [intOf]; omega
    · obtain rfl : k = 4 := by omega
      go_wp2_with fail
      go_ret
      exact ⟨rfl, HB.out.trans (HBr.out.mono HB.out.size)⟩
end Go.Proofs.Ytebbmplbpgilaaa
