/- The chapter's examples. -/
import Derived.Test.YtjpnbpfbdkbknaaFlowL
namespace Go.Proofs.Ytjpnbpfbdkbknaa
open Go.RowKit Go.Shelf
set_option linter.unusedSimpArgs false
set_option linter.unusedVariables false

def exL : List Ed := [⟨0, 1, 3⟩, ⟨1, 2, 2⟩]
theorem ex_max {xs : List Int} {cs : List Bool} {c : Int → Bool} (hl : xs.length = 2) (h : MaxR 3 exL 0 2 xs c) (hc : CutOk 3 cs c) : xs = [2, 2] ∧ cs = [true, true, false] := by
  have hin : InN 3 exL := okX_inn (n := 3) (l := exL) (a := 0) (b := 2) (by decide +kernel)
  have hd := h.dual hin (by decide) (by decide)
  obtain ⟨⟨hb, hv⟩, ⟨h0, h2⟩, _⟩ := h
  match xs, hl with
  | [x, y], _ =>
    obtain ⟨a1, a2, a3, a4, _⟩ := hb
    have h1 := hv 1 (by decide) (by decide) (by decide) (by decide)
    simp [exL, outE] at h1 a2 a4
    simp [exL, outE, cutE, h0, h2] at hd
    obtain ⟨hcl, hca⟩ := hc
    match cs, hcl with
    | [p, q, r], _ =>
      have e0 := hca 0 (by decide)
      have e1 := hca 1 (by decide)
      have e2 := hca 2 (by decide)
      simp at e0 e1 e2
      rw [h0] at e0
      rw [h2] at e2
      subst e0 e1 e2
      cases hc1 : c 1
      · simp [hc1] at hd
        omega
      · simp [hc1] at hd
        have : x = 2 := by omega
        have : y = 2 := by omega
        subst x y
        simp
theorem ex_nil {xs : List Int} {cs : List Bool} {c : Int → Bool} (hl : xs.length = 0) (h : MaxR 2 [] 0 1 xs c) (hc : CutOk 2 cs c) : xs = [] ∧ cs = [true, false] := by
  obtain ⟨_, ⟨h0, h2⟩, _⟩ := h
  obtain ⟨hcl, hca⟩ := hc
  refine ⟨List.eq_nil_of_length_eq_zero hl, ?_⟩
  match cs, hcl with
  | [p, q], _ =>
    have e0 := hca 0 (by decide)
    have e1 := hca 1 (by decide)
    simp at e0 e1
    rw [h0] at e0
    rw [h2] at e1
    subst e0 e1
    rfl
theorem reads_lit {α : Type} (w : World) (sz : Nat) (enc : α → List Value) (xs : List α) (cs : Array Value) (t : TypeId) (hen : ∀ y, (enc y).length = sz) (hcs : cs.toList = xs.flatMap enc) :
    Reads (w.alloc (.cells cs t)) (w.alloc (.cells cs t)).heap.size (some ⟨w.heap.size, 0, none⟩) sz enc xs := by
  have h := reads_new w sz enc xs cs t (fun i x j v hi hj => by
    rw [← Array.getElem?_toList, hcs]
    exact flat_get hen xs i x j v hi hj)
  rwa [World.size_alloc]
theorem edE_len (y : Ed) : y.enc.length = 3 := rfl
theorem boolE_len (y : Bool) : (boolE y).length = 1 := rfl
theorem intE_len (y : Int) : (intE y).length = 1 := rfl
theorem reads_at0 {w : World} {B : Nat} {A : Option Addr} {x y : Int} (h : Reads w B A 1 intE [x, y]) : ∃ b off, A = some ⟨b, off, none⟩ ∧ w.cell? ⟨b, off, none⟩ = some (.int .i64 x) ∧ w.cell? ⟨b, off + 1, none⟩ = some (.int .i64 y) ∧ b < B := by
  obtain ⟨b, off, e, hb, hc⟩ := h (by simp)
  exact ⟨b, off, e, by simpa using hc 0 x 0 _ rfl rfl, by simpa using hc 1 y 0 _ rfl rfl, hb⟩

theorem v_1 : valueF 3 0 2 exL [2, 2] = (2, 0) := by decide +kernel
theorem v_2 : valueF 3 0 2 exL [1, 1, 0] = (0, 180) := by decide +kernel
theorem c_1 : capF 2 0 1 [⟨1, 0, 5⟩] [true, false] = (0, 0) := by decide +kernel
theorem k_1 : chkN 1 [] = 180 := by decide +kernel
theorem k_2 : chkN 2 [⟨1, 1, 0⟩] = 180 := by decide +kernel
theorem o_1 : okX 3 exL 0 2 = true := by decide +kernel
theorem o_2 : okX 2 [] 0 1 = true := by decide +kernel
theorem o_3 : okX 2 [] 0 0 = false := by decide +kernel

set_option maxRecDepth 100000 in
set_option maxHeartbeats 8000000 in
theorem sane_any (w : World) : Calls Try.prog 11 #[] w fun e w' => e = .returned (.bool true) ∧ Below w.heap.size w w' := by
  go_enter Try.func11, Try.ntmps11
  go_wp2_with fail
  obtain ⟨W0, hW0⟩ : ∃ X, X = w.alloc (.cells #[.int .i64 0, .int .i64 1, .int .i64 3, .int .i64 1, .int .i64 2, .int .i64 2] 39) := ⟨_, rfl⟩
  obtain ⟨lb, hlb⟩ : ∃ q, q = w.heap.size := ⟨_, rfl⟩
  have r0 : Reads W0 W0.heap.size (some ⟨lb, 0, none⟩) 3 Ed.enc exL := by rw [hW0, hlb]; exact reads_lit w 3 Ed.enc exL _ _ edE_len rfl
  have b0 : Below w.heap.size w W0 := by rw [hW0]; exact (Below.refl _ _).alloc (Nat.le_refl _) _
  rw [← hlb, ← hW0]
  clear hW0 hlb
  have HRL := Lib.hid (r0)
  have ba := Lib.hid b0
  clear r0 b0
  have M1 := Lib.hid (Max_any 3 0 2 (by decide) exL (some ⟨lb, 0, none⟩) 2 W0 HRL.out (by decide) (by decide) (by simp))
  refine (M1.out).mono ?_
  rintro e w1 ⟨⟨_, F, C, xs, cs, ct, rfl, hmax, hxl, hcut, hrx, hrc⟩ | ⟨hno, _⟩, hb_w1⟩
  rotate_left
  · exact absurd hno (by rw [o_1]; decide)
  obtain ⟨rfl, rfl⟩ := ex_max hxl hmax hcut
  have S_w1 : Below W0.heap.size W0 w1 := (Below.refl _ W0).trans (hb_w1.mono (by (try simp) <;> omega))
  have HRL := Lib.hid ((HRL.out.below S_w1).more S_w1.size)
  have ba := Lib.hid (ba.out.trans (S_w1.mono ba.out.size))
  have z_w1 := S_w1.size
  have HX := Lib.hid (hrx)
  have HC := Lib.hid (hrc)
  clear hrx hrc hmax hcut hxl M1
  go_wp2_with fail
  refine (Value_any 3 0 2 exL (some ⟨lb, 0, none⟩) 2 [2, 2] (some ⟨F, 0, none⟩) 2 _ HRL.out (by decide) HX.out (by decide)).mono ?_
  rw [v_1]
  rintro e w2 ⟨rfl, hb_w2⟩
  have S_w2 : Below w1.heap.size w1 w2 := (Below.refl _ w1).trans (hb_w2.mono (by (try simp) <;> omega))
  have HRL := Lib.hid ((HRL.out.below S_w2).more S_w2.size)
  have ba := Lib.hid (ba.out.trans (S_w2.mono ba.out.size))
  have HX := Lib.hid ((HX.out.below S_w2).more S_w2.size)
  have HC := Lib.hid ((HC.out.below S_w2).more S_w2.size)
  have z_w2 := S_w2.size
  go_wp2_with fail
  refine (Max_any 2 0 1 (by decide) [] none 0 _ Reads.nil_ (by decide) (by decide) (by simp)).mono ?_
  rintro e w3 ⟨⟨_, F2, C2, xs2, cs2, ct2, rfl, hmax, hxl, hcut, hrx, hrc⟩ | ⟨hno, _⟩, hb_w3⟩
  rotate_left
  · exact absurd hno (by rw [o_2]; decide)
  obtain ⟨rfl, rfl⟩ := ex_nil hxl hmax hcut
  have S_w3 : Below w2.heap.size w2 w3 := (Below.refl _ w2).trans (hb_w3.mono (by (try simp) <;> omega))
  have HRL := Lib.hid ((HRL.out.below S_w3).more S_w3.size)
  have ba := Lib.hid (ba.out.trans (S_w3.mono ba.out.size))
  have HX := Lib.hid ((HX.out.below S_w3).more S_w3.size)
  have HC := Lib.hid ((HC.out.below S_w3).more S_w3.size)
  have z_w3 := S_w3.size
  have HC2 := Lib.hid (hrc)
  clear hrx hrc hmax hcut hxl
  go_wp2_with fail
  refine (Max_any 2 0 0 (by decide) [] none 0 _ Reads.nil_ (by decide) (by decide) (by simp)).mono ?_
  rintro e w4 ⟨⟨hno, _⟩ | ⟨_, rfl⟩, hb_w4⟩
  · exact absurd hno (by rw [o_3]; decide)
  have S_w4 : Below w3.heap.size w3 w4 := (Below.refl _ w3).trans (hb_w4.mono (by (try simp) <;> omega))
  have HRL := Lib.hid ((HRL.out.below S_w4).more S_w4.size)
  have ba := Lib.hid (ba.out.trans (S_w4.mono ba.out.size))
  have HX := Lib.hid ((HX.out.below S_w4).more S_w4.size)
  have HC := Lib.hid ((HC.out.below S_w4).more S_w4.size)
  have HC2 := Lib.hid ((HC2.out.below S_w4).more S_w4.size)
  have z_w4 := S_w4.size
  go_wp2_with fail
  have rE : Reads (w4.alloc (.cells #[.int .i64 1, .int .i64 0, .int .i64 5] 39)) (w4.alloc (.cells #[.int .i64 1, .int .i64 0, .int .i64 5] 39)).heap.size (some ⟨w4.heap.size, 0, none⟩) 3 Ed.enc [⟨1, 0, 5⟩] := reads_lit w4 3 Ed.enc [⟨1, 0, 5⟩] _ _ edE_len rfl
  have rB := reads_lit (w4.alloc (.cells #[.int .i64 1, .int .i64 0, .int .i64 5] 39)) 1 boolE [true, false] #[.bool true, .bool false] 4 boolE_len rfl
  have rE2 := (rE.alloc (Nat.le_refl _) (.cells #[.bool true, .bool false] 4)).more (show (w4.alloc (.cells #[.int .i64 1, .int .i64 0, .int .i64 5] 39)).heap.size ≤ ((w4.alloc (.cells #[.int .i64 1, .int .i64 0, .int .i64 5] 39)).alloc (.cells #[.bool true, .bool false] 4)).heap.size by simp)
  rw [show (some (⟨(w4.alloc (.cells #[.int .i64 1, .int .i64 0, .int .i64 5] 39)).heap.size, 0, none⟩ : Addr)) = some ⟨w4.heap.size + 1, 0, none⟩ by rw [World.size_alloc]] at rB
  refine (Capacity_any 2 0 1 [⟨1, 0, 5⟩] (some ⟨w4.heap.size, 0, none⟩) 1 [true, false] (some ⟨w4.heap.size + 1, 0, none⟩) 2 _ rE2 (by decide) rB (by decide)).mono ?_
  rw [c_1]
  rintro e w5 ⟨rfl, hb_w5⟩
  clear rE rB rE2
  have S_w5 : Below w4.heap.size w4 w5 := (((Below.refl _ w4).alloc (by (try simp) <;> omega) _).alloc (by (try simp) <;> omega) _).trans (hb_w5.mono (by (try simp) <;> omega))
  have HRL := Lib.hid ((HRL.out.below S_w5).more S_w5.size)
  have ba := Lib.hid (ba.out.trans (S_w5.mono ba.out.size))
  have HX := Lib.hid ((HX.out.below S_w5).more S_w5.size)
  have HC := Lib.hid ((HC.out.below S_w5).more S_w5.size)
  have HC2 := Lib.hid ((HC2.out.below S_w5).more S_w5.size)
  have z_w5 := S_w5.size
  go_wp2_with fail
  have bi : Below w5.heap.size w5 (w5.alloc (.cells #[.int .i64 1, .int .i64 1, .int .i64 0] 3)) := (Below.refl _ _).alloc (Nat.le_refl _) _
  have rI := reads_lit w5 1 intE [1, 1, 0] #[.int .i64 1, .int .i64 1, .int .i64 0] 3 intE_len rfl
  refine (Value_any 3 0 2 exL (some ⟨lb, 0, none⟩) 2 [1, 1, 0] (some ⟨w5.heap.size, 0, none⟩) 3 _ ((HRL.out.below bi).more bi.size) (by decide) rI (by decide)).mono ?_
  rw [v_2]
  rintro e w6 ⟨rfl, hb_w6⟩
  clear rI bi
  have S_w6 : Below w5.heap.size w5 w6 := ((Below.refl _ w5).alloc (by (try simp) <;> omega) _).trans (hb_w6.mono (by (try simp) <;> omega))
  have HRL := Lib.hid ((HRL.out.below S_w6).more S_w6.size)
  have ba := Lib.hid (ba.out.trans (S_w6.mono ba.out.size))
  have HX := Lib.hid ((HX.out.below S_w6).more S_w6.size)
  have HC := Lib.hid ((HC.out.below S_w6).more S_w6.size)
  have HC2 := Lib.hid ((HC2.out.below S_w6).more S_w6.size)
  have z_w6 := S_w6.size
  obtain ⟨b, off, hfe, f0, f1, fb⟩ := reads_at0 HX.out
  simp only [Option.some.injEq, Addr.mk.injEq] at hfe
  obtain ⟨rfl, rfl, _⟩ := hfe
  simp only [Nat.zero_add] at f1
  go_wp2_with fail
  have bi : Below w6.heap.size w6 (w6.alloc (.cells #[.bool true, .bool true, .bool false] 4)) := (Below.refl _ _).alloc (Nat.le_refl _) _
  have rI := reads_lit w6 1 boolE [true, true, false] #[.bool true, .bool true, .bool false] 4 boolE_len rfl
  refine (SameCut_any [true, true, false] [true, true, false] (some ⟨C, 0, none⟩) (some ⟨w6.heap.size, 0, none⟩) 3 3 _ ((HC.out.below bi).more bi.size) rI (by decide)).mono ?_
  rintro e w7 ⟨rfl, hb_w7⟩
  clear rI bi f0 f1 fb
  have S_w7 : Below w6.heap.size w6 w7 := ((Below.refl _ w6).alloc (by (try simp) <;> omega) _).trans (hb_w7.mono (by (try simp) <;> omega))
  have HRL := Lib.hid ((HRL.out.below S_w7).more S_w7.size)
  have ba := Lib.hid (ba.out.trans (S_w7.mono ba.out.size))
  have HX := Lib.hid ((HX.out.below S_w7).more S_w7.size)
  have HC := Lib.hid ((HC.out.below S_w7).more S_w7.size)
  have HC2 := Lib.hid ((HC2.out.below S_w7).more S_w7.size)
  have z_w7 := S_w7.size
  go_wp2_with fail
  have bi : Below w7.heap.size w7 (w7.alloc (.cells #[.bool true, .bool false] 4)) := (Below.refl _ _).alloc (Nat.le_refl _) _
  have rI := reads_lit w7 1 boolE [true, false] #[.bool true, .bool false] 4 boolE_len rfl
  refine (SameCut_any [true, false] [true, false] (some ⟨C2, 0, none⟩) (some ⟨w7.heap.size, 0, none⟩) 2 2 _ ((HC2.out.below bi).more bi.size) rI (by decide)).mono ?_
  rintro e w8 ⟨rfl, hb_w8⟩
  clear rI bi
  have S_w8 : Below w7.heap.size w7 w8 := ((Below.refl _ w7).alloc (by (try simp) <;> omega) _).trans (hb_w8.mono (by (try simp) <;> omega))
  have HRL := Lib.hid ((HRL.out.below S_w8).more S_w8.size)
  have ba := Lib.hid (ba.out.trans (S_w8.mono ba.out.size))
  have HX := Lib.hid ((HX.out.below S_w8).more S_w8.size)
  have HC := Lib.hid ((HC.out.below S_w8).more S_w8.size)
  have HC2 := Lib.hid ((HC2.out.below S_w8).more S_w8.size)
  have z_w8 := S_w8.size
  go_wp2_with fail
  refine (Check_any 1 [] none 0 _ Reads.nil_ (by decide)).mono ?_
  rw [k_1]
  rintro e w9 ⟨rfl, hb_w9⟩
  have S_w9 : Below w8.heap.size w8 w9 := (Below.refl _ w8).trans (hb_w9.mono (by (try simp) <;> omega))
  have HRL := Lib.hid ((HRL.out.below S_w9).more S_w9.size)
  have ba := Lib.hid (ba.out.trans (S_w9.mono ba.out.size))
  have HX := Lib.hid ((HX.out.below S_w9).more S_w9.size)
  have HC := Lib.hid ((HC.out.below S_w9).more S_w9.size)
  have HC2 := Lib.hid ((HC2.out.below S_w9).more S_w9.size)
  have z_w9 := S_w9.size
  go_wp2_with fail
  have rI := reads_lit w9 3 Ed.enc [⟨1, 1, 0⟩] #[.int .i64 1, .int .i64 1, .int .i64 0] 39 edE_len rfl
  refine (Check_any 2 [⟨1, 1, 0⟩] (some ⟨w9.heap.size, 0, none⟩) 1 _ rI (by decide)).mono ?_
  rw [k_2]
  rintro e w10 ⟨rfl, hb_w10⟩
  clear rI
  have S_w10 : Below w9.heap.size w9 w10 := ((Below.refl _ w9).alloc (by (try simp) <;> omega) _).trans (hb_w10.mono (by (try simp) <;> omega))
  have HRL := Lib.hid ((HRL.out.below S_w10).more S_w10.size)
  have ba := Lib.hid (ba.out.trans (S_w10.mono ba.out.size))
  have HX := Lib.hid ((HX.out.below S_w10).more S_w10.size)
  have HC := Lib.hid ((HC.out.below S_w10).more S_w10.size)
  have HC2 := Lib.hid ((HC2.out.below S_w10).more S_w10.size)
  have z_w10 := S_w10.size
  go_wp2_with fail
  go_ret
  exact ⟨rfl, ba.out⟩
end Go.Proofs.Ytjpnbpfbdkbknaa
