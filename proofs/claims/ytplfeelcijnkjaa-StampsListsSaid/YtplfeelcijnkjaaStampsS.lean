/- The chapter's examples hold. -/
import Derived.Test.YtplfeelcijnkjaaStampsG
namespace Go.Proofs.Ytplfeelcijnkjaa
open Go.RowKit
set_option linter.unusedSimpArgs false
set_option linter.unusedVariables false

theorem reads_st (W : World) (l : List St) (cs : Array Value) (t : TypeId) (h : cs.toList = l.flatMap St.enc) : Reads (W.alloc (.cells cs t)) (W.heap.size + 1) (some ⟨W.heap.size, 0, none⟩) 3 St.enc l :=
  reads_new W 3 St.enc l cs t (by
    intro i x j v hi hj
    have := flat_get (sz := 3) St.enc_len l i x j v hi hj
    rw [← h] at this
    simpa using this)

theorem two_boxes {w w' : World} {cs ds : Array Value} {t t' : TypeId} (h : Below (w.heap.size + 2) ((w.alloc (.cells cs t)).alloc (.cells ds t')) w') :
    (∀ i, w'.cell? ⟨w.heap.size, i, none⟩ = cs[i]?) ∧ (∀ i, w'.cell? ⟨w.heap.size + 1, i, none⟩ = ds[i]?) := by
  have h1 : Below (w.heap.size + 1) (w.alloc (.cells cs t)) w' := ((Below.refl _ _).alloc (by simp) _).trans (h.mono (by omega))
  exact ⟨(below_at w.heap.size rfl h1 (by omega)).1, (below_at (w.heap.size + 1) (by simp) h (by omega)).1⟩

def badSt : List St := [⟨0, 0, 1⟩, ⟨1, 7, 1⟩, ⟨1, 0, 0⟩]
theorem badSt_check : ∀ x ∈ badSt, checkS x = 80 := by decide +kernel

set_option maxRecDepth 100000 in
set_option maxHeartbeats 4000000 in
theorem sane_any (w : World) : Calls Try.prog 10 #[] w fun e w' => e = .returned (.bool true) ∧ Below w.heap.size w w' := by
  go_enter Try.func10, Try.ntmps10
  go_wp2_with fail
  refine (Known_any ⟨3, 1, 5⟩ _).mono ?_
  rw [show knownS ⟨3, 1, 5⟩ = (25, 0) from by decide +kernel]
  rintro e w1 ⟨rfl, hb1⟩
  have H1 : Below (w.heap.size + 2) ((w.alloc (.cells #[.int .i64 3, .int .i64 0, .int .i64 9] 23)).alloc (.cells #[.int .i64 3, .int .i64 1, .int .i64 1] 23)) w1 := hb1.mono (by simp)
  have z1 := H1.size
  simp only [World.size_alloc] at z1
  go_wp2_with fail
  refine (Of_any 31 (by decide) _).mono ?_
  rw [show ofS 31 = (0, 0, 80) from by decide +kernel]
  rintro e w2 ⟨rfl, hb2⟩
  go_wp2_with fail
  refine (Next_any ⟨0, 2, 0⟩ 0 _).mono ?_
  rw [show nextS ⟨0, 2, 0⟩ 0 = (⟨1, 2, 1⟩, 0) from by decide +kernel]
  rintro e w3 ⟨rfl, hb3⟩
  simp only [St.v]
  go_wp2_with fail
  refine (Next_any ⟨1048576, 0, 3⟩ 0 _).mono ?_
  rw [show nextS ⟨1048576, 0, 3⟩ 0 = (⟨0, 0, 0⟩, 2) from by decide +kernel]
  rintro e w4 ⟨rfl, hb4⟩
  simp only [St.v]
  go_wp2_with fail
  refine (Of_any 25 (by decide) _).mono ?_
  rw [show ofS 25 = (3, 1, 0) from by decide +kernel]
  rintro e w5 ⟨rfl, hb5⟩
  have H2 := H1.trans (hb2.mono z1)
  have z2 := hb2.size
  have H3 := H2.trans (hb3.mono (by omega))
  have z3 := hb3.size
  have H4 := (H3.alloc (by omega) _).trans (hb4.mono (by simp; omega))
  have z4 := hb4.size
  have H5 := (H4.alloc (by simp at z4; omega) _).trans (hb5.mono (by simp at z4 ⊢; omega))
  have z5 := hb5.size
  simp only [World.size_alloc] at z4 z5
  have F5 := (below_at w3.heap.size rfl (hb4.trans (((Below.refl _ _).alloc (by simp; omega) _).trans (hb5.mono (by simp; omega)))) (by simp)).1
  have HF5 := Lib.hid F5
  have HH5 := Lib.hid H5
  obtain ⟨ca, cb⟩ := two_boxes H5
  have a0 := ca 0
  have a1 := ca 1
  have a2 := ca 2
  have b0 := cb 0
  have b1 := cb 1
  have b2 := cb 2
  simp at a0 a1 a2 b0 b1 b2
  clear H1 H2 H3 H4 H5 hb1 hb2 hb3 hb4 hb5 ca cb F5
  have q0 : w.heap.size < w5.heap.size := by omega
  have q1 : w.heap.size + 1 < w5.heap.size := by omega
  go_wp2_with fail
  refine (Merge_any [⟨3, 1, 1⟩] [⟨3, 0, 9⟩, ⟨3, 1, 1⟩] (some ⟨w5.heap.size, 0, none⟩) (some ⟨w5.heap.size + 1, 0, none⟩) 1 2 _ ?r1 ?r2 (by decide) (by decide) (by decide) (by decide) (by decide)).mono ?_
  case r1 => exact ((reads_st w5 [⟨3, 1, 1⟩] _ _ rfl).alloc (by simp) _).more (by simp)
  case r2 =>
    have h := reads_st (w5.alloc (.cells #[.int .i64 3, .int .i64 1, .int .i64 1] 23)) [⟨3, 0, 9⟩, ⟨3, 1, 1⟩] #[.int .i64 3, .int .i64 0, .int .i64 9, .int .i64 3, .int .i64 1, .int .i64 1] 23 rfl
    simp only [World.size_alloc] at h
    exact h.more (by simp)
  rw [show mergeP [⟨3, 1, 1⟩] [⟨3, 0, 9⟩, ⟨3, 1, 1⟩] = ([⟨3, 0, 9⟩, ⟨3, 1, 1⟩], 0) from by decide +kernel]
  rintro e w6 ⟨⟨v, rfl, hown⟩, hb6⟩
  obtain ⟨A6, c6, rfl, _, _⟩ := hown.shape
  have z6 := hb6.size
  simp only [World.size_alloc] at z6
  have HO := Lib.hid hown
  have G6 : Below w5.heap.size w5 w6 := (((Below.refl _ _).alloc (Nat.le_refl _) _).alloc (by simp) _).trans (hb6.mono (by simp; omega))
  have HG6 := Lib.hid G6
  clear hown hb6 G6 a0 a1 a2 b0 b1 b2
  have hR := reads_st w6 badSt #[.int .i64 0, .int .i64 0, .int .i64 1, .int .i64 1, .int .i64 7, .int .i64 1, .int .i64 1, .int .i64 0, .int .i64 0] 23 rfl
  have HR := Lib.hid hR
  clear hR
  go_wp2_with fail
  go_loopw [60] (fun i wr => ∃ k : Nat, k ≤ 3 ∧ i = .int .i64 k ∧ Below (w6.heap.size + 1) (w6.alloc (.cells #[.int .i64 0, .int .i64 0, .int .i64 1, .int .i64 1, .int .i64 7, .int .i64 1, .int .i64 1, .int .i64 0, .int .i64 0] 23)) wr) (fun i _ => 3 - (intOf i).toNat)
  case atStart => exact ⟨0, by omega, rfl, Below.refl _ _⟩
  case round =>
    obtain ⟨k, hk, rfl, hB⟩ := hrel
    have hs := hB.size
    simp only [World.size_alloc] at hs
    have HB := Lib.hid hB
    clear hB
    by_cases hlt : k < 3
    · obtain ⟨bb, off, x, hA, hbl, hxk, hc⟩ := (HR.out.below HB.out).at_ (k := k) (by simpa [badSt] using hlt)
      simp only [Option.some.injEq, Addr.mk.injEq, and_true] at hA
      obtain ⟨rfl, rfl⟩ := hA
      have c0 := hc 0 _ rfl
      have c1 := hc 1 _ rfl
      have c2 := hc 2 _ rfl
      simp only [Nat.add_zero, Nat.zero_add] at c0 c1 c2
      have hx := badSt_check x (List.mem_of_getElem? hxk)
      have H1 := Lib.hid hx
      clear hc hxk hx
      go_wp2_with fail
      refine (Check_any x _).mono ?_
      rw [H1.out]
      rintro e w7 ⟨rfl, hb7⟩
      have HB7 := (HB.out.alloc hs (.cells #[.int .i64 x.time, .int .i64 x.campus, .int .i64 x.no] 23)).trans (hb7.mono (by simp; omega))
      go_wp2_with fail
      go_roundw
      case rel => exact ⟨k + 1, by omega, by go_num, HB7⟩
      case measure => simp [intOf]; omega
    · obtain rfl : k = 3 := by omega
      have G7 := (HG6.out.alloc (by omega) (.cells #[.int .i64 0, .int .i64 0, .int .i64 1, .int .i64 1, .int .i64 7, .int .i64 1, .int .i64 1, .int .i64 0, .int .i64 0] 23)).trans (HB.out.mono (by omega))
      have HH7 := HH5.out.trans (G7.mono (by omega))
      obtain ⟨ca, cb⟩ := two_boxes HH7
      have a0 := ca 0
      have a1 := ca 1
      have a2 := ca 2
      have b0 := cb 0
      have b1 := cb 1
      have b2 := cb 2
      have f0 := (G7.cell (p := ⟨w3.heap.size, 0, none⟩) (by simp; omega)).trans (HF5.out 0)
      have f1 := (G7.cell (p := ⟨w3.heap.size, 1, none⟩) (by simp; omega)).trans (HF5.out 1)
      have f2 := (G7.cell (p := ⟨w3.heap.size, 2, none⟩) (by simp; omega)).trans (HF5.out 2)
      simp at a0 a1 a2 b0 b1 b2 f0 f1 f2
      have q2 : w.heap.size < wr.heap.size := by omega
      have q3 : w.heap.size + 1 < wr.heap.size := by omega
      have HO7 : Owns wr _ 23 3 St.enc (.slice A6 2 c6) [⟨3, 0, 9⟩, ⟨3, 1, 1⟩] := (HO.out.alloc _).below HB.out (by simp)
      have HO8 := Lib.hid HO7
      have GG7 := Lib.hid G7
      have HHH7 := Lib.hid HH7
      clear ca cb HO7 G7 HH7
      go_wp2_with fail
      refine (SCompare_any ⟨3, 0, 9⟩ ⟨3, 1, 1⟩ _).mono ?_
      rw [show cmpS ⟨3, 0, 9⟩ ⟨3, 1, 1⟩ = -1 from by decide +kernel]
      rintro e w8 ⟨rfl, hb8⟩
      have z8 := hb8.size
      have HH8 := HHH7.out.trans (hb8.mono (by omega))
      obtain ⟨ca, cb⟩ := two_boxes HH8
      have a0 := ca 0
      have a1 := ca 1
      have a2 := ca 2
      have b0 := cb 0
      have b1 := cb 1
      have b2 := cb 2
      have e0 := (hb8.cell (p := ⟨w3.heap.size, 0, none⟩) (by simp; omega)).trans f0
      have e1 := (hb8.cell (p := ⟨w3.heap.size, 1, none⟩) (by simp; omega)).trans f1
      have e2 := (hb8.cell (p := ⟨w3.heap.size, 2, none⟩) (by simp; omega)).trans f2
      simp at a0 a1 a2 b0 b1 b2
      have q4 : w.heap.size < w8.heap.size := by omega
      have q5 : w.heap.size + 1 < w8.heap.size := by omega
      have HR8 := Lib.hid ((HO8.out.reads St.enc_len).below hb8)
      have HH9 := Lib.hid HH8
      have GG8 := Lib.hid (GG7.out.trans (hb8.mono (by omega)))
      clear f0 f1 f2 ca cb HH8 hb8
      go_wp2_with fail
      trace_state
      refine (Same_any [⟨3, 0, 9⟩, ⟨3, 1, 1⟩] [⟨3, 0, 9⟩, ⟨3, 1, 1⟩] A6 (some ⟨w8.heap.size, 0, none⟩) c6 2 _ ?s1 ?s2 (by decide)).mono ?_
      case s1 => exact ((HR8.out.more z8).alloc (Nat.le_refl _) _).more (by simp)
      case s2 => exact (reads_st w8 [⟨3, 0, 9⟩, ⟨3, 1, 1⟩] _ _ rfl).more (by simp)
      rintro e w9 ⟨rfl, hb9⟩
      have hb9' : Below w8.heap.size w8 w9 := ((Below.refl _ _).alloc (Nat.le_refl _) _).trans (hb9.mono (by simp))
      obtain ⟨ca, cb⟩ := two_boxes (HH9.out.trans (hb9'.mono (by omega)))
      have a0 := ca 0
      have a1 := ca 1
      have a2 := ca 2
      simp at a0 a1 a2
      have z9 := hb9'.size
      clear ca cb hb9
      go_wp2_with fail
      refine (Check_any ⟨3, 0, 9⟩ _).mono ?_
      rw [show checkS ⟨3, 0, 9⟩ = 0 from by decide +kernel]
      rintro e w10 ⟨rfl, hb10⟩
      go_wp2_with fail
      go_ret
      refine ⟨rfl, ?_⟩
      exact (((Below.refl _ _).alloc (Nat.le_refl _) _).alloc (by simp) _).trans ((HH9.out.trans ((hb9'.trans (hb10.mono z9)).mono (by omega))).mono (by omega))
end Go.Proofs.Ytplfeelcijnkjaa
