/- slices.Backward over writes. -/
import Derived.Test.YtebbmplbpgilaaaDskF
import Derived.StillTailTactics
import Derived.RegionTactic
import Derived.BigRegion
namespace Go.Proofs.Ytebbmplbpgilaaa
open Go.RowKit Go.Shelf
set_option linter.unusedSimpArgs false
set_option linter.unusedVariables false
attribute [local go_sem] Oper.semAt_some

theorem backward_any (A : Option Addr) (n c : Nat) (w : World) :
    Calls Try.prog 39 #[.slice A n c] w fun e w' =>
      e = .returned (.func (.func 45) #[] #[.pointer (some ⟨w.heap.size, 0, none⟩)]) ∧
      w' = w.alloc (.cells #[.slice A n c] 23) := by
  go_enter Try.func39, Try.ntmps39
  go_wp2_with fail
  go_ret
  exact ⟨rfl, rfl⟩

theorem reads_same {α : Type} {w w' : World} {B sz : Nat} {A : Option Addr} {enc : α → List Value} {xs : List α} (h : Reads w B A sz enc xs) (hk : ∀ b, b < B → w'.heap[b]? = w.heap[b]?) : Reads w' B A sz enc xs := fun hn => by
  obtain ⟨b, off, e, hlt, hc⟩ := h hn
  exact ⟨b, off, e, hlt, fun i x j v hi hj => (World.cell?_of_block (a := ⟨b, _, none⟩) (hk b hlt)).trans (hc i x j v hi hj)⟩
theorem abs_world {F : Fence} {n : Nat} {P : Program} {Q : Exit → Act → World → Prop} {c : Code} {a : Act} {w : World} (h : ∀ W, W = w → c.wpIn F n P Q a W) : c.wpIn F n P Q a w := h w rfl

/-- indices and elements, the last one first -/
def bk (vs : List (Int × Sl)) : List (Int × (Int × Sl)) := (vs.zipIdx.map fun p => ((p.2 : Int), p.1)).reverse
theorem bk_len (vs : List (Int × Sl)) : (bk vs).length = vs.length := by simp [bk]
theorem bk_at (vs : List (Int × Sl)) (k m : Nat) (x : Int × Sl) (h : k < vs.length) (hm : m = vs.length - 1 - k) (hx : vs[m]? = some x) : (bk vs)[k]? = some ((m : Int), x) := by
  subst hm
  have h2 : k < (vs.zipIdx.map fun p => ((p.2 : Int), p.1)).length := by simp; omega
  rw [bk, List.getElem?_reverse h2]
  simp only [List.length_map, List.length_zipIdx, List.getElem?_map, List.getElem?_zipIdx]
  rw [hx]
  simp
theorem take_at {α : Type} {l : List α} {k : Nat} {x : α} (h : l[k]? = some x) : l.take (k + 1) = l.take k ++ [x] := by
  have hl := (List.getElem?_eq_some_iff.1 h).1
  rw [List.take_succ_eq_append_getElem hl, (List.getElem?_eq_some_iff.1 h).2]

set_option maxRecDepth 100000 in
set_option maxHeartbeats 4000000 in
theorem backward_iter (w : World) (n : Nat) (n₀ Ba : Nat) (hBa : n₀ ≤ Ba) (xs : List (Int × Sl)) (hl : xs.length ≤ 9223372036854775807) (free : Nat → Prop) (hfree : ∀ b, free b → n₀ ≤ b ∧ b ≠ Ba) (hn : n₀ ≤ w.heap.size)
    (A : Option Addr) (c : Nat) (h1 : w.cell? ⟨Ba, 0, none⟩ = some (.slice A xs.length c)) (h9 : Reads w n₀ A 2 wrE xs) (h11 : Ba < w.heap.size) :
    Iter Fence.wide n Try.prog 45 #[.pointer (some ⟨Ba, 0, none⟩)] (fun x : Int × (Int × Sl) => #[.int .i64 x.1, .agg #[.int .i64 x.2.1, .slice x.2.2.a x.2.2.n x.2.2.c]]) (fun _ => False) (Keep w.heap.size free)
      (fun ys => ys = bk xs) (fun _ => True) (fun ys => ∃ t, ys ++ t = bk xs) w := by
  intro l J Jx W hW hJ hJx hY h0
  refine callsIn_wide.2 ?_
  simp only [List.append_toArray, List.cons_append, List.nil_append]
  have fa : ¬ free Ba := fun h => (hfree _ h).2 rfl
  have hK0 : (∀ b, b < n₀ → W.heap[b]? = w.heap[b]?) ∧ W.cell? ⟨Ba, 0, none⟩ = some (.slice A xs.length c) ∧ w.heap.size ≤ W.heap.size :=
    ⟨fun b hb => hW.block b (by omega), (hW.cell (p := ⟨Ba, 0, none⟩) h11).trans h1, hW.size⟩
  have HX := Lib.hid h9
  have HF := Lib.hid fa
  have HFR := Lib.hid hfree
  have HJ := Lib.hid hJ
  have HY := Lib.hid hY
  have H0 := Lib.hid h0
  have HK := Lib.hid hK0
  obtain ⟨_, hc1, hzw⟩ := hK0
  have hBa2 : Ba < W.heap.size := by omega
  clear h1 h9 h0 hJ hY hfree fa hJx hW
  go_enter Try.func45, Try.ntmps45
  go_wp2_with fail
  go_loopw [3] (fun i wr => ∃ k : Nat, k ≤ xs.length ∧ i = .int .i64 ((xs.length : Int) - 1 - k) ∧ J ((bk xs).take k) wr ∧ (∀ b, b < n₀ → wr.heap[b]? = w.heap[b]?) ∧ wr.cell? ⟨Ba, 0, none⟩ = some (.slice A xs.length c) ∧ w.heap.size ≤ wr.heap.size)
    (fun i _ => (intOf i + 1).toNat)
  case atStart => exact ⟨0, Nat.zero_le _, by simp, by simpa using H0.out, HK.out⟩
  case round =>
    obtain ⟨k, hk, rfl, hj, hs, hc1, hzr⟩ := hrel
    have HJ1 := Lib.hid hj
    have HS := Lib.hid hs
    have HXr := Lib.hid (reads_same HX.out hs)
    clear hj hs
    by_cases hlt : k < xs.length
    · obtain ⟨m, hm⟩ : ∃ m : Nat, m = xs.length - 1 - k := ⟨_, rfl⟩
      have hml : m < xs.length := by omega
      have hmi : (xs.length : Int) - 1 - k = (m : Int) := by omega
      rw [hmi]
      have HM := Lib.hid hmi
      clear hmi
      obtain ⟨ba, oa, x, rfl, hba, hxk, hca⟩ := HXr.out.at_ hml
      have a0 := hca 0 _ rfl
      have a1 := hca 1 _ rfl
      simp only [Nat.add_zero] at a0
      have hba2 : ba < wr.heap.size := by omega
      have hbk : (bk xs)[k]? = some ((m : Int), x) := by
        exact bk_at xs k m x hlt hm hxk
      have htk := take_at hbk
      have HT := Lib.hid htk
      obtain ⟨fn, tmps, assign, body, hy, hR⟩ := HY.out _ ((m : Int), x) _ HJ1.out ⟨(bk xs).drop (k + 1), by rw [← htk, List.take_append_drop]⟩
      try simp only at hy
      have hm0 : (0 : Int) ≤ (m : Int) := by omega
      have HMK := Lib.hid hm
      clear hca hxk htk hbk hm
      refine (wpIn_wide (n := n)).1 ?_
      gi_wp2
      refine ⟨fun h => (by cases h), hR.mono ?_⟩
      rintro e W3 (⟨rfl, hJ3, hk3⟩ | ⟨rfl, hJx3⟩)
      · have hk31 := hk3.1
        have e1 := (hk3.cell (a := ⟨Ba, 0, none⟩) h11 HF.out).trans hc1
        have HK3 := Lib.hid hk3
        have HJ3 := Lib.hid hJ3
        clear hk3 hJ3
        gi_wp2
        go_roundw
        case rel => exact ⟨k + 1, by omega, by rw [← HM.out]; congr 1; have := HM.out; omega, by rw [HT.out]; exact HJ3.out, fun b hb => (HK3.out.2 b (by omega) (fun h => by have := (HFR.out _ h).1; omega)).trans (HS.out b hb), e1, by omega⟩
        case measure => simp [intOf]
      · gi_wp2
        refine bodyPost_ret (results_none rfl _ _ _) rfl ?_
        exact ⟨⟨_, rfl⟩, .inr ⟨_, trivial, hJx3⟩⟩
    · obtain rfl : k = xs.length := by omega
      have hneg : (xs.length : Int) - 1 - (xs.length : Int) = -1 := by omega
      rw [hneg]
      clear hneg
      go_wp2_with fail
      go_end0
      have hj := HJ1.out
      rw [List.take_of_length_le (by rw [bk_len]; omega)] at hj
      exact ⟨⟨_, rfl⟩, .inl ⟨_, rfl, hj⟩⟩
end Go.Proofs.Ytebbmplbpgilaaa
