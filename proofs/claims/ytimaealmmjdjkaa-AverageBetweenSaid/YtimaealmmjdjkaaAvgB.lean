/- weights: an iterator over attempts. -/
import Derived.Test.YtimaealmmjdjkaaAvgA
import Derived.StillTailTactics
import Derived.RegionTactic
import Derived.BigRegion
namespace Go.Proofs.Ytimaealmmjdjkaa
open Go.RowKit Go.Shelf
set_option linter.unusedSimpArgs false
set_option linter.unusedVariables false
attribute [local go_sem] Oper.semAt_some

theorem reads_same {α : Type} {w w' : World} {B sz : Nat} {A : Option Addr} {enc : α → List Value} {xs : List α} (h : Reads w B A sz enc xs) (hk : ∀ b, b < B → w'.heap[b]? = w.heap[b]?) : Reads w' B A sz enc xs := fun hn => by
  obtain ⟨b, off, e, hlt, hc⟩ := h hn
  exact ⟨b, off, e, hlt, fun i x j v hi hj => (World.cell?_of_block (a := ⟨b, _, none⟩) (hk b hlt)).trans (hc i x j v hi hj)⟩
theorem abs_world {F : Fence} {n : Nat} {P : Program} {Q : Exit → Act → World → Prop} {c : Code} {a : Act} {w : World} (h : ∀ W, W = w → c.wpIn F n P Q a W) : c.wpIn F n P Q a w := h w rfl

theorem weights_any (A : Option Addr) (n c : Nat) (w : World) :
    Calls Try.prog 27 #[.slice A n c] w fun e w' =>
      e = .returned (.func (.func 42) #[] #[.pointer (some ⟨w.heap.size, 0, none⟩)]) ∧ w' = w.alloc (.cells #[.slice A n c] 22) := by
  go_enter Try.func27, Try.ntmps27
  go_wp2_with fail
  go_ret
  exact ⟨rfl, rfl⟩

theorem take_at {α : Type} {l : List α} {k : Nat} {x : α} (h : l[k]? = some x) : l.take (k + 1) = l.take k ++ [x] := by
  have hl := (List.getElem?_eq_some_iff.1 h).1
  rw [List.take_succ_eq_append_getElem hl, (List.getElem?_eq_some_iff.1 h).2]

set_option maxRecDepth 100000 in
set_option maxHeartbeats 4000000 in
theorem weights_iter (w : World) (n : Nat) (n₀ Ba : Nat) (hBa : n₀ ≤ Ba) (xs : List At) (hl : xs.length ≤ 9223372036854775807) (free : Nat → Prop) (hfree : ∀ b, free b → n₀ ≤ b ∧ b ≠ Ba) (hn : n₀ ≤ w.heap.size)
    (A : Option Addr) (c : Nat) (h1 : w.cell? ⟨Ba, 0, none⟩ = some (.slice A xs.length c)) (h9 : Reads w n₀ A 5 At.enc xs) (h11 : Ba < w.heap.size) :
    Iter Fence.wide n Try.prog 42 #[.pointer (some ⟨Ba, 0, none⟩)] (fun x : At => #[.int .i64 x.grade, .int .i64 x.credits]) (fun _ => False) (Keep w.heap.size free)
      (fun ys => ys = xs) (fun _ => True) (fun ys => ∃ t, ys ++ t = xs) w := by
  intro l J Jx W hW hJ hJx hY h0
  refine callsIn_wide.2 ?_
  simp only [List.append_toArray, List.cons_append, List.nil_append]
  have fa : ¬ free Ba := fun h => (hfree _ h).2 rfl
  have hK0 : (∀ b, b < n₀ → W.heap[b]? = w.heap[b]?) ∧ W.cell? ⟨Ba, 0, none⟩ = some (.slice A xs.length c) ∧ w.heap.size ≤ W.heap.size :=
    ⟨fun b hb => hW.block b (by omega), (hW.cell (p := ⟨Ba, 0, none⟩) h11).trans h1, hW.size⟩
  have HX := Lib.hid h9
  have HF := Lib.hid fa
  have HFR := Lib.hid hfree
  have HJ := Lib.hid hJ
  have HY := Lib.hid hY
  have H0 := Lib.hid h0
  have HK := Lib.hid hK0
  obtain ⟨_, hc1, hzw⟩ := hK0
  have hBa2 : Ba < W.heap.size := by omega
  clear h1 h9 h0 hJ hY hfree fa hJx hW
  go_enter Try.func42, Try.ntmps42
  go_wp2_with fail
  go_loopw [7] (fun i wr => ∃ k : Nat, k ≤ xs.length ∧ i = .int .i64 k ∧ J (xs.take k) wr ∧ (∀ b, b < n₀ → wr.heap[b]? = w.heap[b]?) ∧ wr.cell? ⟨Ba, 0, none⟩ = some (.slice A xs.length c) ∧ w.heap.size ≤ wr.heap.size)
    (fun i _ => xs.length - (intOf i).toNat)
  case atStart => exact ⟨0, Nat.zero_le _, rfl, by simpa using H0.out, HK.out⟩
  case round =>
    obtain ⟨k, hk, rfl, hj, hs, hc1, hzr⟩ := hrel
    have HJ1 := Lib.hid hj
    have HS := Lib.hid hs
    have HXr := Lib.hid (reads_same HX.out hs)
    clear hj hs
    by_cases hlt : k < xs.length
    · obtain ⟨ba, oa, x, rfl, hba, hxk, hca⟩ := HXr.out.at_ hlt
      have a0 := hca 0 _ rfl
      have a1 := hca 1 _ rfl
      have a2 := hca 2 _ rfl
      have a3 := hca 3 _ rfl
      have a4 := hca 4 _ rfl
      simp only [Nat.add_zero] at a0
      have hba2 : ba < wr.heap.size := by omega
      have htk := take_at hxk
      have HT := Lib.hid htk
      have hjn : J (xs.take k) (wr.alloc (.cells #[.int .i64 x.course, .int .i64 x.term, .int .i64 x.grade, .int .i64 x.campus, .int .i64 x.credits] 43)) := HJ.out.1 _ _ _ HJ1.out ((Below.refl _ _).alloc (Nat.le_refl _) _)
      obtain ⟨fn, tmps, assign, body, hy, hR⟩ := HY.out _ x _ hjn ⟨xs.drop (k + 1), by rw [← htk, List.take_append_drop]⟩
      try simp only at hy
      clear hca hxk htk hjn
      refine (wpIn_wide (n := n)).1 ?_
      gi_wp2
      refine ⟨fun h => (by cases h), hR.mono ?_⟩
      rintro e W3 (⟨rfl, hJ3, hk3⟩ | ⟨rfl, hJx3⟩)
      · have hk31 := hk3.1
        simp only [World.size_alloc] at hk31
        have e1 := (hk3.cell (a := ⟨Ba, 0, none⟩) h11 HF.out).trans (((Below.refl wr.heap.size wr).alloc (Nat.le_refl _) (.cells #[.int .i64 x.course, .int .i64 x.term, .int .i64 x.grade, .int .i64 x.campus, .int .i64 x.credits] 43)).cell (p := ⟨Ba, 0, none⟩) (by show Ba < wr.heap.size; omega) |>.trans hc1)
        have HK3 := Lib.hid hk3
        have HJ3 := Lib.hid hJ3
        clear hk3 hJ3
        gi_wp2
        go_roundw
        case rel => exact ⟨k + 1, by omega, by go_num, by rw [HT.out]; exact HJ3.out, fun b hb => ((HK3.out.2 b (by omega) (fun h => by have := (HFR.out _ h).1; omega)).trans (Below.heap_alloc _ _ _ (by omega))).trans (HS.out b hb), e1, by omega⟩
        case measure => simp [intOf]; omega
      · gi_wp2
        refine bodyPost_ret (results_none rfl _ _ _) rfl ?_
        exact ⟨⟨_, rfl⟩, .inr ⟨_, trivial, hJx3⟩⟩
    · obtain rfl : k = xs.length := by omega
      go_wp2_with fail
      go_end0
      have hj := HJ1.out
      rw [List.take_length] at hj
      exact ⟨⟨_, rfl⟩, .inl ⟨_, rfl, hj⟩⟩
end Go.Proofs.Ytimaealmmjdjkaa
