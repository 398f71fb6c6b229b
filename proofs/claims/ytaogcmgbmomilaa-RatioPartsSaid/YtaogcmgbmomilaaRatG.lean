/- pairs: an iterator over two lists. -/
import Derived.Test.YtaogcmgbmomilaaRatF
import Derived.Test.YtaogcmgbmomilaaSeq
import Derived.StillTailTactics
import Derived.RegionTactic
import Derived.BigRegion
namespace Go.Proofs.Ytaogcmgbmomilaa
open Go.RowKit Go.Shelf
set_option linter.unusedSimpArgs false
set_option linter.unusedVariables false
attribute [local go_sem] Oper.semAt_some

theorem reads_same {α : Type} {w w' : World} {B sz : Nat} {A : Option Addr} {enc : α → List Value} {xs : List α} (h : Reads w B A sz enc xs) (hk : ∀ b, b < B → w'.heap[b]? = w.heap[b]?) : Reads w' B A sz enc xs := fun hn => by
  obtain ⟨b, off, e, hlt, hc⟩ := h hn
  exact ⟨b, off, e, hlt, fun i x j v hi hj => (World.cell?_of_block (a := ⟨b, _, none⟩) (hk b hlt)).trans (hc i x j v hi hj)⟩
theorem abs_world {F : Fence} {n : Nat} {P : Program} {Q : Exit → Act → World → Prop} {c : Code} {a : Act} {w : World} (h : ∀ W, W = w → c.wpIn F n P Q a W) : c.wpIn F n P Q a w := h w rfl

theorem pairs_any (A D : Option Addr) (n c m d : Nat) (w : World) :
    Calls Try.prog 36 #[.slice A n c, .slice D m d] w fun e w' =>
      e = .returned (.func (.func 39) #[] #[.pointer (some ⟨w.heap.size, 0, none⟩), .pointer (some ⟨w.heap.size + 1, 0, none⟩)]) ∧
      w' = (w.alloc (.cells #[.slice A n c] 34)).alloc (.cells #[.slice D m d] 34) := by
  go_enter Try.func36, Try.ntmps36
  go_wp2_with fail
  go_ret
  exact ⟨rfl, rfl⟩

set_option maxRecDepth 100000 in
set_option maxHeartbeats 4000000 in
theorem pairs_iter (w : World) (n : Nat) (n₀ Ba Bb : Nat) (hBa : n₀ ≤ Ba) (hBb : n₀ ≤ Bb) (us vs : List Int) (hlen : us.length = vs.length) (hl : us.length ≤ 9223372036854775807) (free : Nat → Prop) (hfree : ∀ b, free b → n₀ ≤ b ∧ b ≠ Ba ∧ b ≠ Bb) (hn : n₀ ≤ w.heap.size)
    (A D : Option Addr) (c d : Nat) (h1 : w.cell? ⟨Ba, 0, none⟩ = some (.slice A us.length c)) (h2 : w.cell? ⟨Bb, 0, none⟩ = some (.slice D vs.length d))
    (h9 : Reads w n₀ A 1 intE us) (h10 : Reads w n₀ D 1 intE vs) (h11 : Ba < w.heap.size) (h12 : Bb < w.heap.size) :
    Iter Fence.wide n Try.prog 39 #[.pointer (some ⟨Ba, 0, none⟩), .pointer (some ⟨Bb, 0, none⟩)] (fun x : Int × Int => #[.int .i64 x.1, .int .i64 x.2]) (fun _ => False) (Keep w.heap.size free)
      (fun xs => xs = us.zip vs) (fun _ => True) (fun xs => ∃ t, xs ++ t = us.zip vs) w := by
  intro l J Jx W hW hJ hJx hY h0
  refine callsIn_wide.2 ?_
  simp only [List.append_toArray, List.cons_append, List.nil_append]
  have fa : ¬ free Ba := fun h => (hfree _ h).2.1 rfl
  have fb : ¬ free Bb := fun h => (hfree _ h).2.2 rfl
  have hK0 : (∀ b, b < n₀ → W.heap[b]? = w.heap[b]?) ∧ W.cell? ⟨Ba, 0, none⟩ = some (.slice A us.length c) ∧ W.cell? ⟨Bb, 0, none⟩ = some (.slice D vs.length d) ∧ w.heap.size ≤ W.heap.size :=
    ⟨fun b hb => hW.block b (by omega), (hW.cell (p := ⟨Ba, 0, none⟩) h11).trans h1, (hW.cell (p := ⟨Bb, 0, none⟩) h12).trans h2, hW.size⟩
  have HX := Lib.hid h9
  have HYY := Lib.hid h10
  have HF := Lib.hid (And.intro fa fb)
  have HFR := Lib.hid hfree
  have HJ := Lib.hid hJ
  have HY := Lib.hid hY
  have H0 := Lib.hid h0
  have HK := Lib.hid hK0
  obtain ⟨_, hc1, hc2, hzw⟩ := hK0
  have hBa2 : Ba < W.heap.size := by omega
  have hBb2 : Bb < W.heap.size := by omega
  clear h1 h2 h9 h10 h0 hJ hY hfree fa fb hJx hW
  go_enter Try.func39, Try.ntmps39
  go_wp2_with fail
  go_loopw [8] (fun i wr => ∃ k : Nat, k ≤ us.length ∧ i = .int .i64 k ∧ J ((us.zip vs).take k) wr ∧ (∀ b, b < n₀ → wr.heap[b]? = w.heap[b]?) ∧ wr.cell? ⟨Ba, 0, none⟩ = some (.slice A us.length c) ∧ wr.cell? ⟨Bb, 0, none⟩ = some (.slice D vs.length d) ∧ w.heap.size ≤ wr.heap.size)
    (fun i _ => us.length - (intOf i).toNat)
  case atStart => exact ⟨0, Nat.zero_le _, rfl, by simpa using H0.out, HK.out⟩
  case round =>
    obtain ⟨k, hk, rfl, hj, hs, hc1, hc2, hzr⟩ := hrel
    have HJ1 := Lib.hid hj
    have HS := Lib.hid hs
    have HXr := Lib.hid (reads_same HX.out hs)
    have HYr := Lib.hid (reads_same HYY.out hs)
    clear hj hs
    by_cases hlt : k < us.length
    · obtain ⟨ba, oa, x, rfl, hba, hxk, hca⟩ := HXr.out.at_ hlt
      obtain ⟨bb, ob, y, rfl, hbb, hyk, hcb⟩ := HYr.out.at_ (k := k) (by omega)
      have a0 := hca 0 _ rfl
      have b0 := hcb 0 _ rfl
      simp only [Nat.add_zero, Nat.mul_one] at a0 b0
      have hba2 : ba < wr.heap.size := by omega
      have hbb2 : bb < wr.heap.size := by omega
      have hlt2 : k < vs.length := by omega
      have hz : (us.zip vs)[k]? = some (x, y) := by rw [List.getElem?_zip_eq_some]; exact ⟨hxk, hyk⟩
      have htk : (us.zip vs).take (k + 1) = (us.zip vs).take k ++ [(x, y)] := by
        have hl2 := (List.getElem?_eq_some_iff.1 hz).1
        rw [List.take_succ_eq_append_getElem hl2, (List.getElem?_eq_some_iff.1 hz).2]
      have HT := Lib.hid htk
      obtain ⟨fn, tmps, assign, body, hy, hR⟩ := HY.out _ (x, y) wr HJ1.out ⟨(us.zip vs).drop (k + 1), by rw [← htk, List.take_append_drop]⟩
      simp only at hy
      clear hca hcb hxk hyk hz htk
      refine (wpIn_wide (n := n)).1 ?_
      gi_wp2
      refine ⟨fun h => (by cases h), hR.mono ?_⟩
      rintro e W3 (⟨rfl, hJ3, hk3⟩ | ⟨rfl, hJx3⟩)
      · have hk31 := hk3.1
        have e1 := (hk3.cell (a := ⟨Ba, 0, none⟩) h11 HF.out.1).trans hc1
        have e2 := (hk3.cell (a := ⟨Bb, 0, none⟩) h12 HF.out.2).trans hc2
        have HK3 := Lib.hid hk3
        have HJ3 := Lib.hid hJ3
        clear hk3 hJ3
        gi_wp2
        go_roundw
        case rel => exact ⟨k + 1, by omega, by go_num, by rw [HT.out]; exact HJ3.out, fun b hb => (HK3.out.2 b (by omega) (fun h => by have := (HFR.out _ h).1; omega)).trans (HS.out b hb), e1, e2, by omega⟩
        case measure => simp [intOf]; omega
      · gi_wp2
        refine bodyPost_ret (results_none rfl _ _ _) rfl ?_
        exact ⟨⟨_, rfl⟩, .inr ⟨_, trivial, hJx3⟩⟩
    · obtain rfl : k = us.length := by omega
      go_wp2_with fail
      go_end0
      have hj := HJ1.out
      rw [List.take_of_length_le (by simp; omega)] at hj
      exact ⟨⟨_, rfl⟩, .inl ⟨_, rfl, hj⟩⟩
end Go.Proofs.Ytaogcmgbmomilaa
