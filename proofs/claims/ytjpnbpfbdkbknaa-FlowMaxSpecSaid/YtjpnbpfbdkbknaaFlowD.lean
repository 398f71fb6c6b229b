/- The iterator of the usable residual edges of a node. -/
import Derived.Test.YtjpnbpfbdkbknaaFlowC
import Derived.StillTailTactics
import Derived.RegionTactic
import Derived.BigRegion
namespace Go.Proofs.Ytjpnbpfbdkbknaa
open Go.RowKit Go.Shelf
set_option linter.unusedSimpArgs false
set_option linter.unusedVariables false
attribute [local go_sem] Oper.semAt_some

theorem abs_world {F : Fence} {n : Nat} {P : Program} {Q : Exit → Act → World → Prop} {c : Code} {a : Act} {w : World} (h : ∀ W, W = w → c.wpIn F n P Q a W) : c.wpIn F n P Q a w := h w rfl
theorem filter_next {α : Type} {p : α → Bool} {ls : List α} {k : Nat} {x : α} (h : ls[k]? = some x) : (ls.take (k + 1)).filter p = (ls.take k).filter p ++ (if p x then [x] else []) := by
  have hl := (List.getElem?_eq_some_iff.1 h).1
  rw [List.take_succ_eq_append_getElem hl, (List.getElem?_eq_some_iff.1 h).2, List.filter_append]
  simp [List.filter_cons]
/-- can more flow along a residual edge -/
def openR (l : List Ed) (xs : List Int) (r : Nat) : Bool := decide (0 < capR l xs r)
/-- the list of a node, in memory -/
theorem Net.node {w : World} {P : Nat → Prop} {B F n : Nat} {l : List Ed} {adj : List (List Nat)} (h : Net w P B F n l adj) {v : Nat} {ls : List Nat} (hv : adj[v]? = some ls) :
    ∃ (g : Nat) (s : Sl), w.cell? ⟨B, 2, none⟩ = some (.slice (some ⟨g, 0, none⟩) n n) ∧ v < n ∧ w.cell? ⟨g, v, none⟩ = some (.slice s.a s.n s.c) ∧ g < w.heap.size ∧ B < w.heap.size ∧ SlR w P 1 natE s ls := by
  obtain ⟨A, c, g, h0, h1, h2, h3, h4, h5, h6, h7, hs, h8, h9, h10, h11⟩ := h
  have hvn : v < n := by rw [← h9]; exact (List.getElem?_eq_some_iff.1 hv).1
  have hk : hs[v]? = some hs[v] := List.getElem?_eq_getElem (by omega)
  exact ⟨g, hs[v], h2, hvn, h10 v _ hk, h6, h5, h11 v _ _ hk hv⟩

set_option maxRecDepth 100000 in
set_option maxHeartbeats 4000000 in
theorem usable_iter {P : Nat → Prop} {B F n : Nat} {l : List Ed} {adj : List (List Nat)} {xs : List Int} (w : World) (m : Nat) (v : Nat) (ls : List Nat) (hv : adj[v]? = some ls) (bw bn : Nat)
    (hN : Net w P B F n l adj) (hf : FlAt w F xs) (hb : Bd l xs) (hm : ∀ e ∈ l, e.m ≤ 1073741824) (hll : l.length ≤ 65536) (hls : ∀ r ∈ ls, r < 2 * l.length)
    (hP : ∀ b, P b → b < w.heap.size) (free : Nat → Prop) (hfree : ∀ b, free b → ¬ P b ∧ b ≠ F ∧ b ≠ bw ∧ b ≠ bn)
    (h1 : w.cell? ⟨bw, 0, none⟩ = some (.pointer (some ⟨B, 0, none⟩))) (h2 : w.cell? ⟨bn, 0, none⟩ = some (.int .i64 v)) (h11 : bw < w.heap.size) (h12 : bn < w.heap.size) :
    Iter Fence.wide m Try.prog 43 #[.pointer (some ⟨bw, 0, none⟩), .pointer (some ⟨bn, 0, none⟩)] (fun r : Nat => #[.int .i64 r, .int .i64 (endR l r)]) (fun _ => False) (Keep w.heap.size free)
      (fun ys => ys = ls.filter (openR l xs)) (fun _ => True) (fun ys => ∃ t, ys ++ t = ls.filter (openR l xs)) w := by
  intro L J Jx W hW hJ hJx hY h0
  refine callsIn_wide.2 ?_
  simp only [List.append_toArray, List.cons_append, List.nil_append]
  have fa : ¬ free bw := fun h => (hfree _ h).2.2.1 rfl
  have fb : ¬ free bn := fun h => (hfree _ h).2.2.2 rfl
  have ff : ¬ free F := fun h => (hfree _ h).2.1 rfl
  have fp : ∀ b, P b → ¬ free b := fun b hp h => (hfree _ h).1 hp
  have hK0 : Net W P B F n l adj ∧ FlAt W F xs ∧ W.cell? ⟨bw, 0, none⟩ = some (.pointer (some ⟨B, 0, none⟩)) ∧ W.cell? ⟨bn, 0, none⟩ = some (.int .i64 v) ∧ w.heap.size ≤ W.heap.size :=
    ⟨hN.step hW, hf.step hW, (hW.cell (p := ⟨bw, 0, none⟩) h11).trans h1, (hW.cell (p := ⟨bn, 0, none⟩) h12).trans h2, hW.size⟩
  have HNW := Lib.hid hN
  have HF0 := Lib.hid hf
  have HB := Lib.hid hb
  have HM := Lib.hid hm
  have HLS := Lib.hid hls
  have HF := Lib.hid (And.intro fa (And.intro fb (And.intro ff fp)))
  have HJ := Lib.hid hJ
  have HY := Lib.hid hY
  have H0 := Lib.hid h0
  have HK := Lib.hid hK0
  have HV := Lib.hid hv
  obtain ⟨hN1, hf1, hc1, hc2, hzw⟩ := hK0
  obtain ⟨g, s, k0, k1, k2, k3, k4, k5⟩ := hN1.node hv
  obtain ⟨sa, sn, sc⟩ := s
  have e0 := k5.1
  simp only at e0 k2
  subst e0
  have hsl : ls.length ≤ 9223372036854775807 := by have := k5.2.2.1; have := k5.2.1; unfold maxLen at *; simp only at *; omega
  have hbw2 : bw < W.heap.size := by omega
  have hbn2 : bn < W.heap.size := by omega
  have HSL := Lib.hid k5
  have HP := Lib.hid hP
  clear h1 h2 h0 hJ hY hfree fa fb ff fp hJx hN1 hf1 hN hf hb hm hls hv k5 hP
  go_enter Try.func43, Try.ntmps43
  go_wp2_with fail
  go_quiet (fail)
  go_wp2_with fail
  go_loopw [14] (fun i wr => ∃ k : Nat, k ≤ ls.length ∧ i = .int .i64 k ∧ J ((ls.take k).filter (openR l xs)) wr ∧ Net wr P B F n l adj ∧ FlAt wr F xs ∧ wr.cell? ⟨bw, 0, none⟩ = some (.pointer (some ⟨B, 0, none⟩)) ∧ wr.cell? ⟨bn, 0, none⟩ = some (.int .i64 v) ∧ w.heap.size ≤ wr.heap.size ∧ SlR wr P 1 natE ⟨sa, ls.length, sc⟩ ls)
    (fun i _ => ls.length - (intOf i).toNat)
  case atStart =>
    refine ⟨0, Nat.zero_le _, rfl, ?_, ?_⟩
    · simpa using HJ.out.1 _ _ _ H0.out (below_drewN (Below.refl _ _) _)
    · have hd := below_drewN (Below.refl W.heap.size W) nq
      obtain ⟨q1, q2, q3, q4, q5⟩ := HK.out
      exact ⟨q1.step hd, q2.step hd, q3, q4, q5, HSL.out.step hd⟩
  case round =>
    obtain ⟨k, hk, rfl, hj, hN1, hf1, hc1, hc2, hzr, hS⟩ := hrel
    have HJ1 := Lib.hid hj
    have HN1 := Lib.hid hN1
    have HF1 := Lib.hid hf1
    have HS1 := Lib.hid hS
    clear hj hN1 hf1
    by_cases hlt : k < ls.length
    · obtain ⟨ba, oa, r, rfl, hba, hrk, hca⟩ := hS.reads.at_ hlt
      have a0 := hca 0 _ rfl
      simp only [Nat.add_zero, Nat.mul_one] at a0
      have hr := HLS.out r (List.mem_of_getElem? hrk)
      have hr2 : r < 200000 := by omega
      have HT := Lib.hid (filter_next (p := openR l xs) hrk)
      clear hca hS
      have hC := capacity_any (P := P) r wr HN1.out HF1.out HB.out HM.out hr hr2
      cases ho : openR l xs r
      · have ho2 : decide (0 < capR l xs r) = false := ho
        have HO := Lib.hid ho
        clear ho
        refine (wpIn_wide (n := m)).1 ?_
        gi_wp2
        refine ⟨trivial, fun h => (by cases h), (callsIn_wide.2 hC).mono ?_⟩
        rintro e w1 ⟨rfl, hb1⟩
        have e1 := (hb1.cell (p := ⟨bw, 0, none⟩) (by show bw < wr.heap.size; omega)).trans hc1
        have e2 := (hb1.cell (p := ⟨bn, 0, none⟩) (by show bn < wr.heap.size; omega)).trans hc2
        have hz1 := hb1.size
        have HB1 := Lib.hid hb1
        clear hb1
        gi_wp2
        refine ⟨trivial, ?_⟩
        gi_wp2
        refine ⟨fun f h => (by cases h), ?_⟩
        gi_wp2
        go_roundw
        case rel => exact ⟨k + 1, by omega, by go_num, by rw [HT.out, HO.out]; simpa using HJ.out.1 _ _ _ HJ1.out HB1.out, HN1.out.step HB1.out, HF1.out.step HB1.out, e1, e2, by omega, HS1.out.step HB1.out⟩
        case measure => simp [intOf]; omega
      · have ho2 : decide (0 < capR l xs r) = true := ho
        have HO := Lib.hid ho
        clear ho
        refine (wpIn_wide (n := m)).1 ?_
        gi_wp2
        refine ⟨trivial, fun h => (by cases h), (callsIn_wide.2 hC).mono ?_⟩
        rintro e w1 ⟨rfl, hb1⟩
        have e1 := (hb1.cell (p := ⟨bw, 0, none⟩) (by show bw < wr.heap.size; omega)).trans hc1
        have e2 := (hb1.cell (p := ⟨bn, 0, none⟩) (by show bn < wr.heap.size; omega)).trans hc2
        have hz1 := hb1.size
        have HB1 := Lib.hid hb1
        clear hb1 hc1 hc2
        gi_wp2
        refine ⟨trivial, fun h => (by cases h), (callsIn_wide.2 (end_any (P := P) r w1 (HN1.out.step HB1.out) hr hr2)).mono ?_⟩
        rintro e w2 ⟨rfl, hb2⟩
        have e3 := (hb2.cell (p := ⟨bw, 0, none⟩) (by show bw < w1.heap.size; omega)).trans e1
        have e4 := (hb2.cell (p := ⟨bn, 0, none⟩) (by show bn < w1.heap.size; omega)).trans e2
        have hz2 := hb2.size
        have HB2 : Hid (Below wr.heap.size wr w2) := Lib.hid (HB1.out.trans (hb2.mono hz1))
        clear hb2 e1 e2
        have hjn : J ((ls.take k).filter (openR l xs)) w2 := HJ.out.1 _ _ _ HJ1.out HB2.out
        obtain ⟨fn, tmps, assign, body, hy, hR⟩ := HY.out _ r _ hjn ⟨(ls.drop (k + 1)).filter (openR l xs), by
          have h := HT.out
          rw [HO.out] at h
          simp only [if_true] at h
          rw [← h, ← List.filter_append, List.take_append_drop]⟩
        try simp only at hy
        clear hjn
        gi_wp2
        refine ⟨fun h => (by cases h), hR.mono ?_⟩
        rintro e W3 (⟨rfl, hJ3, hk3⟩ | ⟨rfl, hJx3⟩)
        · have hk31 := hk3.1
          have e5 := (hk3.cell (a := ⟨bw, 0, none⟩) h11 HF.out.1).trans e3
          have e6 := (hk3.cell (a := ⟨bn, 0, none⟩) h12 HF.out.2.1).trans e4
          have hN2 := HN1.out.step HB2.out
          have hF2 := HF1.out.step HB2.out
          have hkp : Kp P wr W3 := (Kp.of_below HB2.out).trans ⟨hk31, fun b hp hlb => by
            rcases Nat.lt_or_ge b w.heap.size with hb | hb
            · exact hk3.2 b hb (HF.out.2.2.2 b hp)
            · exact absurd (HP.out b hp) (by omega)⟩
          have hF3 : FlAt W3 F xs := (hk3.2 F HF0.out.lt HF.out.2.2.1).trans hF2
          have HK3 := Lib.hid hk3
          have HJ3 := Lib.hid hJ3
          have HKP := Lib.hid hkp
          have HF3 := Lib.hid hF3
          clear hk3 hJ3 e3 e4 hN2 hF2 hkp hF3
          gi_wp2
          go_roundw
          case rel => exact ⟨k + 1, by omega, by go_num, by rw [HT.out, HO.out]; exact HJ3.out, HN1.out.keep HKP.out, HF3.out, e5, e6, by omega, HS1.out.keep HKP.out⟩
          case measure => simp [intOf]; omega
        · gi_wp2
          refine bodyPost_ret (results_none rfl _ _ _) rfl ?_
          exact ⟨⟨_, rfl⟩, .inr ⟨_, trivial, hJx3⟩⟩
    · obtain rfl : k = ls.length := by omega
      go_wp2_with fail
      go_end0
      have hj := HJ1.out
      rw [List.take_of_length_le (Nat.le_refl _)] at hj
      exact ⟨⟨_, rfl⟩, .inl ⟨_, rfl, hj⟩⟩
end Go.Proofs.Ytjpnbpfbdkbknaa
