/- TopDegree, what its proof leans on: the texts AvgE. -/
import Derived.Test.YtalmbigebjbaoaaGreatDoorM04
import Derived.Test.YtalmbigebjbaoaaGreatDoorM03
import Derived.BigRegion
namespace Go.Proofs.YtalmbigebjbaoaaGreatDoor
open Go.RowKit Go.Shelf
set_option linter.unusedSimpArgs false
set_option linter.unusedVariables false
attribute [local go_sem] Oper.semAt_some
theorem addr_ne {b b' o o' : Nat} (h : b ≠ b' ∨ o ≠ o') : (⟨b, o, none⟩ : Addr) ≠ ⟨b', o', none⟩ := by
 intro e
 have h1 := congrArg Addr.block e
 have h2 := congrArg Addr.off e
 simp only at h1 h2
 omega
theorem set_at (W : World) (a : Addr) (v u : Value) (h : W.cell? a = some u) : (W.setCell a v).cell? a = some v := by
 rw [cell_set_if _ _ _ _ (by rw [h]; rfl), if_pos rfl]
theorem set_far (W : World) (a b : Addr) (v : Value) (h : a ≠ b) : (W.setCell a v).cell? b = W.cell? b := by
 first | exact World.cell?_setCell_other _ _ _ _ h | exact World.cell?_setCell_other _ _ _ _ h.symm
def sE : List At → Int
 | [] => 0
 | x :: l => (if 1 ≤ x.grade then x.credits else 0) + sE l
theorem sE_snoc (x : At) : ∀ l, sE (l ++ [x]) = sE l + (if 1 ≤ x.grade then x.credits else 0)
 | [] => by simp [sE]
 | y :: l => by simp only [List.cons_append, sE, sE_snoc x l]; omega
theorem earn_at : ∀ l : List At, (∀ x ∈ l, x.good = true) → 0 ≤ sE l ∧ sE l ≤ sC l
 | [], _ => by simp [sE, sC]
 | x :: l, h => by
   obtain ⟨h1, h2⟩ := earn_at l (fun y hy => h y (List.mem_cons_of_mem _ hy))
   obtain ⟨g1, g2, g3, g4, g5, g6⟩ := good_at (h x (List.mem_cons_self ..))
   simp only [sE, sC]
   split <;> omega
def earnedA (xs : List At) : Int × Int := if xs.any (fun a => !a.good) then (0, 150) else (sE xs, 0)
def SumsI (w : World) (xs : List At) (pre : List At) (W : World) : Prop :=
 W.cell? ⟨w.heap.size, 0, none⟩ = some (.int .i64 (sC pre)) ∧ W.cell? ⟨w.heap.size + 1, 0, none⟩ = some (.int .i64 (sP pre)) ∧
 W.frozen? ⟨w.heap.size, 0, none⟩ = false ∧ W.frozen? ⟨w.heap.size + 1, 0, none⟩ = false ∧ Below w.heap.size w W
set_option maxRecDepth 100000 in
set_option maxHeartbeats 4000000 in
theorem Sums_any (xs : List At) (A : Option Addr) (c : Nat) (w : World) (hx : Reads w w.heap.size A 5 At.enc xs) (hl : xs.length ≤ 100000) :
 Calls Tryz.prog 37 #[.slice A xs.length c] w fun e w' => e = .returned (.tuple #[.int .i64 (sumsA xs).1, .int .i64 (sumsA xs).2.1, .int .i64 (sumsA xs).2.2]) ∧ Below w.heap.size w w' := by
 have HX := Lib.hid hx
 clear hx
 cases hb : xs.any (fun a => !a.good)
 ·have hg : ∀ x ∈ xs, x.good = true := fun x h => by have := List.any_eq_false.1 hb x h; simpa using this
  have HG := Lib.hid hg
  have HC : Hid (checkA xs = 0) := Lib.hid (by unfold checkA; rw [hb]; rfl)
  have hv : sumsA xs = (sC xs, sP xs, 0) := by unfold sumsA; rw [hb]; rfl
  rw [hv]
  clear hb hg hv
  refine (callsIn_wide (n := 6)).1 ?_
  refine callsIn_of_wp_marks Tryz.func37 rfl trivial ?_ rfl
  simp only [Tryz.ntmps37, List.size_toArray, List.length_cons, List.length_nil, Nat.reduceAdd, Nat.reduceSub, Array.replicate_succ, Array.replicate_zero, List.push_toArray, List.append_toArray, List.nil_append, List.cons_append]
  refine wpIn_wide.2 ?_
  go_wp2_with fail
  refine (check_any xs A c _ (HX.out.below (((Below.refl _ _).alloc (Nat.le_refl _) _).alloc (by simp) _) |>.more (by simp <;> omega)) (by omega)).mono ?_
  rw [HC.out]
  rintro e w1 ⟨rfl, hb1⟩
  have hw1 := hb1.size
  simp only [World.size_alloc] at hw1
  have G1 : Below w.heap.size w w1 := (((Below.refl _ _).alloc (Nat.le_refl _) _).alloc (by simp) _).trans (hb1.mono (by simp <;> omega))
  obtain ⟨lc, lf, hlt1⟩ := below_at w.heap.size rfl (((Below.refl _ _).alloc (by simp) _).trans (hb1.mono (B' := w.heap.size + 1) (by simp <;> omega))) (by omega)
  obtain ⟨mc, mf, hlt2⟩ := below_at (w.heap.size + 1) (by simp) hb1 (by simp)
  have l0 := lc 0
  have f0 := lf 0
  have l1 := mc 0
  have f1 := mf 0
  simp at l0 l1
  clear lc lf mc mf hb1
  go_wp2_with fail
  refine (weights_any A xs.length c _).mono ?_
  rintro e w3 ⟨rfl, hw3⟩
  go_wp2_with fail
  refine (wpIn_wide (n := 5)).1 ?_
  refine abs_world ?_
  intro W3 hW3
  have e3 : W3.heap.size = w1.heap.size + 1 := by rw [hW3]; simp
  have hB31 : Below w1.heap.size w1 W3 := by rw [hW3]; exact (Below.refl _ _).alloc (Nat.le_refl _) _
  have c1 : W3.cell? ⟨w1.heap.size, 0, none⟩ = some (.slice A xs.length c) := by rw [hW3]; simp [go_sem]
  have G3 : Below w.heap.size w W3 := G1.trans (hB31.mono G1.size)
  have I0 : SumsI w xs [] W3 := ⟨(hB31.cell (p := ⟨w.heap.size, 0, none⟩) (by show w.heap.size < w1.heap.size; omega)).trans l0, (hB31.cell (p := ⟨w.heap.size + 1, 0, none⟩) (by show w.heap.size + 1 < w1.heap.size; omega)).trans l1,
   (hB31.frozen (p := ⟨w.heap.size, 0, none⟩) (by show w.heap.size < w1.heap.size; omega)).trans f0, (hB31.frozen (p := ⟨w.heap.size + 1, 0, none⟩) (by show w.heap.size + 1 < w1.heap.size; omega)).trans f1, G3⟩
  have HG3 := Lib.hid G3
  have HI0 := Lib.hid I0
  clear hW3 G3 I0 l0 f0 l1 f1 hB31 G1
  refine wpIn_seq (α := At) rfl (by decide) (gf := 70) (lb := #[.pointer (some ⟨w1.heap.size, 0, none⟩)]) rfl trivial (enters_of Tryz.func70 (by kernel_rfl) rfl)
   (own := fun _ => False) (free := fun b => w.heap.size ≤ b ∧ b < w.heap.size + 2) (fun _ h => h.elim)
   (weights_iter W3 4 w.heap.size w1.heap.size (by omega) xs (by omega) (fun b => w.heap.size ≤ b ∧ b < w.heap.size + 2) (fun b h => by omega) (by omega) A c c1 (HX.out.below HG3.out) (by omega))
   (fun _ => rfl) (SumsI w xs) (fun cc _ _ => False) ?own ?ownx (fun _ _ _ _ _ h => h.elim) (fun _ _ _ _ _ _ h => h.elim) HI0.out
   (fun x a' W => a' = { tmps := #[.slice A xs.length c, undef, .pointer (some ⟨w.heap.size, 0, none⟩), .pointer (some ⟨w.heap.size + 1, 0, none⟩), .int .i64 0, .int .i64 x.grade, .int .i64 x.credits, .slice A xs.length c, .int .i64 0, .int .i64 0, .bool false, undef, .slice A xs.length c, .func (.func 70) #[] #[.pointer (some ⟨w1.heap.size, 0, none⟩)], .int .i64 x.grade, .int .i64 x.credits, undef, undef, undef, undef, undef, undef, undef, undef, undef, undef], defers := [] }) (fun _ _ _ _ _ _ h _ _ => h) ?assign ?body ?done ?stop
  case own =>
   rintro pre W W' row ⟨k1, k2, f1, f2, hB⟩ hg hr
   have hs := hB.size
   exact ⟨cell_kept k1 hg (fun r e => (hr r e).2), cell_kept k2 hg (fun r e => (hr r e).2), (frozen_kept k1 hg (fun r e => (hr r e).2)).trans f1, (frozen_kept k2 hg (fun r e => (hr r e).2)).trans f2, hB.grown hg hs (fun k e => by have := (hr k e).1; omega)⟩
  case ownx => exact fun cc pre W W' row h hg hr => h
  case assign =>
   intro l pre x W K hi hpr hz hK
   gi_wp2
   exact hK _ _ (KeepsOthers.refl _) (Below.refl _ _) rfl
  case body =>
   rintro l pre x a' W ⟨k1, k2, f1, f2, hB⟩ hpr hz rfl
   have za : w.heap.size < W.heap.size := by omega
   have zb : w.heap.size + 1 < W.heap.size := by omega
   obtain ⟨t, ht⟩ := hpr
   have hgx : x.good = true := HG.out x (by rw [← ht]; simp)
   have hgp : ∀ y ∈ pre, y.good = true := fun y hy => HG.out y (by rw [← ht]; simp [hy])
   have hlp : pre.length ≤ 100000 := by have := congrArg List.length ht; simp at this; omega
   obtain ⟨b1, b2, b3, b4⟩ := sums_at pre hgp
   obtain ⟨g1, g2, g3, g4, g5, g6⟩ := good_at hgx
   obtain ⟨s, hs⟩ : ∃ s, s = sC pre := ⟨_, rfl⟩
   obtain ⟨q, hq⟩ : ∃ q, q = sP pre := ⟨_, rfl⟩
   obtain ⟨P, hP⟩ : ∃ P, x.grade * x.credits = P := ⟨_, rfl⟩
   rw [hP] at g5 g6
   rw [← hs] at k1 b1 b2
   rw [← hq] at k2 b3 b4
   have e1 : s ≤ 6000000 := by omega
   have e2 : q ≤ 72000000 := by omega
   have HS : Hid (sC (pre ++ [x]) = s + x.credits) := Lib.hid (by rw [sC_snoc, ← hs])
   have HT : Hid (sP (pre ++ [x]) = q + P) := Lib.hid (by rw [sP_snoc, ← hq, hP])
   have HB := Lib.hid hB
   clear hs hq hB hgp hgx b2 b4 ht hlp
   gi_wp2
   have hB := HB.out
   refine ⟨(KeepsOthers.setCell _ _ _).trans (KeepsOthers.setCell _ _ _),
    Keep.setCell (Keep.setCell (Keep.refl _ _ _) (a := ⟨w.heap.size, 0, none⟩) (.inl ⟨by simp, by simp⟩) _) (a := ⟨w.heap.size + 1, 0, none⟩) (.inl ⟨by simp, by simp⟩) _,
    ?_, ?_, ?_, ?_, (hB.setCell (by simp) _).setCell (by simp) _⟩
   ·rw [set_far _ _ _ _ (addr_ne (by omega)), HS.out]; exact set_at _ _ _ _ k1
   ·rw [HT.out]; exact set_at _ _ _ _ ((set_far _ _ _ _ (addr_ne (by omega))).trans k2)
   ·rw [World.frozen?_setCell, World.frozen?_setCell]; exact f1
   ·rw [World.frozen?_setCell, World.frozen?_setCell]; exact f2
  case done =>
   rintro D' ys W hD rfl ⟨k1, k2, f1, f2, hB⟩ hK
   have za : w.heap.size < W.heap.size := by have := (Array.getElem?_eq_some_iff.1 hK).1; omega
   have zb : w.heap.size + 1 < W.heap.size := by have := (Array.getElem?_eq_some_iff.1 hK).1; omega
   have HK := Lib.hid hK
   have HB := Lib.hid hB
   clear hK hB
   gi_wp2
   go_wp2_with fail
   go_region
   all_goals
    go_wp2_with fail
    obtain ⟨W5, hW5⟩ : ∃ W5, W5 = ((W.setCell ⟨w.heap.size, 0, none⟩ (.int .i64 (sC ys))).setCell ⟨w.heap.size + 1, 0, none⟩ (.int .i64 (sP ys))).drew := ⟨_, rfl⟩
    have p1 : W5.cell? ⟨w.heap.size, 0, none⟩ = some (.int .i64 (sC ys)) := by
     rw [hW5, World.cell?_drew, set_far _ _ _ _ (addr_ne (by omega))]; exact set_at _ _ _ _ k1
    have p2 : W5.cell? ⟨w.heap.size + 1, 0, none⟩ = some (.int .i64 (sP ys)) := by
     rw [hW5, World.cell?_drew]; exact set_at _ _ _ _ ((set_far _ _ _ _ (addr_ne (by omega))).trans k2)
    have hK5 : W5.heap[D']? = some (.deferred (some [])) := by
     rw [hW5]; exact ((KeepsOthers.setCell W ⟨w.heap.size, 0, none⟩ (.int .i64 (sC ys))).trans (KeepsOthers.setCell _ ⟨w.heap.size + 1, 0, none⟩ (.int .i64 (sP ys)))).same D' _ HK.out rfl
    have hB5 : Below w.heap.size w W5 := by
     have hB := HB.out
     rw [hW5]; exact ((hB.setCell (by simp) _).setCell (by simp) _).drew
    rw [← hW5]
    have q1' := cell_kept p1 (grownBy_putObj' _ D' (.deferred none)) (fun r e => by cases e; exact ⟨_, hK5, rfl⟩)
    have q2' := cell_kept p2 (grownBy_putObj' _ D' (.deferred none)) (fun r e => by cases e; exact ⟨_, hK5, rfl⟩)
    have hz5 := hB5.size
    clear hW5
    refine ⟨by simp, .inl ⟨_, _, rfl, run_takeDeferred hK5, ?_⟩⟩
    refine ⟨.tuple #[.int .i64 (sC ys), .int .i64 (sP ys), .int .i64 0], by simp [results, Tryz.results37, go_sem, q1', q2'], rfl, ?_⟩
    exact hB5.grown (grownBy_putObj' _ D' (.deferred none)) (by omega) (fun k e => by cases e; omega)
  case stop => exact fun D' cc pre W hD _ h hK => h.elim
 ·have HC : Hid (checkA xs = 150) := Lib.hid (by unfold checkA; rw [hb]; rfl)
  have hv : sumsA xs = (0, 0, 150) := by unfold sumsA; rw [hb]; rfl
  rw [hv]
  clear hb hv
  go_enter Tryz.func37, Tryz.ntmps37
  go_wp2_with fail
  refine (check_any xs A c _ (HX.out.below (((Below.refl _ _).alloc (Nat.le_refl _) _).alloc (by simp) _) |>.more (by simp <;> omega)) (by omega)).mono ?_
  rw [HC.out]
  rintro e w1 ⟨rfl, hb1⟩
  have hw1 := hb1.size
  simp only [World.size_alloc] at hw1
  have G1 : Below w.heap.size w w1 := (((Below.refl _ _).alloc (Nat.le_refl _) _).alloc (by simp) _).trans (hb1.mono (by simp <;> omega))
  obtain ⟨lc, lf, hlt1⟩ := below_at w.heap.size rfl (((Below.refl _ _).alloc (by simp) _).trans (hb1.mono (B' := w.heap.size + 1) (by simp <;> omega))) (by omega)
  obtain ⟨mc, mf, hlt2⟩ := below_at (w.heap.size + 1) (by simp) hb1 (by simp)
  have l0 := lc 0
  have f0 := lf 0
  have l1 := mc 0
  have f1 := mf 0
  simp at l0 l1
  clear lc lf mc mf hb1
  go_wp2_with fail
  obtain ⟨W5, hW5⟩ : ∃ W5, W5 = (w1.setCell ⟨w.heap.size, 0, none⟩ (.int .i64 0)).setCell ⟨w.heap.size + 1, 0, none⟩ (.int .i64 0) := ⟨_, rfl⟩
  have p1 : W5.cell? ⟨w.heap.size, 0, none⟩ = some (.int .i64 0) := by
   rw [hW5, set_far _ _ _ _ (addr_ne (by omega))]; exact set_at _ _ _ _ l0
  have p2 : W5.cell? ⟨w.heap.size + 1, 0, none⟩ = some (.int .i64 0) := by
   rw [hW5]; exact set_at _ _ _ _ ((set_far _ _ _ _ (addr_ne (by omega))).trans l1)
  have hB5 : Below w.heap.size w W5 := by rw [hW5]; exact (G1.setCell (by simp) _).setCell (by simp) _
  rw [← hW5]
  exact bodyPost_ret (v := .tuple #[.int .i64 0, .int .i64 0, .int .i64 150]) (by simp [results, Tryz.results37, go_sem, p1, p2]) rfl ⟨rfl, hB5⟩
def EarnedI (w : World) (xs : List At) (pre : List At) (W : World) : Prop :=
 W.cell? ⟨w.heap.size, 0, none⟩ = some (.int .i64 (sE pre)) ∧ W.frozen? ⟨w.heap.size, 0, none⟩ = false ∧ Below w.heap.size w W
set_option maxRecDepth 100000 in
set_option maxHeartbeats 4000000 in
theorem Earned_any (xs : List At) (A : Option Addr) (c : Nat) (w : World) (hx : Reads w w.heap.size A 5 At.enc xs) (hl : xs.length ≤ 100000) :
 Calls Tryz.prog 10 #[.slice A xs.length c] w fun e w' => e = .returned (.tuple #[.int .i64 (earnedA xs).1, .int .i64 (earnedA xs).2]) ∧ Below w.heap.size w w' := by
 have HX := Lib.hid hx
 clear hx
 cases hb : xs.any (fun a => !a.good)
 ·have hg : ∀ x ∈ xs, x.good = true := fun x h => by have := List.any_eq_false.1 hb x h; simpa using this
  have HG := Lib.hid hg
  have HC : Hid (checkA xs = 0) := Lib.hid (by unfold checkA; rw [hb]; rfl)
  have hv : earnedA xs = (sE xs, 0) := by unfold earnedA; rw [hb]; rfl
  rw [hv]
  clear hb hg hv
  refine (callsIn_wide (n := 6)).1 ?_
  refine callsIn_of_wp_marks Tryz.func10 rfl trivial ?_ rfl
  simp only [Tryz.ntmps10, List.size_toArray, List.length_cons, List.length_nil, Nat.reduceAdd, Nat.reduceSub, Array.replicate_succ, Array.replicate_zero, List.push_toArray, List.append_toArray, List.nil_append, List.cons_append]
  refine wpIn_wide.2 ?_
  go_wp2_with fail
  refine (check_any xs A c _ (HX.out.below ((Below.refl _ _).alloc (Nat.le_refl _) _) |>.more (by simp <;> omega)) (by omega)).mono ?_
  rw [HC.out]
  rintro e w1 ⟨rfl, hb1⟩
  have hw1 := hb1.size
  simp only [World.size_alloc] at hw1
  have G1 : Below w.heap.size w w1 := ((Below.refl _ _).alloc (Nat.le_refl _) _).trans (hb1.mono (by simp <;> omega))
  obtain ⟨lc, lf, hlt1⟩ := below_at w.heap.size rfl hb1 (by simp)
  have l0 := lc 0
  have f0 := lf 0
  simp at l0
  clear lc lf hb1
  go_wp2_with fail
  refine (weights_any A xs.length c _).mono ?_
  rintro e w3 ⟨rfl, hw3⟩
  go_wp2_with fail
  refine (wpIn_wide (n := 5)).1 ?_
  refine abs_world ?_
  intro W3 hW3
  have e3 : W3.heap.size = w1.heap.size + 1 := by rw [hW3]; simp
  have hB31 : Below w1.heap.size w1 W3 := by rw [hW3]; exact (Below.refl _ _).alloc (Nat.le_refl _) _
  have c1 : W3.cell? ⟨w1.heap.size, 0, none⟩ = some (.slice A xs.length c) := by rw [hW3]; simp [go_sem]
  have G3 : Below w.heap.size w W3 := G1.trans (hB31.mono G1.size)
  have I0 : EarnedI w xs [] W3 := ⟨(hB31.cell (p := ⟨w.heap.size, 0, none⟩) (by show w.heap.size < w1.heap.size; omega)).trans l0,
   (hB31.frozen (p := ⟨w.heap.size, 0, none⟩) (by show w.heap.size < w1.heap.size; omega)).trans f0, G3⟩
  have HG3 := Lib.hid G3
  have HI0 := Lib.hid I0
  clear hW3 G3 I0 l0 f0  hB31 G1
  refine wpIn_seq (α := At) rfl (by decide) (gf := 70) (lb := #[.pointer (some ⟨w1.heap.size, 0, none⟩)]) rfl trivial (enters_of Tryz.func70 (by kernel_rfl) rfl)
   (own := fun _ => False) (free := fun b => w.heap.size ≤ b ∧ b < w.heap.size + 1) (fun _ h => h.elim)
   (weights_iter W3 4 w.heap.size w1.heap.size (by omega) xs (by omega) (fun b => w.heap.size ≤ b ∧ b < w.heap.size + 1) (fun b h => by omega) (by omega) A c c1 (HX.out.below HG3.out) (by omega))
   (fun _ => rfl) (EarnedI w xs) (fun cc _ _ => False) ?own ?ownx (fun _ _ _ _ _ h => h.elim) (fun _ _ _ _ _ _ h => h.elim) HI0.out
   (fun x a' W => a' = { tmps := #[.slice A xs.length c, undef, .pointer (some ⟨w.heap.size, 0, none⟩), .int .i64 0, .int .i64 x.grade, .int .i64 x.credits, .slice A xs.length c, .int .i64 0, .int .i64 0, .bool false, undef, .slice A xs.length c, .func (.func 70) #[] #[.pointer (some ⟨w1.heap.size, 0, none⟩)], .int .i64 x.grade, .int .i64 x.credits, undef, undef, undef, undef, undef, undef], defers := [] }) (fun _ _ _ _ _ _ h _ _ => h) ?assign ?body ?done ?stop
  case own =>
   rintro pre W W' row ⟨k1, f1, hB⟩ hg hr
   have hs := hB.size
   exact ⟨cell_kept k1 hg (fun r e => (hr r e).2), (frozen_kept k1 hg (fun r e => (hr r e).2)).trans f1, hB.grown hg hs (fun k e => by have := (hr k e).1; omega)⟩
  case ownx => exact fun cc pre W W' row h hg hr => h
  case assign =>
   intro l pre x W K hi hpr hz hK
   gi_wp2
   exact hK _ _ (KeepsOthers.refl _) (Below.refl _ _) rfl
  case body =>
   rintro l pre x a' W ⟨k1, f1, hB⟩ hpr hz rfl
   have za : w.heap.size < W.heap.size := by omega
   obtain ⟨t, ht⟩ := hpr
   have hgx : x.good = true := HG.out x (by rw [← ht]; simp)
   have hgp : ∀ y ∈ pre, y.good = true := fun y hy => HG.out y (by rw [← ht]; simp [hy])
   have hlp : pre.length ≤ 100000 := by have := congrArg List.length ht; simp at this; omega
   obtain ⟨b1, b2, b3, b4⟩ := sums_at pre hgp
   obtain ⟨u1, u2⟩ := earn_at pre hgp
   obtain ⟨g1, g2, g3, g4, g5, g6⟩ := good_at hgx
   obtain ⟨s, hs⟩ : ∃ s, s = sE pre := ⟨_, rfl⟩
   rw [← hs] at k1 u1 u2
   have e1 : s ≤ 6000000 := by omega
   have HB := Lib.hid hB
   by_cases hp : 1 ≤ x.grade
   ·have HS : Hid (sE (pre ++ [x]) = s + x.credits) := Lib.hid (by rw [sE_snoc, ← hs, if_pos hp])
    have hd : decide (0 < x.grade) = true := by simp; omega
    clear hs hB hgp hgx b1 b2 b3 b4 u2 ht hlp
    gi_wp2
    have hB := HB.out
    refine ⟨KeepsOthers.setCell _ _ _, Keep.setCell (Keep.refl _ _ _) (a := ⟨w.heap.size, 0, none⟩) (.inl ⟨by simp, by simp⟩) _, ?_, ?_, hB.setCell (by simp) _⟩
    ·rw [HS.out]; exact set_at _ _ _ _ k1
    ·rw [World.frozen?_setCell]; exact f1
   ·have HS : Hid (sE (pre ++ [x]) = s) := Lib.hid (by rw [sE_snoc, ← hs, if_neg hp]; omega)
    have hd : decide (0 < x.grade) = false := by simp; omega
    clear hs hB hgp hgx b1 b2 b3 b4 u2 ht hlp
    gi_wp2
    exact ⟨KeepsOthers.refl _, Keep.refl _ _ _, by rw [HS.out]; exact k1, f1, HB.out⟩
  case done =>
   rintro D' ys W hD rfl ⟨k1, f1, hB⟩ hK
   have za : w.heap.size < W.heap.size := by have := (Array.getElem?_eq_some_iff.1 hK).1; omega
   have HK := Lib.hid hK
   have HB := Lib.hid hB
   clear hK hB
   gi_wp2
   go_wp2_with fail
   obtain ⟨W5, hW5⟩ : ∃ W5, W5 = W.setCell ⟨w.heap.size, 0, none⟩ (.int .i64 (sE ys)) := ⟨_, rfl⟩
   have p1 : W5.cell? ⟨w.heap.size, 0, none⟩ = some (.int .i64 (sE ys)) := by
    rw [hW5]; exact set_at _ _ _ _ k1
   have hK5 : W5.heap[D']? = some (.deferred (some [])) := by
    rw [hW5]; exact (KeepsOthers.setCell W ⟨w.heap.size, 0, none⟩ (.int .i64 (sE ys))).same D' _ HK.out rfl
   have hB5 : Below w.heap.size w W5 := by
    have hB := HB.out
    rw [hW5]; exact hB.setCell (by simp) _
   rw [← hW5]
   have q1' := cell_kept p1 (grownBy_putObj' _ D' (.deferred none)) (fun r e => by cases e; exact ⟨_, hK5, rfl⟩)
   have hz5 := hB5.size
   clear hW5
   refine ⟨by simp, .inl ⟨_, _, rfl, run_takeDeferred hK5, ?_⟩⟩
   refine ⟨.tuple #[.int .i64 (sE ys), .int .i64 0], by simp [results, Tryz.results10, go_sem, q1'], rfl, ?_⟩
   exact hB5.grown (grownBy_putObj' _ D' (.deferred none)) (by omega) (fun k e => by cases e; omega)
  case stop => exact fun D' cc pre W hD _ h hK => h.elim
 ·have HC : Hid (checkA xs = 150) := Lib.hid (by unfold checkA; rw [hb]; rfl)
  have hv : earnedA xs = (0, 150) := by unfold earnedA; rw [hb]; rfl
  rw [hv]
  clear hb hv
  go_enter Tryz.func10, Tryz.ntmps10
  go_wp2_with fail
  refine (check_any xs A c _ (HX.out.below ((Below.refl _ _).alloc (Nat.le_refl _) _) |>.more (by simp <;> omega)) (by omega)).mono ?_
  rw [HC.out]
  rintro e w1 ⟨rfl, hb1⟩
  have hw1 := hb1.size
  simp only [World.size_alloc] at hw1
  have G1 : Below w.heap.size w w1 := ((Below.refl _ _).alloc (Nat.le_refl _) _).trans (hb1.mono (by simp <;> omega))
  obtain ⟨lc, lf, hlt1⟩ := below_at w.heap.size rfl hb1 (by simp)
  have l0 := lc 0
  have f0 := lf 0
  simp at l0
  clear lc lf hb1
  go_wp2_with fail
  obtain ⟨W5, hW5⟩ : ∃ W5, W5 = w1.setCell ⟨w.heap.size, 0, none⟩ (.int .i64 0) := ⟨_, rfl⟩
  have p1 : W5.cell? ⟨w.heap.size, 0, none⟩ = some (.int .i64 0) := by
   rw [hW5]; exact set_at _ _ _ _ l0
  have hB5 : Below w.heap.size w W5 := by rw [hW5]; exact G1.setCell (by simp) _
  rw [← hW5]
  exact bodyPost_ret (v := .tuple #[.int .i64 0, .int .i64 150]) (by simp [results, Tryz.results10, go_sem, p1]) rfl ⟨rfl, hB5⟩
end Go.Proofs.YtalmbigebjbaoaaGreatDoor
