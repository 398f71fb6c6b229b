/- Mean: a range over pairs. -/
import Derived.Test.YtaogcmgbmomilaaRatG
namespace Go.Proofs.Ytaogcmgbmomilaa
open Go.RowKit Go.Shelf
set_option linter.unusedSimpArgs false
set_option linter.unusedVariables false
attribute [local go_sem] Oper.semAt_some

def badP (x : Int × Int) : Bool := decide (x.1 < -1048576) || (decide (1048576 < x.1) || (decide (x.2 < 0) || decide (1048576 < x.2)))
def sVW : List (Int × Int) → Int
  | [] => 0
  | x :: l => x.1 * x.2 + sVW l
def sW : List (Int × Int) → Int
  | [] => 0
  | x :: l => x.2 + sW l
theorem sVW_snoc (x : Int × Int) : ∀ l, sVW (l ++ [x]) = sVW l + x.1 * x.2
  | [] => by simp [sVW]
  | y :: l => by simp only [List.cons_append, sVW, sVW_snoc x l]; omega
theorem sW_snoc (x : Int × Int) : ∀ l, sW (l ++ [x]) = sW l + x.2
  | [] => by simp [sW]
  | y :: l => by simp only [List.cons_append, sW, sW_snoc x l]; omega
theorem good_pair {x : Int × Int} (h : badP x = false) : -1048576 ≤ x.1 ∧ x.1 ≤ 1048576 ∧ 0 ≤ x.2 ∧ x.2 ≤ 1048576 := by
  simp [badP] at h; omega
theorem prod_pair {x : Int × Int} (h : badP x = false) : -1099511627776 ≤ x.1 * x.2 ∧ x.1 * x.2 ≤ 1099511627776 := by
  obtain ⟨h1, h2, h3, h4⟩ := good_pair h
  have hx : x.1.natAbs ≤ 1048576 := by omega
  have hy : x.2.natAbs ≤ 1048576 := by omega
  have h : (x.1 * x.2).natAbs ≤ 1048576 * 1048576 := by rw [Int.natAbs_mul]; exact Nat.mul_le_mul hx hy
  omega
theorem sums_le : ∀ l : List (Int × Int), (∀ x ∈ l, badP x = false) → -(1099511627776 * (l.length : Int)) ≤ sVW l ∧ sVW l ≤ 1099511627776 * (l.length : Int) ∧ 0 ≤ sW l ∧ sW l ≤ 1048576 * (l.length : Int)
  | [], _ => by simp [sVW, sW]
  | x :: l, h => by
    obtain ⟨h1, h2, h3, h4⟩ := sums_le l (fun y hy => h y (List.mem_cons_of_mem _ hy))
    obtain ⟨p1, p2⟩ := prod_pair (h x (List.mem_cons_self ..))
    obtain ⟨g1, g2, g3, g4⟩ := good_pair (h x (List.mem_cons_self ..))
    simp only [sVW, sW, List.length_cons]
    omega

/-- Mean -/
def meanP (us vs : List Int) : Ra × Int :=
  if us.length = vs.length then (if (us.zip vs).any badP then (⟨0, 0⟩, 1) else newP (sVW (us.zip vs)) (max (sW (us.zip vs)) 1)) else (⟨0, 0⟩, 1)

theorem addr_ne {b b' o o' : Nat} (h : b ≠ b' ∨ o ≠ o') : (⟨b, o, none⟩ : Addr) ≠ ⟨b', o', none⟩ := by
  intro e
  have h1 := congrArg Addr.block e
  have h2 := congrArg Addr.off e
  simp only at h1 h2
  omega
theorem set_at (W : World) (a : Addr) (v u : Value) (h : W.cell? a = some u) : (W.setCell a v).cell? a = some v := by
  rw [cell_set_if _ _ _ _ (by rw [h]; rfl), if_pos rfl]
theorem set_far (W : World) (a b : Addr) (v : Value) (h : a ≠ b) : (W.setCell a v).cell? b = W.cell? b := by
  first | exact World.cell?_setCell_other _ _ _ _ h | exact World.cell?_setCell_other _ _ _ _ h.symm

/-- between two rounds -/
def MeanI (w : World) (pre : List (Int × Int)) (W : World) : Prop :=
  W.cell? ⟨w.heap.size, 0, none⟩ = some (.int .i64 0) ∧ W.cell? ⟨w.heap.size, 1, none⟩ = some (.int .i64 0) ∧ W.cell? ⟨w.heap.size + 1, 0, none⟩ = some (.int .i64 0) ∧
  W.cell? ⟨w.heap.size + 1 + 1, 0, none⟩ = some (.int .i64 (sVW pre)) ∧ W.cell? ⟨w.heap.size + 1 + 1 + 1, 0, none⟩ = some (.int .i64 (sW pre)) ∧
  W.frozen? ⟨w.heap.size, 0, none⟩ = false ∧ W.frozen? ⟨w.heap.size, 1, none⟩ = false ∧ W.frozen? ⟨w.heap.size + 1, 0, none⟩ = false ∧ W.frozen? ⟨w.heap.size + 1 + 1, 0, none⟩ = false ∧ W.frozen? ⟨w.heap.size + 1 + 1 + 1, 0, none⟩ = false ∧
  (∀ x ∈ pre, badP x = false) ∧ Below w.heap.size w W
/-- behind a round that has returned -/
def MeanX (w : World) (us vs : List Int) (c : Code) (W : World) : Prop :=
  c = .ret ∧ W.cell? ⟨w.heap.size, 0, none⟩ = some (.int .i64 0) ∧ W.cell? ⟨w.heap.size, 1, none⟩ = some (.int .i64 0) ∧ W.cell? ⟨w.heap.size + 1, 0, none⟩ = some (.int .i64 1) ∧ (us.zip vs).any badP = true ∧ Below w.heap.size w W

set_option maxRecDepth 100000 in
set_option maxHeartbeats 4000000 in
theorem Mean_any (us vs : List Int) (A D : Option Addr) (c d : Nat) (w : World) (hx : Reads w w.heap.size A 1 intE us) (hy : Reads w w.heap.size D 1 intE vs) (hm : us.length ≤ 100000) :
    Calls Try.prog 22 #[.slice A us.length c, .slice D vs.length d] w fun e w' => e = .returned (.tuple #[(meanP us vs).1.v, .int .i64 (meanP us vs).2]) ∧ Below w.heap.size w w' := by
  have HX := Lib.hid hx
  have HY := Lib.hid hy
  clear hx hy
  by_cases hlen : us.length = vs.length
  · obtain ⟨⟨⟨n, d'⟩, E⟩, hr⟩ : ∃ r, r = meanP us vs := ⟨_, rfl⟩
    rw [← hr]
    have HR := Lib.hid hr
    have HL := Lib.hid hlen
    have q1 : ((us.length : Int) == (vs.length : Int)) = true := by simp [hlen]
    clear hr hlen
    simp only [Ra.v]
    refine (callsIn_wide (n := 6)).1 ?_
    refine callsIn_of_wp_marks Try.func22 rfl trivial ?_ rfl
    simp only [Try.ntmps22, List.size_toArray, List.length_cons, List.length_nil, Nat.reduceAdd, Nat.reduceSub, Array.replicate_succ, Array.replicate_zero, List.push_toArray, List.append_toArray, List.nil_append, List.cons_append]
    refine wpIn_wide.2 ?_
    go_wp2_with fail
    refine (pairs_any _ _ _ _ _ _ _).mono ?_
    rintro e w3 ⟨rfl, hw3⟩
    go_wp2_with fail
    refine (wpIn_wide (n := 5)).1 ?_
    refine abs_world ?_
    intro W3 hW3
    have e3 : W3.heap.size = w.heap.size + 6 := by rw [hW3]; simp
    have c1 : W3.cell? ⟨w.heap.size + 1 + 1 + 1 + 1, 0, none⟩ = some (.slice A us.length c) := by rw [hW3]; simp [go_sem]
    have c2 : W3.cell? ⟨w.heap.size + 1 + 1 + 1 + 1 + 1, 0, none⟩ = some (.slice D vs.length d) := by rw [hW3]; simp [go_sem]
    have G3 : Below w.heap.size w W3 := by rw [hW3]; exact ((((((Below.refl _ _).alloc (Nat.le_refl _) _).alloc (by simp) _).alloc (by simp; omega) _).alloc (by simp; omega) _).alloc (by simp; omega) _).alloc (by simp; omega) _
    have I0 : MeanI w [] W3 := by
      refine ⟨?_, ?_, ?_, ?_, ?_, ?_, ?_, ?_, ?_, ?_, fun _ h => absurd h (by simp), G3⟩ <;> (rw [hW3]; simp [go_sem, sVW, sW])
    have HG3 := Lib.hid G3
    have HI0 := Lib.hid I0
    clear hW3 G3 I0
    refine wpIn_seq (α := Int × Int) rfl (by decide) (gf := 39) (lb := #[.pointer (some ⟨w.heap.size + 1 + 1 + 1 + 1, 0, none⟩), .pointer (some ⟨w.heap.size + 1 + 1 + 1 + 1 + 1, 0, none⟩)]) rfl trivial (enters_of Try.func39 (by kernel_rfl) rfl)
      (own := fun _ => False) (free := fun b => w.heap.size ≤ b ∧ b < w.heap.size + 4) (fun _ h => h.elim)
      (pairs_iter W3 4 w.heap.size (w.heap.size + 1 + 1 + 1 + 1) (w.heap.size + 1 + 1 + 1 + 1 + 1) (by omega) (by omega) us vs HL.out (by omega) (fun b => w.heap.size ≤ b ∧ b < w.heap.size + 4) (fun b h => by omega) (by omega) A D c d c1 c2 (HX.out.below HG3.out) (HY.out.below HG3.out) (by omega) (by omega))
      (fun _ => rfl) (MeanI w) (fun cc _ => MeanX w us vs cc) ?own ?ownx (fun _ _ _ _ _ h => h.elim) (fun _ _ _ _ _ _ h => h.elim) HI0.out
      (fun x a' W => a' = { tmps := #[.slice A us.length c, .slice D vs.length d, undef, undef, .pointer (some ⟨w.heap.size, 0, none⟩), .pointer (some ⟨w.heap.size + 1, 0, none⟩), .pointer (some ⟨w.heap.size + 1 + 1, 0, none⟩), .pointer (some ⟨w.heap.size + 1 + 1 + 1, 0, none⟩), .int .i64 x.1, .int .i64 x.2, .slice A us.length c, .int .i64 us.length, .slice D vs.length d, .int .i64 vs.length, .bool false, undef, .slice A us.length c, .slice D vs.length d, .func (.func 39) #[] #[.pointer (some ⟨w.heap.size + 1 + 1 + 1 + 1, 0, none⟩), .pointer (some ⟨w.heap.size + 1 + 1 + 1 + 1 + 1, 0, none⟩)], .int .i64 x.1, .int .i64 x.2, undef, undef, undef, undef, undef, undef, undef, undef, undef, undef, undef, undef, undef, undef, undef, undef, undef, undef, undef, undef, undef, undef, undef, undef, undef, undef, undef, undef, undef, undef, undef, undef, undef], defers := [] }) (fun _ _ _ _ _ _ h _ _ => h) ?assign ?body ?done ?stop
    case own =>
      rintro pre W W' row ⟨k1, k2, k3, k4, k5, f1, f2, f3, f4, f5, hb, hB⟩ hg hr
      have hs := hB.size
      exact ⟨cell_kept k1 hg (fun r e => (hr r e).2), cell_kept k2 hg (fun r e => (hr r e).2), cell_kept k3 hg (fun r e => (hr r e).2), cell_kept k4 hg (fun r e => (hr r e).2), cell_kept k5 hg (fun r e => (hr r e).2),
        (frozen_kept k1 hg (fun r e => (hr r e).2)).trans f1, (frozen_kept k2 hg (fun r e => (hr r e).2)).trans f2, (frozen_kept k3 hg (fun r e => (hr r e).2)).trans f3, (frozen_kept k4 hg (fun r e => (hr r e).2)).trans f4, (frozen_kept k5 hg (fun r e => (hr r e).2)).trans f5,
        hb, hB.grown hg hs (fun k e => by have := (hr k e).1; omega)⟩
    case ownx =>
      rintro cc pre W W' row ⟨k0, k1, k2, k3, hb, hB⟩ hg hr
      have hs := hB.size
      exact ⟨k0, cell_kept k1 hg (fun r e => (hr r e).2), cell_kept k2 hg (fun r e => (hr r e).2), cell_kept k3 hg (fun r e => (hr r e).2), hb, hB.grown hg hs (fun k e => by have := (hr k e).1; omega)⟩
    case assign =>
      intro l pre x W K hi hpr hz hK
      gi_wp2
      exact hK _ _ (KeepsOthers.refl _) (Below.refl _ _) rfl
    case body =>
      rintro l pre x a' W ⟨k1, k2, k3, k4, k5, f1, f2, f3, f4, f5, hb, hB⟩ hpr hz rfl
      have z1 : w.heap.size + 6 ≤ W.heap.size := by omega
      have za : w.heap.size < W.heap.size := by omega
      have zb : w.heap.size + 1 < W.heap.size := by omega
      have zc : w.heap.size + 1 + 1 < W.heap.size := by omega
      have zd : w.heap.size + 1 + 1 + 1 < W.heap.size := by omega
      obtain ⟨sv, hsv⟩ : ∃ s, s = sVW pre := ⟨_, rfl⟩
      obtain ⟨sw, hsw⟩ : ∃ s, s = sW pre := ⟨_, rfl⟩
      obtain ⟨b1, b2, b3, b4⟩ := sums_le pre hb
      have hlp : pre.length ≤ 100000 := by
        obtain ⟨t, ht⟩ := hpr
        have := congrArg List.length ht
        simp at this; omega
      rw [← hsv] at k4 b1 b2
      rw [← hsw] at k5 b3 b4
      have HSV := Lib.hid hsv
      have HSW := Lib.hid hsw
      have HPR := Lib.hid hpr
      have HBD := Lib.hid hb
      have HBW := Lib.hid hB
      clear hsv hsw hpr hb hB
      cases hbad : badP x
      · obtain ⟨g1, g2, g3, g4⟩ := good_pair hbad
        obtain ⟨p1, p2⟩ := prod_pair hbad
        obtain ⟨v, y⟩ := x
        simp only at g1 g2 g3 g4 p1 p2
        obtain ⟨P, hP⟩ : ∃ P, v * y = P := ⟨_, rfl⟩
        rw [hP] at p1 p2
        have d1 : decide (v < -1048576) = false := by simp; omega
        have d2 : decide (1048576 < v) = false := by simp; omega
        have d3 : decide (y < 0) = false := by simp; omega
        have d4 : decide (1048576 < y) = false := by simp; omega
        have HBAD := Lib.hid hbad
        clear hbad
        have hS : sVW (pre ++ [(v, y)]) = sv + P := by rw [sVW_snoc, ← HSV.out]; show sv + v * y = sv + P; rw [hP]
        have hT : sW (pre ++ [(v, y)]) = sw + y := by rw [sW_snoc, ← HSW.out]
        have HS := Lib.hid hS
        have HT := Lib.hid hT
        clear hS hT
        gi_wp2
        have hB := HBW.out
        refine ⟨(KeepsOthers.setCell _ _ _).trans (KeepsOthers.setCell _ _ _),
          Keep.setCell (Keep.setCell (Keep.refl _ _ _) (a := ⟨w.heap.size + 1 + 1, 0, none⟩) (.inl ⟨by simp; omega, by simp⟩) _) (a := ⟨w.heap.size + 1 + 1 + 1, 0, none⟩) (.inl ⟨by simp; omega, by simp⟩) _,
          ?_, ?_, ?_, ?_, ?_, ?_, ?_, ?_, ?_, ?_, ?_, (hB.setCell (by simp; omega) _).setCell (by simp; omega) _⟩
        · rw [set_far _ _ _ _ (addr_ne (by omega)), set_far _ _ _ _ (addr_ne (by omega))]; exact k1
        · rw [set_far _ _ _ _ (addr_ne (by omega)), set_far _ _ _ _ (addr_ne (by omega))]; exact k2
        · rw [set_far _ _ _ _ (addr_ne (by omega)), set_far _ _ _ _ (addr_ne (by omega))]; exact k3
        · rw [set_far _ _ _ _ (addr_ne (by omega)), HS.out]; exact set_at _ _ _ _ k4
        · rw [HT.out]; exact set_at _ _ _ _ ((set_far _ _ _ _ (addr_ne (by omega))).trans k5)
        · rw [World.frozen?_setCell, World.frozen?_setCell]; exact f1
        · rw [World.frozen?_setCell, World.frozen?_setCell]; exact f2
        · rw [World.frozen?_setCell, World.frozen?_setCell]; exact f3
        · rw [World.frozen?_setCell, World.frozen?_setCell]; exact f4
        · rw [World.frozen?_setCell, World.frozen?_setCell]; exact f5
        · intro z hz
          rcases List.mem_append.1 hz with h | h
          · exact HBD.out z h
          · obtain rfl := List.mem_singleton.1 h
            exact HBAD.out
      · have hany : (us.zip vs).any badP = true := by
          obtain ⟨t, ht⟩ := HPR.out
          rw [← ht]
          simp [hbad]
        obtain ⟨v, y⟩ := x
        have hcase : decide (v < -1048576) = true ∨ (decide (v < -1048576) = false ∧ decide (1048576 < v) = true) ∨ (decide (v < -1048576) = false ∧ decide (1048576 < v) = false ∧ decide (y < 0) = true) ∨ (decide (v < -1048576) = false ∧ decide (1048576 < v) = false ∧ decide (y < 0) = false ∧ decide (1048576 < y) = true) := by
          simp [badP] at hbad
          simp
          omega
        have HANY := Lib.hid hany
        clear hbad hany
        rcases hcase with d1 | ⟨d1, d2⟩ | ⟨d1, d2, d3⟩ | ⟨d1, d2, d3, d4⟩
        all_goals
          gi_wp2
          have hB := HBW.out
          refine ⟨((KeepsOthers.setCell _ _ _).trans (KeepsOthers.setCell _ _ _)).trans (KeepsOthers.setCell _ _ _), rfl, ?_, ?_, ?_, HANY.out, ((hB.setCell (by simp) _).setCell (by simp) _).setCell (by simp) _⟩
          · rw [set_far _ _ _ _ (addr_ne (by omega)), set_far _ _ _ _ (addr_ne (by omega))]; exact set_at _ _ _ _ k1
          · rw [set_far _ _ _ _ (addr_ne (by omega))]; exact set_at _ _ _ _ ((set_far _ _ _ _ (addr_ne (by omega))).trans k2)
          · exact set_at _ _ _ _ ((set_far _ _ _ _ (addr_ne (by omega))).trans ((set_far _ _ _ _ (addr_ne (by omega))).trans k3))
    case done =>
      rintro D' xs W hD rfl ⟨k1, k2, k3, k4, k5, f1, f2, f3, f4, f5, hb, hB⟩ hK
      have HK := Lib.hid hK
      have HBD := Lib.hid hb
      have HBW := Lib.hid hB
      clear hK hb hB
      have hnb : (us.zip vs).any badP = false := by
        rw [List.any_eq_false]
        intro x hx
        simp [HBD.out x hx]
      have hzl : (us.zip vs).length ≤ 100000 := by simp; omega
      obtain ⟨b1, b2, b3, b4⟩ := sums_le _ HBD.out
      obtain ⟨sv, hsv⟩ : ∃ s, s = sVW (us.zip vs) := ⟨_, rfl⟩
      obtain ⟨sw, hsw⟩ : ∃ s, s = sW (us.zip vs) := ⟨_, rfl⟩
      rw [← hsv] at k4 b1 b2
      rw [← hsw] at k5 b3 b4
      have hnew : newP sv (max sw 1) = (⟨n, d'⟩, E) := by
        rw [HR.out, meanP, if_pos HL.out, hnb, hsv, hsw]; rfl
      have HN := Lib.hid hnew
      have q2 : decide ((1048576 : Int) < (us.length : Int)) = false := by simp; omega
      have hB := HBW.out
      have hzs := hB.size
      have hmx : (1 ≤ sw ∧ newP sv sw = (⟨n, d'⟩, E)) ∨ (¬ 1 ≤ sw ∧ newP sv 1 = (⟨n, d'⟩, E)) := by
        by_cases h : 1 ≤ sw
        · left; rw [show max sw 1 = sw from by omega] at hnew; exact ⟨h, hnew⟩
        · right; rw [show max sw 1 = 1 from by omega] at hnew; exact ⟨h, hnew⟩
      clear hnb hsv hsw hnew
      rcases hmx with ⟨hp, hn2⟩ | ⟨hp, hn2⟩
      all_goals
        have HN2 := Lib.hid hn2
        clear hn2
        gi_wp2
        go_wp2_with fail
        try any_goals (exfalso; omega)
        refine Calls.mono (New_any _ _ ?_ ?_ _) ?_
        · exact I64_of (by omega) (by omega)
        · exact I64_of (by omega) (by omega)
        rw [HN2.out]
        simp only [Ra.v]
        rintro e w9 ⟨rfl, hb9⟩
        have hDl : D' < W.heap.size := (Array.getElem?_eq_some_iff.1 HK.out).1
        have hK9 : w9.heap[D']? = some (.deferred (some [])) := (hb9.block D' hDl).trans HK.out
        have z0 : w.heap.size < W.heap.size := by omega
        have z1 : w.heap.size + 1 < W.heap.size := by omega
        have m1 := (hb9.cell (p := ⟨w.heap.size, 0, none⟩) z0).trans k1
        have m2 := (hb9.cell (p := ⟨w.heap.size, 1, none⟩) z0).trans k2
        have m3 := (hb9.cell (p := ⟨w.heap.size + 1, 0, none⟩) z1).trans k3
        have g1 := (hb9.frozen (p := ⟨w.heap.size, 0, none⟩) z0).trans f1
        have g2 := (hb9.frozen (p := ⟨w.heap.size, 1, none⟩) z0).trans f2
        have g3 := (hb9.frozen (p := ⟨w.heap.size + 1, 0, none⟩) z1).trans f3
        have hz9 := hb9.size
        have z3 : w.heap.size < w9.heap.size := by omega
        have z4 : w.heap.size + 1 < w9.heap.size := by omega
        have hB9 : Below w.heap.size w w9 := HBW.out.trans (hb9.mono (by omega))
        have HK9 := Lib.hid hK9
        have HB9 := Lib.hid hB9
        clear hK9 hB9 hb9 k1 k2 k3 k4 k5 f1 f2 f3 f4 f5 hDl
        go_wp2_with fail
        obtain ⟨W5, hW5⟩ : ∃ W5, W5 = ((w9.setCell ⟨w.heap.size, 0, none⟩ (.int .i64 n)).setCell ⟨w.heap.size, 1, none⟩ (.int .i64 d')).setCell ⟨w.heap.size + 1, 0, none⟩ (.int .i64 E) := ⟨_, rfl⟩
        have p1 : W5.cell? ⟨w.heap.size, 0, none⟩ = some (.int .i64 n) := by
          rw [hW5, set_far _ _ _ _ (addr_ne (by omega)), set_far _ _ _ _ (addr_ne (by omega))]; exact set_at _ _ _ _ m1
        have p2 : W5.cell? ⟨w.heap.size, 1, none⟩ = some (.int .i64 d') := by
          rw [hW5, set_far _ _ _ _ (addr_ne (by omega))]; exact set_at _ _ _ _ ((set_far _ _ _ _ (addr_ne (by omega))).trans m2)
        have p3 : W5.cell? ⟨w.heap.size + 1, 0, none⟩ = some (.int .i64 E) := by
          rw [hW5]; exact set_at _ _ _ _ ((set_far _ _ _ _ (addr_ne (by omega))).trans ((set_far _ _ _ _ (addr_ne (by omega))).trans m3))
        have hK5 : W5.heap[D']? = some (.deferred (some [])) := by
          rw [hW5]; exact (((KeepsOthers.setCell w9 ⟨w.heap.size, 0, none⟩ (.int .i64 n)).trans (KeepsOthers.setCell _ ⟨w.heap.size, 1, none⟩ (.int .i64 d'))).trans (KeepsOthers.setCell _ ⟨w.heap.size + 1, 0, none⟩ (.int .i64 E))).same D' _ HK9.out rfl
        have hB5 : Below w.heap.size w W5 := by
          have hB := HB9.out
          rw [hW5]; exact ((hB.setCell (by simp) _).setCell (by simp) _).setCell (by simp) _
        rw [← hW5]
        clear hW5
        have q1' := cell_kept p1 (grownBy_putObj' _ D' (.deferred none)) (fun r e => by cases e; exact ⟨_, hK5, rfl⟩)
        have q2' := cell_kept p2 (grownBy_putObj' _ D' (.deferred none)) (fun r e => by cases e; exact ⟨_, hK5, rfl⟩)
        have q3' := cell_kept p3 (grownBy_putObj' _ D' (.deferred none)) (fun r e => by cases e; exact ⟨_, hK5, rfl⟩)
        have hz5 := hB5.size
        refine ⟨by simp, .inl ⟨_, _, rfl, run_takeDeferred hK5, ?_⟩⟩
        refine ⟨.tuple #[.agg #[.int .i64 n, .int .i64 d'], .int .i64 E], by simp [results, Try.results22, go_sem, q1', q2', q3'], rfl, ?_⟩
        exact hB5.grown (grownBy_putObj' _ D' (.deferred none)) (by omega) (fun k e => by cases e; omega)
    case stop =>
      rintro D' cc pre W hD _ ⟨rfl, k1, k2, k3, hb, hB⟩ hK
      have HK := Lib.hid hK
      have HBW := Lib.hid hB
      have HAN := Lib.hid hb
      have hme : (⟨n, d'⟩, E) = ((⟨0, 0⟩, 1) : Ra × Int) := by
        rw [HR.out, meanP, if_pos HL.out, HAN.out]; rfl
      simp only [Prod.mk.injEq, Ra.mk.injEq] at hme
      obtain ⟨⟨rfl, rfl⟩, rfl⟩ := hme
      clear hK hB hb
      gi_wp2
      have hK' := HK.out
      refine ⟨by simp, .inl ⟨_, _, rfl, run_takeDeferred hK', ?_⟩⟩
      have p1 := cell_kept k1 (grownBy_putObj' _ D' (.deferred none)) (fun r e => by cases e; exact ⟨_, hK', rfl⟩)
      have p2 := cell_kept k2 (grownBy_putObj' _ D' (.deferred none)) (fun r e => by cases e; exact ⟨_, hK', rfl⟩)
      have p3 := cell_kept k3 (grownBy_putObj' _ D' (.deferred none)) (fun r e => by cases e; exact ⟨_, hK', rfl⟩)
      have hzw := HBW.out.size
      refine ⟨.tuple #[.agg #[.int .i64 0, .int .i64 0], .int .i64 1], by simp [results, Try.results22, go_sem, p1, p2, p3], rfl, ?_⟩
      exact HBW.out.grown (grownBy_putObj' _ D' (.deferred none)) (by omega) (fun k e => by cases e; omega)
  · have hp : meanP us vs = (⟨0, 0⟩, 1) := by simp [meanP, hlen]
    rw [hp]
    have q1 : ((us.length : Int) == (vs.length : Int)) = false := by simp; omega
    clear hp hlen
    go_enter Try.func22, Try.ntmps22
    go_wp2_with fail
    exact bodyPost_ret (v := .tuple #[.agg #[.int .i64 0, .int .i64 0], .int .i64 1]) (by simp [results, Try.results22, go_sem]) rfl ⟨rfl, by go_grown⟩
end Go.Proofs.Ytaogcmgbmomilaa
