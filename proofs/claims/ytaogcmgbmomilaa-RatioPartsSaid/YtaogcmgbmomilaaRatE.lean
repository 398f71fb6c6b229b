/- Add, Mul, Compare, and their references. -/
import Derived.Test.YtaogcmgbmomilaaRatD
import Derived.Test.YtaogcmgbmomilaaSeq
namespace Go.Proofs.Ytaogcmgbmomilaa
open Go.RowKit Go.Shelf
set_option linter.unusedSimpArgs false
set_option linter.unusedVariables false

def addP (a b : Ra) : Ra × Int := if okR a ∧ okR b then newP (a.num * b.den + b.num * a.den) (a.den * b.den) else (⟨0, 0⟩, 50)
def mulP (a b : Ra) : Ra × Int := if okR a ∧ okR b then newP (a.num * b.num) (a.den * b.den) else (⟨0, 0⟩, 50)
def cmpP (a b : Ra) : Int × Int := if okR a ∧ okR b then (cmpI (a.num * b.den) (b.num * a.den), 0) else (0, 50)

set_option maxHeartbeats 2000000 in
theorem Mul1_any (a b : Ra) (ha : okR a) (hb : okR b) (Ba Bb : Nat) (w : World) (z1 : Ba < w.heap.size) (z2 : Bb < w.heap.size)
    (a0 : w.cell? ⟨Ba, 0, none⟩ = some (.int .i64 a.num)) (a1 : w.cell? ⟨Ba, 1, none⟩ = some (.int .i64 a.den)) (b0 : w.cell? ⟨Bb, 0, none⟩ = some (.int .i64 b.num)) (b1 : w.cell? ⟨Bb, 1, none⟩ = some (.int .i64 b.den)) :
    Calls Try.prog 32 #[.pointer (some ⟨Ba, 0, none⟩), .pointer (some ⟨Bb, 0, none⟩)] w fun e w' => e = .returned (.tuple #[(newP (a.num * b.num) (a.den * b.den)).1.v, .int .i64 (newP (a.num * b.num) (a.den * b.den)).2]) ∧ Below w.heap.size w w' := by
  obtain ⟨P, Q, R, T, hP, hQ, hR, hT, p1, p2, q1, q2, r1, r2, t1, t2⟩ := prods ha hb
  rw [hT, hR]
  clear ha hb hP hQ p1 p2 q1 q2 P Q
  obtain ⟨⟨⟨n, d⟩, E⟩, hr⟩ : ∃ r, r = newP T R := ⟨_, rfl⟩
  rw [← hr]
  have HR := Lib.hid hr
  clear hr
  simp only [Ra.v]
  go_enter Try.func32, Try.ntmps32
  go_wp2_with fail
  refine (New_any T R (I64_of (by omega) (by omega)) (I64_of (by omega) (by omega)) _).mono ?_
  rw [← HR.out]
  simp only [Ra.v]
  rintro e w1 ⟨rfl, hb1⟩
  obtain ⟨lc, lf, hlt1⟩ := below_at w.heap.size rfl hb1 (by simp)
  have l0 := lc 0
  have l1 := lc 1
  have lf0 := lf 0
  have lf1 := lf 1
  simp at l0 l1
  have B1 : Below w.heap.size w w1 := ((Below.refl _ _).alloc (Nat.le_refl _) _).trans (hb1.mono (by simp))
  clear hb1 lc lf
  go_wp2_with fail
  have hc := setB (setA ⟨l0, l1⟩ (.int .i64 n)) (.int .i64 d)
  exact bodyPost_ret (v := .tuple #[.agg #[.int .i64 n, .int .i64 d], .int .i64 E]) (by simp [results, Try.results32, go_sem, hc.1, hc.2, hlt1]) rfl ⟨rfl, by go_grown⟩

set_option maxHeartbeats 2000000 in
theorem Compare1_any (a b : Ra) (ha : okR a) (hb : okR b) (Ba Bb : Nat) (w : World) (z1 : Ba < w.heap.size) (z2 : Bb < w.heap.size)
    (a0 : w.cell? ⟨Ba, 0, none⟩ = some (.int .i64 a.num)) (a1 : w.cell? ⟨Ba, 1, none⟩ = some (.int .i64 a.den)) (b0 : w.cell? ⟨Bb, 0, none⟩ = some (.int .i64 b.num)) (b1 : w.cell? ⟨Bb, 1, none⟩ = some (.int .i64 b.den)) :
    Calls Try.prog 34 #[.pointer (some ⟨Ba, 0, none⟩), .pointer (some ⟨Bb, 0, none⟩)] w fun e w' => e = .returned (.tuple #[.int .i64 (cmpI (a.num * b.den) (b.num * a.den)), .int .i64 0]) ∧ Below w.heap.size w w' := by
  obtain ⟨P, Q, R, T, hP, hQ, hR, hT, p1, p2, q1, q2, r1, r2, t1, t2⟩ := prods ha hb
  rw [hP, hQ]
  clear ha hb hR hT r1 r2 t1 t2 R T
  go_enter Try.func34, Try.ntmps34
  go_wp2_with fail
  refine (Compare_any P Q _).mono ?_
  rintro e w1 ⟨rfl, rfl⟩
  go_wp2_with fail
  go_ret2
  exact ⟨rfl, by go_grown⟩

set_option maxHeartbeats 2000000 in
theorem Add_any (a b : Ra) (ha : a.i64) (hb : b.i64) (w : World) :
    Calls Try.prog 16 #[a.v, b.v] w fun e w' => e = .returned (.tuple #[(addP a b).1.v, .int .i64 (addP a b).2]) ∧ Below w.heap.size w w' := by
  have HA := Lib.hid ha
  have HB := Lib.hid hb
  clear ha hb
  obtain ⟨⟨⟨n, d⟩, E⟩, hr⟩ : ∃ r, r = addP a b := ⟨_, rfl⟩
  have h1 : (if okR a ∧ okR b then (newP (a.num * b.den + b.num * a.den) (a.den * b.den)).1 else ⟨0, 0⟩) = (⟨n, d⟩ : Ra) := by
    unfold addP at hr; split at hr <;> rename_i hc
    · rw [if_pos hc, ← hr]
    · rw [if_neg hc]; exact (congrArg Prod.fst hr).symm
  have h2 : (if okR a ∧ okR b then (newP (a.num * b.den + b.num * a.den) (a.den * b.den)).2 else 50) = E := by
    unfold addP at hr; split at hr <;> rename_i hc
    · rw [if_pos hc, ← hr]
    · rw [if_neg hc]; exact (congrArg Prod.snd hr).symm
  rw [← hr]
  have K1 := Lib.hid h1
  have K2 := Lib.hid h2
  clear hr h1 h2
  unfold Ra.v
  go_enter Try.func16, Try.ntmps16
  go_wp2_with fail
  refine (both_any (X := (newP (a.num * b.den + b.num * a.den) (a.den * b.den)).1) (E := (newP (a.num * b.den + b.num * a.den) (a.den * b.den)).2) a b HA.out HB.out 30 #[.pointer (some ⟨w.heap.size, 0, none⟩), .pointer (some ⟨w.heap.size + 1, 0, none⟩)] _ (enters_of Try.func30 (by kernel_rfl) rfl) ?hf).mono ?_
  case hf =>
    intro oa ob W hW
    have hW2 := ((Below.refl (w.heap.size + 2) ((w.alloc (.cells #[.int .i64 a.num, .int .i64 a.den] 23)).alloc (.cells #[.int .i64 b.num, .int .i64 b.den] 23))).alloc (by simp) (.cells #[.int .i64 0, .int .i64 0] 23)).trans (hW.mono (by simp))
    obtain ⟨a0, a1, b0, b1, r0, r1⟩ := ab_cells (a := a) (b := b) hW2
    exact Add1_any a b oa ob w.heap.size (w.heap.size + 1) W r0 r1 a0 a1 b0 b1
  rw [K1.out, K2.out]
  simp only [Ra.v]
  rintro e w1 ⟨rfl, hb1⟩
  obtain ⟨lc, lf, hlt1⟩ := below_at (w.heap.size + 2) (by simp) hb1 (by simp)
  have l0 := lc 0
  have l1 := lc 1
  have lf0 := lf 0
  have lf1 := lf 1
  simp at l0 l1
  have B1 : Below w.heap.size w w1 := ((((Below.refl _ _).alloc (Nat.le_refl _) _).alloc (by simp) _).alloc (by simp; omega) _).trans (hb1.mono (by simp; omega))
  clear hb1 lc lf
  go_wp2_with fail
  have hc := setB (setA ⟨l0, l1⟩ (.int .i64 n)) (.int .i64 d)
  exact bodyPost_ret (v := .tuple #[.agg #[.int .i64 n, .int .i64 d], .int .i64 E]) (by simp [results, Try.results16, go_sem, hc.1, hc.2, hlt1]) rfl ⟨rfl, by go_grown⟩

set_option maxHeartbeats 2000000 in
theorem Mul_any (a b : Ra) (ha : a.i64) (hb : b.i64) (w : World) :
    Calls Try.prog 18 #[a.v, b.v] w fun e w' => e = .returned (.tuple #[(mulP a b).1.v, .int .i64 (mulP a b).2]) ∧ Below w.heap.size w w' := by
  have HA := Lib.hid ha
  have HB := Lib.hid hb
  clear ha hb
  obtain ⟨⟨⟨n, d⟩, E⟩, hr⟩ : ∃ r, r = mulP a b := ⟨_, rfl⟩
  have h1 : (if okR a ∧ okR b then (newP (a.num * b.num) (a.den * b.den)).1 else ⟨0, 0⟩) = (⟨n, d⟩ : Ra) := by
    unfold mulP at hr; split at hr <;> rename_i hc
    · rw [if_pos hc, ← hr]
    · rw [if_neg hc]; exact (congrArg Prod.fst hr).symm
  have h2 : (if okR a ∧ okR b then (newP (a.num * b.num) (a.den * b.den)).2 else 50) = E := by
    unfold mulP at hr; split at hr <;> rename_i hc
    · rw [if_pos hc, ← hr]
    · rw [if_neg hc]; exact (congrArg Prod.snd hr).symm
  rw [← hr]
  have K1 := Lib.hid h1
  have K2 := Lib.hid h2
  clear hr h1 h2
  unfold Ra.v
  go_enter Try.func18, Try.ntmps18
  go_wp2_with fail
  refine (both_any (X := (newP (a.num * b.num) (a.den * b.den)).1) (E := (newP (a.num * b.num) (a.den * b.den)).2) a b HA.out HB.out 32 #[.pointer (some ⟨w.heap.size, 0, none⟩), .pointer (some ⟨w.heap.size + 1, 0, none⟩)] _ (enters_of Try.func32 (by kernel_rfl) rfl) ?hf).mono ?_
  case hf =>
    intro oa ob W hW
    have hW2 := ((Below.refl (w.heap.size + 2) ((w.alloc (.cells #[.int .i64 a.num, .int .i64 a.den] 23)).alloc (.cells #[.int .i64 b.num, .int .i64 b.den] 23))).alloc (by simp) (.cells #[.int .i64 0, .int .i64 0] 23)).trans (hW.mono (by simp))
    obtain ⟨a0, a1, b0, b1, r0, r1⟩ := ab_cells (a := a) (b := b) hW2
    exact Mul1_any a b oa ob w.heap.size (w.heap.size + 1) W r0 r1 a0 a1 b0 b1
  rw [K1.out, K2.out]
  simp only [Ra.v]
  rintro e w1 ⟨rfl, hb1⟩
  obtain ⟨lc, lf, hlt1⟩ := below_at (w.heap.size + 2) (by simp) hb1 (by simp)
  have l0 := lc 0
  have l1 := lc 1
  have lf0 := lf 0
  have lf1 := lf 1
  simp at l0 l1
  have B1 : Below w.heap.size w w1 := ((((Below.refl _ _).alloc (Nat.le_refl _) _).alloc (by simp) _).alloc (by simp; omega) _).trans (hb1.mono (by simp; omega))
  clear hb1 lc lf
  go_wp2_with fail
  have hc := setB (setA ⟨l0, l1⟩ (.int .i64 n)) (.int .i64 d)
  exact bodyPost_ret (v := .tuple #[.agg #[.int .i64 n, .int .i64 d], .int .i64 E]) (by simp [results, Try.results18, go_sem, hc.1, hc.2, hlt1]) rfl ⟨rfl, by go_grown⟩

set_option maxHeartbeats 2000000 in
theorem RaCompare_any (a b : Ra) (ha : a.i64) (hb : b.i64) (w : World) :
    Calls Try.prog 20 #[a.v, b.v] w fun e w' => e = .returned (.tuple #[.int .i64 (cmpP a b).1, .int .i64 (cmpP a b).2]) ∧ Below w.heap.size w w' := by
  have HA := Lib.hid ha
  have HB := Lib.hid hb
  clear ha hb
  obtain ⟨⟨n, E⟩, hr⟩ : ∃ r, r = cmpP a b := ⟨_, rfl⟩
  have h1 : (if okR a ∧ okR b then (cmpI (a.num * b.den) (b.num * a.den)) else 0) = n := by
    unfold cmpP at hr; split at hr <;> rename_i hc
    · rw [if_pos hc]; exact (congrArg Prod.fst hr).symm
    · rw [if_neg hc]; exact (congrArg Prod.fst hr).symm
  have h2 : (if okR a ∧ okR b then (0 : Int) else 50) = E := by
    unfold cmpP at hr; split at hr <;> rename_i hc
    · rw [if_pos hc]; exact (congrArg Prod.snd hr).symm
    · rw [if_neg hc]; exact (congrArg Prod.snd hr).symm
  rw [← hr]
  have K1 := Lib.hid h1
  have K2 := Lib.hid h2
  clear hr h1 h2
  unfold Ra.v
  go_enter Try.func20, Try.ntmps20
  go_wp2_with fail
  refine (bothI_any (X := (cmpI (a.num * b.den) (b.num * a.den))) (E := 0) a b HA.out HB.out 34 #[.pointer (some ⟨w.heap.size, 0, none⟩), .pointer (some ⟨w.heap.size + 1, 0, none⟩)] _ (enters_of Try.func34 (by kernel_rfl) rfl) ?hf).mono ?_
  case hf =>
    intro oa ob W hW
    have hW2 := hW.mono (B' := w.heap.size + 2) (by simp)
    obtain ⟨a0, a1, b0, b1, r0, r1⟩ := ab_cells (a := a) (b := b) hW2
    exact Compare1_any a b oa ob w.heap.size (w.heap.size + 1) W r0 r1 a0 a1 b0 b1
  rw [K1.out, K2.out]
  rintro e w1 ⟨rfl, hb1⟩
  have B1 : Below w.heap.size w w1 := (((Below.refl _ _).alloc (Nat.le_refl _) _).alloc (by simp) _).trans (hb1.mono (by simp; omega))
  go_wp2_with fail
  go_ret2
  exact ⟨rfl, B1⟩

end Go.Proofs.Ytaogcmgbmomilaa
