/- RatioNewSpec, RatioMeanSpec, RatioAddSpec, walked. -/
import Derived.Test.YtaogcmgbmomilaaRatT
import Derived.Test.YtaogcmgbmomilaaRatP
namespace Go.Proofs.Ytaogcmgbmomilaa
open Go.RowKit Go.Shelf
set_option linter.unusedSimpArgs false
set_option linter.unusedVariables false

theorem one_box {w w' : World} {a : Ra} {t : TypeId} (h : Below (w.heap.size + 1) (w.alloc (.cells #[.int .i64 a.num, .int .i64 a.den] t)) w') :
    w'.cell? ⟨w.heap.size, 0, none⟩ = some (.int .i64 a.num) ∧ w'.cell? ⟨w.heap.size, 1, none⟩ = some (.int .i64 a.den) ∧ w.heap.size < w'.heap.size := by
  obtain ⟨_, hc, _, hs, _⟩ := below_new h
  exact ⟨hc 0, hc 1, hs⟩

theorem Check2 (n d : Int) (h1 : I64 n) (h2 : I64 d) (w : World) :
    Calls Try.prog 14 #[.agg #[.int .i64 n, .int .i64 d]] w fun e w' => e = .returned (.int .i64 (checkR ⟨n, d⟩)) ∧ Below w.heap.size w w' := Check_any ⟨n, d⟩ ⟨h1, h2⟩ w
theorem RCheck2 (n d : Int) (h1 : I64 n) (h2 : I64 d) (w : World) :
    Calls Try.prog 15 #[.agg #[.int .i64 n, .int .i64 d]] w fun e w' => e = .returned (.int .i64 (checkR ⟨n, d⟩)) ∧ Below w.heap.size w w' := RCheck_any ⟨n, d⟩ ⟨h1, h2⟩ w

set_option maxHeartbeats 4000000 in
theorem RatioNewSpec_any {w : World} (num : Int) (wn : (Lit.int .i64 num).wf = true) (den : Int) (wd : (Lit.int .i64 den).wf = true) (r : Ra) (hr : r.ok) :
    Calls Try.prog 3 #[.int .i64 num, .int .i64 den, r.v] w fun e w' => e = .returned (.bool true) ∧ Below w.heap.size w w' := by
  have h1 : I64 num := by unfold I64; exact bounds_i64 wn
  have h2 : I64 den := by unfold I64; exact bounds_i64 wd
  have H1 := Lib.hid h1
  have H2 := Lib.hid h2
  have H3 := Lib.hid (Ra.ok_i64 hr)
  clear h1 h2 wn wd hr
  obtain ⟨⟨⟨n, d⟩, E⟩, hq⟩ : ∃ q, q = newP num den := ⟨_, rfl⟩
  have hb : (⟨n, d⟩ : Ra).i64 := by
    have := newP_i64 num den
    rw [← hq] at this
    exact this
  have HQ := Lib.hid hq.symm
  have HB := Lib.hid hb
  clear hq hb
  unfold Ra.v
  go_enter Try.func3, Try.ntmps3
  go_wp2_with fail
  refine (sane_any _).mono ?_
  rintro e w1 ⟨rfl, hb1⟩
  have G1 := hb1.mono (B' := w.heap.size + 1) (by simp)
  have z1 : w.heap.size + 1 ≤ w1.heap.size := by have := hb1.size; simpa using this
  clear hb1
  go_wp2_with fail
  refine (New_any num den H1.out H2.out _).mono ?_
  rw [HQ.out]
  simp only [Ra.v]
  rintro e w2 ⟨rfl, hb2⟩
  have G2 := G1.trans (hb2.mono z1)
  have z2 : w.heap.size + 1 ≤ w2.heap.size := Nat.le_trans z1 hb2.size
  clear hb2
  go_wp2_with fail
  refine (RNew_any num den H1.out H2.out _).mono ?_
  rw [HQ.out]
  simp only [Ra.v]
  rintro e w3 ⟨rfl, hb3⟩
  have F3 := hb3.mono (B' := w2.heap.size + 1) (by simp)
  have z3 : w2.heap.size + 1 ≤ w3.heap.size := by have := hb3.size; simpa using this
  have G3 := (G2.alloc z2 (.cells #[.int .i64 n, .int .i64 d] 23)).trans (hb3.mono (by simp; omega))
  clear hb3
  obtain ⟨p0, p1, hp⟩ := one_box (a := ⟨n, d⟩) F3
  obtain ⟨r0, r1, hrr⟩ := one_box (a := r) G3
  have C1 := Lib.hid (fun W => Check2 r.num r.den H3.out.1 H3.out.2 W)
  have C2 := Lib.hid (fun W => RCheck2 r.num r.den H3.out.1 H3.out.2 W)
  have C3 := Lib.hid (fun W => Check2 n d HB.out.1 HB.out.2 W)
  have C4 := Lib.hid (fun W => RCheck2 n d HB.out.1 HB.out.2 W)
  go_wp2_with fail
  refine abs_wp ?_
  intro W hW
  have zz : w3.heap.size < W.heap.size := by rw [hW]; simp
  have q0 : W.cell? ⟨w3.heap.size, 0, none⟩ = some (.int .i64 n) := by rw [hW]; simp [go_sem]
  have q1 : W.cell? ⟨w3.heap.size, 1, none⟩ = some (.int .i64 d) := by rw [hW]; simp [go_sem]
  have bW : Below w3.heap.size w3 W := by rw [hW]; exact (Below.refl _ _).alloc (Nat.le_refl _) _
  have q2 := (bW.cell (p := ⟨w2.heap.size, 0, none⟩) hp).trans p0
  have q3 := (bW.cell (p := ⟨w2.heap.size, 1, none⟩) hp).trans p1
  have q4 := (bW.cell (p := ⟨w.heap.size, 0, none⟩) hrr).trans r0
  have q5 := (bW.cell (p := ⟨w.heap.size, 1, none⟩) hrr).trans r1
  have zp : w2.heap.size < W.heap.size := by omega
  have zr : w.heap.size < W.heap.size := by omega
  have GW := Lib.hid (((Below.refl w.heap.size w).alloc (Nat.le_refl _) _).trans ((G3.trans (bW.mono (by omega))).mono (by omega)))
  clear hW bW p0 p1 r0 r1 G3 G2 G1 F3
  refine wp_region_below (by kernel_rfl) (by kernel_rfl) ?_
  repeat (first
    | go_big_quiet_skip
    | (go_big_quiet_want
       first
         | (apply quiet_val
            focus (
              intro WC hWC
              obtain ⟨hcc0, hff0⟩ := bcell hWC
              go_simp
              all_goals rfl
              done)
            go_simp
            go_big_quiet_on)
         | (apply quiet_call
            focus (
              intro WC hWC
              go_simp
              all_goals (first | rfl | exact ⟨rfl, rfl⟩)
              done)
            focus (
              intro WC hWC
              (with_reducible refine Calls.mono (C1.out WC) ?_; exact fun e w' h => ⟨h.1, hWC.trans (h.2.mono hWC.size)⟩)
              done)
            go_simp
            go_big_quiet_on)
         | (apply quiet_call
            focus (
              intro WC hWC
              go_simp
              all_goals (first | rfl | exact ⟨rfl, rfl⟩)
              done)
            focus (
              intro WC hWC
              (with_reducible refine Calls.mono (C2.out WC) ?_; exact fun e w' h => ⟨h.1, hWC.trans (h.2.mono hWC.size)⟩)
              done)
            go_simp
            go_big_quiet_on)
         | (apply quiet_call
            focus (
              intro WC hWC
              go_simp
              all_goals (first | rfl | exact ⟨rfl, rfl⟩)
              done)
            focus (
              intro WC hWC
              (with_reducible refine Calls.mono (C3.out WC) ?_; exact fun e w' h => ⟨h.1, hWC.trans (h.2.mono hWC.size)⟩)
              done)
            go_simp
            go_big_quiet_on)
         | (apply quiet_call
            focus (
              intro WC hWC
              go_simp
              all_goals (first | rfl | exact ⟨rfl, rfl⟩)
              done)
            focus (
              intro WC hWC
              (with_reducible refine Calls.mono (C4.out WC) ?_; exact fun e w' h => ⟨h.1, hWC.trans (h.2.mono hWC.size)⟩)
              done)
            go_simp
            go_big_quiet_on)))
  refine wpQuiet_nil ?_
  intro w5 hw5
  go_wp2_with fail
  go_ret
  exact ⟨ret_bool (by simp), GW.out.trans (hw5.mono GW.out.size)⟩
end Go.Proofs.Ytaogcmgbmomilaa
