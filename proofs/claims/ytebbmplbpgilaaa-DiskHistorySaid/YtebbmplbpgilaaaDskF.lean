/- Read: the reference's. -/
import Derived.Test.YtebbmplbpgilaaaDskE
namespace Go.Proofs.Ytebbmplbpgilaaa
open Go.RowKit Go.Shelf
set_option linter.unusedSimpArgs false
set_option linter.unusedVariables false

theorem lastW_append (x : Int) (a b : List (Int × List Int)) : lastW x (a ++ b) = match lastW x b with | some v => some v | none => lastW x a := by
  induction a with
  | nil => simp [lastW]; cases lastW x b <;> rfl
  | cons p l ih =>
    simp only [List.cons_append, lastW, ih]
    cases lastW x b <;> rfl
theorem lastW_snoc {x : Int} {xs : List (Int × List Int)} {k : Nat} {p : Int × List Int} (h : xs[k]? = some p) : lastW x (xs.take (k + 1)) = if p.1 = x then some p.2 else lastW x (xs.take k) := by
  rw [List.take_add_one, h, Option.toList_some, lastW_append]
  simp only [lastW]
  by_cases e : p.1 = x <;> simp [e]
theorem readD_no {d : Dk} {x : Int} (h : runsD d = false ∨ hasD d x = false) : readD d x = ([], 450) := by
  unfold readD
  rcases h with h | h <;> simp [h]
theorem readD_yes {d : Dk} {x : Int} (h : runsD d = true) (h2 : hasD d x = true) : readD d x = (sectorD d x, 0) := by simp [readD, h, h2]

set_option maxRecDepth 100000 in
set_option maxHeartbeats 4000000 in
theorem RRead_any {P : Nat → Prop} (d : Dk) (sv pv : Sl) (x : Int) (w : World) (h : Di w P sv pv d) :
    Calls Try.prog 22 #[dkV sv pv d, .int .i64 x] w fun e w' => (∃ v : Sl, e = .returned (.tuple #[.slice v.a v.n v.c, .int .i64 (readD d x).2]) ∧ By w' P v (readD d x).1) ∧ Below w.heap.size w w' := by
  have hs := h.1.len
  have hp := h.2.len
  have HD := Lib.hid h
  clear h
  have RC := Lib.hid (fun W (hW : Below w.heap.size w W) => RCheck_any d sv pv W (HD.out.step hW))
  obtain ⟨A, n, c⟩ := sv
  obtain ⟨D, m, c2⟩ := pv
  simp only at hs hp
  subst hs hp
  have hways : (validD d = false ∧ True) ∨ (validD d = true ∧ (d.stopped = true ∨ (d.stopped = false ∧ (decide (x < 0) = true ∨ (decide (x < 0) = false ∧ decide ((d.secs.length : Int) ≤ x) = true) ∨ (decide (x < 0) = false ∧ decide ((d.secs.length : Int) ≤ x) = false))))) := by
    cases validD d <;> cases d.stopped <;> simp <;> omega
  unfold dkV
  simp only
  rcases hways with ⟨hv, _⟩ | ⟨hv, hw⟩
  · rw [readD_no (.inl (by simp [runsD, hv]))]
    have HC := Lib.hid (checkD_no hv)
    clear hv
    go_enter Try.func22, Try.ntmps22
    go_wp2_with fail
    refine (RC.out _ ((Below.refl _ _).alloc (Nat.le_refl _) _)).mono ?_
    rw [HC.out]
    rintro e w1 ⟨rfl, hb1⟩
    have G1 : Below w.heap.size w w1 := ((Below.refl _ _).alloc (Nat.le_refl _) _).trans (hb1.mono (by simp))
    go_wp2_with fail
    exact bodyPost_ret (v := .tuple #[.slice none 0 0, .int .i64 450]) (by simp [results, Try.results22, go_sem]) rfl ⟨⟨⟨none, 0, 0⟩, rfl, By.nil_ _ _⟩, G1⟩
  · have HC := Lib.hid (checkD_yes hv)
    rcases hw with hst | ⟨hst, hw⟩
    · rw [readD_no (.inl (by simp [runsD, hst]))]
      have HST := Lib.hid hst
      clear hv hst
      go_enter Try.func22, Try.ntmps22
      go_wp2_with fail
      refine (RC.out _ ((Below.refl _ _).alloc (Nat.le_refl _) _)).mono ?_
      rw [HC.out]
      rintro e w1 ⟨rfl, hb1⟩
      obtain ⟨q3, _⟩ := CellAt.new w.heap.size rfl hb1 (by simp) 3 _ rfl
      rw [HST.out] at q3
      have G1 : Below w.heap.size w w1 := ((Below.refl _ _).alloc (Nat.le_refl _) _).trans (hb1.mono (by simp))
      clear hb1
      go_wp2_with fail
      exact bodyPost_ret (v := .tuple #[.slice none 0 0, .int .i64 450]) (by simp [results, Try.results22, go_sem]) rfl ⟨⟨⟨none, 0, 0⟩, rfl, By.nil_ _ _⟩, G1⟩
    · have HR : Hid (runsD d = true) := Lib.hid (by simp [runsD, hst, hv])
      have hl2 : d.pend.length ≤ 4096 := by
        have h1 := hv
        simp only [validD, sizesOk, Bool.and_eq_true, decide_eq_true_eq] at h1
        exact h1.1.2.2.1
      have HST := Lib.hid hst
      clear hv hst
      rcases hw with d1 | ⟨d1, d2⟩ | ⟨d1, d2⟩
      · rw [readD_no (.inr (by simp [hasD]; simp at d1; omega))]
        go_enter Try.func22, Try.ntmps22
        go_wp2_with fail
        refine (RC.out _ ((Below.refl _ _).alloc (Nat.le_refl _) _)).mono ?_
        rw [HC.out]
        rintro e w1 ⟨rfl, hb1⟩
        obtain ⟨q3, _⟩ := CellAt.new w.heap.size rfl hb1 (by simp) 3 _ rfl
        rw [HST.out] at q3
        have G1 : Below w.heap.size w w1 := ((Below.refl _ _).alloc (Nat.le_refl _) _).trans (hb1.mono (by simp))
        clear hb1
        go_wp2_with fail
        exact bodyPost_ret (v := .tuple #[.slice none 0 0, .int .i64 450]) (by simp [results, Try.results22, go_sem]) rfl ⟨⟨⟨none, 0, 0⟩, rfl, By.nil_ _ _⟩, G1⟩
      · rw [readD_no (.inr (by simp [hasD]; simp at d1 d2; omega))]
        go_enter Try.func22, Try.ntmps22
        go_wp2_with fail
        refine (RC.out _ ((Below.refl _ _).alloc (Nat.le_refl _) _)).mono ?_
        rw [HC.out]
        rintro e w1 ⟨rfl, hb1⟩
        obtain ⟨q3, _⟩ := CellAt.new w.heap.size rfl hb1 (by simp) 3 _ rfl
        rw [HST.out] at q3
        obtain ⟨q0, _⟩ := CellAt.new w.heap.size rfl hb1 (by simp) 0 _ rfl
        have G1 : Below w.heap.size w w1 := ((Below.refl _ _).alloc (Nat.le_refl _) _).trans (hb1.mono (by simp))
        clear hb1
        go_wp2_with fail
        exact bodyPost_ret (v := .tuple #[.slice none 0 0, .int .i64 450]) (by simp [results, Try.results22, go_sem]) rfl ⟨⟨⟨none, 0, 0⟩, rfl, By.nil_ _ _⟩, G1⟩
      · obtain ⟨i, rfl⟩ : ∃ i : Nat, x = (i : Int) := ⟨x.toNat, by simp at d1; omega⟩
        have hi : i < d.secs.length := by simp at d2; omega
        rw [readD_yes HR.out (by simp [hasD]; omega)]
        obtain ⟨E, hE⟩ : ∃ E, E = sectorD d i := ⟨_, rfl⟩
        rw [← hE]
        have HE := Lib.hid hE
        clear hE
        have hi0 : (0 : Int) ≤ (i : Int) := by omega
        go_enter Try.func22, Try.ntmps22
        go_wp2_with fail
        refine (RC.out _ ((Below.refl _ _).alloc (Nat.le_refl _) _)).mono ?_
        rw [HC.out]
        rintro e w1 ⟨rfl, hb1⟩
        obtain ⟨q3, _⟩ := CellAt.new w.heap.size rfl hb1 (by simp) 3 _ rfl
        rw [HST.out] at q3
        obtain ⟨q0, _⟩ := CellAt.new w.heap.size rfl hb1 (by simp) 0 _ rfl
        obtain ⟨q1, _⟩ := CellAt.new w.heap.size rfl hb1 (by simp) 1 _ rfl
        have G1 : Below w.heap.size w w1 := ((Below.refl _ _).alloc (Nat.le_refl _) _).trans (hb1.mono (by simp))
        clear hb1
        have HD1 := Lib.hid (HD.out.step G1)
        have HG := Lib.hid G1
        clear G1
        obtain ⟨bb, off, v0, x0, ha, hbl, hxk, hby, y0⟩ := HD1.out.1.at_ hi
        simp only at ha
        subst ha
        have HXK := Lib.hid hxk
        have HBY := Lib.hid hby
        clear hxk hby
        obtain ⟨wo, hwo⟩ : ∃ wo : World, wo = w1 := ⟨_, rfl⟩
        go_wp2_with fail
        go_loopw [7, 6] (fun j s wr => wr = w1 ∧ ∃ (k : Nat) (v : Sl) (cur : List Int), k ≤ d.pend.length ∧ j = .int .i64 k ∧ s = .slice v.a v.n v.c ∧ By w1 P v cur ∧ cur = (lastW i (d.pend.take k)).getD x0) (fun j _ _ => d.pend.length - (intOf j).toNat)
        case atStart => exact ⟨rfl, 0, v0, x0, Nat.zero_le _, rfl, rfl, HBY.out, by simp [lastW]⟩
        case round =>
          obtain ⟨rfl, k, v, cur, hk, rfl, rfl, hcb, hcur⟩ := hrel
          have HCB := Lib.hid hcb
          have HCU := Lib.hid hcur
          clear hcb hcur
          by_cases hlt : k < d.pend.length
          · obtain ⟨b2, off2, v2, p2, ha2, hbl2, hpk, hby2, z0, z1⟩ := HD1.out.2.at_ hlt
            simp only at ha2
            subst ha2
            have HPK := Lib.hid hpk
            have HB2 := Lib.hid hby2
            clear hpk hby2
            have hk0 : (0 : Int) ≤ (k : Int) := by omega
            by_cases hx : p2.1 = (i : Int)
            · have e1 : (p2.1 == (i : Int)) = true := by simpa using hx
              have HX := Lib.hid hx
              clear hx
              go_wp2_with fail
              go_roundw
              case rel => exact ⟨trivial, k + 1, v2, p2.2, by omega, by go_num, rfl, HB2.out, by rw [lastW_snoc HPK.out, if_pos HX.out]; rfl⟩
              case measure => simp [intOf]; omega
            · have e1 : (p2.1 == (i : Int)) = false := by simpa using hx
              have HX := Lib.hid hx
              clear hx
              go_wp2_with fail
              go_roundw
              case rel => exact ⟨trivial, k + 1, v, cur, by omega, by go_num, rfl, HCB.out, by rw [lastW_snoc HPK.out, if_neg HX.out]; exact HCU.out⟩
              case measure => simp [intOf]; omega
          · obtain rfl : k = d.pend.length := by omega
            have HV : Hid (cur = E) := Lib.hid (by
              rw [HCU.out, HE.out, sectorD, List.take_length]
              congr 1
              rw [List.getD_eq_getElem?_getD, Int.toNat_natCast, HXK.out]; rfl)
            go_wp2_with fail
            exact bodyPost_ret (v := .tuple #[.slice v.a v.n v.c, .int .i64 0]) (by simp [results, Try.results22, go_sem]) rfl ⟨⟨v, rfl, by rw [← HV.out]; exact HCB.out⟩, HG.out⟩
end Go.Proofs.Ytebbmplbpgilaaa
