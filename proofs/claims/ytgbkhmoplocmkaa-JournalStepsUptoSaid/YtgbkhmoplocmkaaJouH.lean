/- Journals: the form of a sector, by the reference. -/
import Derived.Test.YtgbkhmoplocmkaaJouP
namespace Go.Proofs.Ytgbkhmoplocmkaa
open Go.RowKit Go.Shelf
set_option linter.unusedSimpArgs false
set_option linter.unusedVariables false
set_option maxRecDepth 20000

theorem zeros_snoc {bs : List Int} {j m : Nat} {x : Int} (hx : bs[j]? = some x) (hm : m ≤ j) (h : ((bs.take j).drop m).all (fun x => x == 0) = true) (h0 : x = 0) : ((bs.take (j + 1)).drop m).all (fun x => x == 0) = true := by
  have hj := (List.getElem?_eq_some_iff.1 hx).1
  rw [List.take_add_one, hx, List.drop_append_of_le_length (by simp; omega), List.all_append, h, h0]
  rfl
theorem zeros_bad {bs : List Int} {j m : Nat} {x : Int} (hx : bs[j]? = some x) (hm : m ≤ j) (hj : j < 124) (h0 : x ≠ 0) : ((bs.take 124).drop m).all (fun x => x == 0) = false := by
  rw [List.all_eq_false]
  refine ⟨x, List.mem_of_getElem? (i := j - m) ?_, by simpa using h0⟩
  rw [List.getElem?_drop, show m + (j - m) = j by omega, List.getElem?_take, if_pos hj, hx]

set_option maxRecDepth 100000 in
set_option maxHeartbeats 2000000 in
theorem Rgood_any {P : Nat → Prop} (v : Sl) (bs : List Int) (k : Int) (w : World) (h : By w P v bs) (hl : bs.length = 128) (hk : 0 ≤ k ∧ k < 65536) :
    Calls Try.prog 72 #[.slice v.a v.n v.c, .int .i64 k] w fun e w' => e = .returned (.bool (goodR bs k)) ∧ Below w.heap.size w w' := by
  obtain ⟨A, n, c⟩ := v
  obtain rfl : n = bs.length := h.1.1
  obtain ⟨b, off, n, ha, hbl, hx11, hn0, hn1, hc11⟩ := h.at_ (k := 11) (by omega)
  obtain ⟨b', off', m, ha', _, hx10, hm0, hm1, hc10⟩ := h.at_ (k := 10) (by omega)
  simp only at ha ha'
  rw [ha] at ha'
  cases ha'
  subst ha
  have hcc : 128 ≤ c := by have := h.1.2.1; simp only at this; omega
  have HB := Lib.hid h
  clear h
  simp only
  rw [hl]
  rw [hl] at HB
  obtain ⟨E, hE⟩ : ∃ E, E = goodR bs k := ⟨_, rfl⟩
  rw [← hE]
  have HE := Lib.hid hE
  have HL := Lib.hid hl
  have HN11 : Hid (bs.getD 11 0 = n) := Lib.hid (by rw [List.getD_eq_getElem?_getD, hx11]; rfl)
  have HM10 : Hid (bs.getD 10 0 = m) := Lib.hid (by rw [List.getD_eq_getElem?_getD, hx10]; rfl)
  clear hE
  go_enter Try.func72, Try.ntmps72
  go_upto_region 2 with fail
  have hn11 : bs.getD 11 0 = n := by rw [List.getD_eq_getElem?_getD, hx11]; rfl
  have hm10 : bs.getD 10 0 = m := by rw [List.getD_eq_getElem?_getD, hx10]; rfl
  obtain ⟨i0, hinf, _, hz1, _⟩ := info_parts Try.infoByte
  have hs1 := fun W => run_slice_to (P := Try.prog) Try.underlying35 hinf (some ⟨b, off, none⟩) 128 c .i64 4 (by omega) (by omega) W
  have hs2 : ∀ W, (Instr.slice 35 (.slice (some ⟨b, off, none⟩) 128 c) (some (.int .i64 124)) none none).run Try.prog W = .ok (.slice (some ⟨b, off + 124, none⟩) 4 (c - 124)) W := fun W => by
    have := run_slice_from (P := Try.prog) Try.underlying35 hinf (some ⟨b, off, none⟩) 128 c .i64 124 (by omega) (by omega) W
    rw [this, hz1, if_neg (by omega)]
    simp [Go.WideShapes.add_plain]
  have hs3 : ∀ W, (Instr.slice 35 (.slice (some ⟨b, off, none⟩) 128 c) (some (.int .i64 4)) (some (.int .i64 8)) none).run Try.prog W = .ok (.slice (some ⟨b, off + 4, none⟩) 4 (c - 4)) W := fun W => by
    have := run_slice_mid (P := Try.prog) Try.underlying35 hinf (some ⟨b, off, none⟩) 128 c .i64 .i64 4 8 (by omega) (by omega) (by omega) W
    rw [this, hz1, if_neg (by omega)]
    simp [Go.WideShapes.add_plain]
  have hs4 : ∀ W, (Instr.slice 35 (.slice (some ⟨b, off, none⟩) 128 c) (some (.int .i64 8)) (some (.int .i64 124)) none).run Try.prog W = .ok (.slice (some ⟨b, off + 8, none⟩) 116 (c - 8)) W := fun W => by
    have := run_slice_mid (P := Try.prog) Try.underlying35 hinf (some ⟨b, off, none⟩) 128 c .i64 .i64 8 124 (by omega) (by omega) (by omega) W
    rw [this, hz1, if_neg (by omega)]
    simp [Go.WideShapes.add_plain]
  have hs5 : ∀ W, (Instr.slice 35 (.slice (some ⟨b, off, none⟩) 128 c) (some (.int .i64 8)) (some (.int .i64 10)) none).run Try.prog W = .ok (.slice (some ⟨b, off + 8, none⟩) 2 (c - 8)) W := fun W => by
    have := run_slice_mid (P := Try.prog) Try.underlying35 hinf (some ⟨b, off, none⟩) 128 c .i64 .i64 8 10 (by omega) (by omega) (by omega) W
    rw [this, hz1, if_neg (by omega)]
    simp [Go.WideShapes.add_plain]
  rw [show (4 : Int).toNat = 4 from rfl] at hs1
  obtain ⟨g, hg⟩ : ∃ g, g = numB (bs.take 4) := ⟨_, rfl⟩
  obtain ⟨t, ht⟩ : ∃ t, t = numB ((bs.drop 124).take 4) := ⟨_, rfl⟩
  obtain ⟨y, hy⟩ : ∃ y, y = numB ((bs.drop 4).take 4) := ⟨_, rfl⟩
  obtain ⟨z, hz⟩ : ∃ z, z = IntKind.u32.wrap y := ⟨_, rfl⟩
  obtain ⟨s, hs⟩ : ∃ s, s = sumB ((bs.drop 8).take 116) := ⟨_, rfl⟩
  obtain ⟨q, hq⟩ : ∃ q, q = numB ((bs.drop 8).take 2) := ⟨_, rfl⟩
  have HN1 : Hid (∀ WC, Below w.heap.size w WC → Calls Try.prog 63 #[.slice (some ⟨b, off, none⟩) 4 c] WC fun e w' => e = .returned (.int .u64 g) ∧ WC = w') := Lib.hid (fun WC hWC => by
    have h1 := (HB.out.step hWC).sub 0 4 (by omega)
    rw [hg]
    exact number_any ⟨some ⟨b, off, none⟩, 4, c⟩ (bs.take 4) WC (by simpa using h1) (by simp; omega))
  have HN2 : Hid (∀ WC, Below w.heap.size w WC → Calls Try.prog 63 #[.slice (some ⟨b, off + 124, none⟩) 4 (c - 124)] WC fun e w' => e = .returned (.int .u64 t) ∧ WC = w') := Lib.hid (fun WC hWC => by
    rw [ht]
    exact number_any ⟨some ⟨b, off + 124, none⟩, 4, c - 124⟩ _ WC ((HB.out.step hWC).sub 124 4 (by omega)) (by simp; omega))
  have HN3 : Hid (∀ WC, Below w.heap.size w WC → Calls Try.prog 63 #[.slice (some ⟨b, off + 4, none⟩) 4 (c - 4)] WC fun e w' => e = .returned (.int .u64 y) ∧ WC = w') := Lib.hid (fun WC hWC => by
    rw [hy]
    exact number_any ⟨some ⟨b, off + 4, none⟩, 4, c - 4⟩ _ WC ((HB.out.step hWC).sub 4 4 (by omega)) (by simp; omega))
  have HN4 : Hid (∀ WC, Below w.heap.size w WC → Calls Try.prog 67 #[.slice (some ⟨b, off + 8, none⟩) 116 (c - 8)] WC fun e w' => e = .returned (.int .u32 s) ∧ WC = w') := Lib.hid (fun WC hWC => by
    rw [hs]
    exact checksum_any ⟨some ⟨b, off + 8, none⟩, 116, c - 8⟩ _ WC ((HB.out.step hWC).sub 8 116 (by omega)))
  have HN5 : Hid (∀ WC, Below w.heap.size w WC → Calls Try.prog 63 #[.slice (some ⟨b, off + 8, none⟩) 2 (c - 8)] WC fun e w' => e = .returned (.int .u64 q) ∧ WC = w') := Lib.hid (fun WC hWC => by
    rw [hq]
    exact number_any ⟨some ⟨b, off + 8, none⟩, 2, c - 8⟩ _ WC ((HB.out.step hWC).sub 8 2 (by omega)) (by simp; omega))
  have HH : Hid (headR bs k = !((g == 0) || ((g != t) || ((z != s) || ((q != k) || (decide (3 < m) || (decide (112 < n) || ((decide (m < 2) && n != 112) || (m % 2 == 0 && n == 0))))))))) := Lib.hid (by
    unfold headR shapeR
    rw [hn11, hm10, ← hg, ← ht, ← hy, ← hz, ← hs, ← hq]
    first | rfl | simp)
  have hmod : m.tmod 2 = m % 2 := Int.tmod_eq_emod_of_nonneg hm0
  have hkw : IntKind.u64.wrap k = k := by rw [IntKind.wrap_u64]; omega
  have HZ := Lib.hid hz
  have hzy : IntKind.u32.wrap y = z := hz.symm
  clear hinf hn11 hm10 hx11 hx10 hg ht hy hz hs hq
  go_cut [72] (fun t wx => t = .bool (!headR bs k) ∧ Below w.heap.size w wx)
  case first =>
    cases t1 : (g == 0)
    · have u1 : decide (g = 0) = false := by simpa using t1
      have v1 : ¬ g = 0 := by simpa using t1
      cases t2 : (g != t)
      · cases t3 : (z != s)
        · cases t4 : (q != k)
          · cases t5 : (decide (3 < m))
            · cases t6 : (decide (112 < n))
              · cases t7 : decide (m < 2)
                · cases t8 : (m % 2 == 0)
                  all_goals
                    have HE : Hid (headR bs k = _) := Lib.hid (by rw [HH.out, t1, t2, t3, t4, t5, t6, t7, t8])
                    clear HH
                    go_wp2_with fail
                    refine wp_region_below (by kernel_rfl) (by kernel_rfl) ?_
                    repeat (first
                      | go_big_quiet_skip
                      | (go_big_quiet_want
                         first
                           | (apply quiet_val
                              focus (
                                intro WC hWC
                                obtain ⟨hcc0, hff0⟩ := bcell hWC
                                go_simp
                                all_goals rfl
                                done)
                              go_simp
                              go_big_quiet_on)
                           | (apply quiet_call
                              focus (
                                intro WC hWC
                                go_simp
                                all_goals (first | rfl | exact ⟨rfl, rfl⟩)
                                done)
                              focus (
                                intro WC hWC
                                ((with_reducible refine Calls.mono (HN1.out WC hWC) ?_); exact fun e w' h => ⟨h.1, h.2 ▸ hWC⟩)
                                done)
                              go_simp
                              go_big_quiet_on)
                           | (apply quiet_call
                              focus (
                                intro WC hWC
                                go_simp
                                all_goals (first | rfl | exact ⟨rfl, rfl⟩)
                                done)
                              focus (
                                intro WC hWC
                                ((with_reducible refine Calls.mono (HN2.out WC hWC) ?_); exact fun e w' h => ⟨h.1, h.2 ▸ hWC⟩)
                                done)
                              go_simp
                              go_big_quiet_on)
                           | (apply quiet_call
                              focus (
                                intro WC hWC
                                go_simp
                                all_goals (first | rfl | exact ⟨rfl, rfl⟩)
                                done)
                              focus (
                                intro WC hWC
                                ((with_reducible refine Calls.mono (HN3.out WC hWC) ?_); exact fun e w' h => ⟨h.1, h.2 ▸ hWC⟩)
                                done)
                              go_simp
                              go_big_quiet_on)
                           | (apply quiet_call
                              focus (
                                intro WC hWC
                                go_simp
                                all_goals (first | rfl | exact ⟨rfl, rfl⟩)
                                done)
                              focus (
                                intro WC hWC
                                ((with_reducible refine Calls.mono (HN4.out WC hWC) ?_); exact fun e w' h => ⟨h.1, h.2 ▸ hWC⟩)
                                done)
                              go_simp
                              go_big_quiet_on)
                           | (apply quiet_call
                              focus (
                                intro WC hWC
                                go_simp
                                all_goals (first | rfl | exact ⟨rfl, rfl⟩)
                                done)
                              focus (
                                intro WC hWC
                                ((with_reducible refine Calls.mono (HN5.out WC hWC) ?_); exact fun e w' h => ⟨h.1, h.2 ▸ hWC⟩)
                                done)
                              go_simp
                              go_big_quiet_on)))
                    refine wpQuiet_nil ?_
                    intro w2 hw2
                    go_wp2_with fail
                    go_meet
                    exact ⟨by rw [HE.out]; simp, hw2⟩
                · cases t9 : (n != 112)
                  · cases t8 : (m % 2 == 0)
                    all_goals
                      have HE : Hid (headR bs k = _) := Lib.hid (by rw [HH.out, t1, t2, t3, t4, t5, t6, t7, t9, t8])
                      clear HH
                      go_wp2_with fail
                      refine wp_region_below (by kernel_rfl) (by kernel_rfl) ?_
                      repeat (first
                        | go_big_quiet_skip
                        | (go_big_quiet_want
                           first
                             | (apply quiet_val
                                focus (
                                  intro WC hWC
                                  obtain ⟨hcc0, hff0⟩ := bcell hWC
                                  go_simp
                                  all_goals rfl
                                  done)
                                go_simp
                                go_big_quiet_on)
                             | (apply quiet_call
                                focus (
                                  intro WC hWC
                                  go_simp
                                  all_goals (first | rfl | exact ⟨rfl, rfl⟩)
                                  done)
                                focus (
                                  intro WC hWC
                                  ((with_reducible refine Calls.mono (HN1.out WC hWC) ?_); exact fun e w' h => ⟨h.1, h.2 ▸ hWC⟩)
                                  done)
                                go_simp
                                go_big_quiet_on)
                             | (apply quiet_call
                                focus (
                                  intro WC hWC
                                  go_simp
                                  all_goals (first | rfl | exact ⟨rfl, rfl⟩)
                                  done)
                                focus (
                                  intro WC hWC
                                  ((with_reducible refine Calls.mono (HN2.out WC hWC) ?_); exact fun e w' h => ⟨h.1, h.2 ▸ hWC⟩)
                                  done)
                                go_simp
                                go_big_quiet_on)
                             | (apply quiet_call
                                focus (
                                  intro WC hWC
                                  go_simp
                                  all_goals (first | rfl | exact ⟨rfl, rfl⟩)
                                  done)
                                focus (
                                  intro WC hWC
                                  ((with_reducible refine Calls.mono (HN3.out WC hWC) ?_); exact fun e w' h => ⟨h.1, h.2 ▸ hWC⟩)
                                  done)
                                go_simp
                                go_big_quiet_on)
                             | (apply quiet_call
                                focus (
                                  intro WC hWC
                                  go_simp
                                  all_goals (first | rfl | exact ⟨rfl, rfl⟩)
                                  done)
                                focus (
                                  intro WC hWC
                                  ((with_reducible refine Calls.mono (HN4.out WC hWC) ?_); exact fun e w' h => ⟨h.1, h.2 ▸ hWC⟩)
                                  done)
                                go_simp
                                go_big_quiet_on)
                             | (apply quiet_call
                                focus (
                                  intro WC hWC
                                  go_simp
                                  all_goals (first | rfl | exact ⟨rfl, rfl⟩)
                                  done)
                                focus (
                                  intro WC hWC
                                  ((with_reducible refine Calls.mono (HN5.out WC hWC) ?_); exact fun e w' h => ⟨h.1, h.2 ▸ hWC⟩)
                                  done)
                                go_simp
                                go_big_quiet_on)))
                      refine wpQuiet_nil ?_
                      intro w2 hw2
                      go_wp2_with fail
                      go_meet
                      exact ⟨by rw [HE.out]; simp, hw2⟩
                  · have HE : Hid (headR bs k = _) := Lib.hid (by rw [HH.out, t1, t2, t3, t4, t5, t6, t7, t9])
                    clear HH
                    go_wp2_with fail
                    refine wp_region_below (by kernel_rfl) (by kernel_rfl) ?_
                    repeat (first
                      | go_big_quiet_skip
                      | (go_big_quiet_want
                         first
                           | (apply quiet_val
                              focus (
                                intro WC hWC
                                obtain ⟨hcc0, hff0⟩ := bcell hWC
                                go_simp
                                all_goals rfl
                                done)
                              go_simp
                              go_big_quiet_on)
                           | (apply quiet_call
                              focus (
                                intro WC hWC
                                go_simp
                                all_goals (first | rfl | exact ⟨rfl, rfl⟩)
                                done)
                              focus (
                                intro WC hWC
                                ((with_reducible refine Calls.mono (HN1.out WC hWC) ?_); exact fun e w' h => ⟨h.1, h.2 ▸ hWC⟩)
                                done)
                              go_simp
                              go_big_quiet_on)
                           | (apply quiet_call
                              focus (
                                intro WC hWC
                                go_simp
                                all_goals (first | rfl | exact ⟨rfl, rfl⟩)
                                done)
                              focus (
                                intro WC hWC
                                ((with_reducible refine Calls.mono (HN2.out WC hWC) ?_); exact fun e w' h => ⟨h.1, h.2 ▸ hWC⟩)
                                done)
                              go_simp
                              go_big_quiet_on)
                           | (apply quiet_call
                              focus (
                                intro WC hWC
                                go_simp
                                all_goals (first | rfl | exact ⟨rfl, rfl⟩)
                                done)
                              focus (
                                intro WC hWC
                                ((with_reducible refine Calls.mono (HN3.out WC hWC) ?_); exact fun e w' h => ⟨h.1, h.2 ▸ hWC⟩)
                                done)
                              go_simp
                              go_big_quiet_on)
                           | (apply quiet_call
                              focus (
                                intro WC hWC
                                go_simp
                                all_goals (first | rfl | exact ⟨rfl, rfl⟩)
                                done)
                              focus (
                                intro WC hWC
                                ((with_reducible refine Calls.mono (HN4.out WC hWC) ?_); exact fun e w' h => ⟨h.1, h.2 ▸ hWC⟩)
                                done)
                              go_simp
                              go_big_quiet_on)
                           | (apply quiet_call
                              focus (
                                intro WC hWC
                                go_simp
                                all_goals (first | rfl | exact ⟨rfl, rfl⟩)
                                done)
                              focus (
                                intro WC hWC
                                ((with_reducible refine Calls.mono (HN5.out WC hWC) ?_); exact fun e w' h => ⟨h.1, h.2 ▸ hWC⟩)
                                done)
                              go_simp
                              go_big_quiet_on)))
                    refine wpQuiet_nil ?_
                    intro w2 hw2
                    go_wp2_with fail
                    go_meet
                    exact ⟨by rw [HE.out]; simp, hw2⟩
              · have HE : Hid (headR bs k = false) := Lib.hid (by rw [HH.out, t1, t2, t3, t4, t5, t6]; simp)
                clear HH
                go_wp2_with fail
                refine wp_region_below (by kernel_rfl) (by kernel_rfl) ?_
                repeat (first
                  | go_big_quiet_skip
                  | (go_big_quiet_want
                     first
                       | (apply quiet_val
                          focus (
                            intro WC hWC
                            obtain ⟨hcc0, hff0⟩ := bcell hWC
                            go_simp
                            all_goals rfl
                            done)
                          go_simp
                          go_big_quiet_on)
                       | (apply quiet_call
                          focus (
                            intro WC hWC
                            go_simp
                            all_goals (first | rfl | exact ⟨rfl, rfl⟩)
                            done)
                          focus (
                            intro WC hWC
                            ((with_reducible refine Calls.mono (HN1.out WC hWC) ?_); exact fun e w' h => ⟨h.1, h.2 ▸ hWC⟩)
                            done)
                          go_simp
                          go_big_quiet_on)
                       | (apply quiet_call
                          focus (
                            intro WC hWC
                            go_simp
                            all_goals (first | rfl | exact ⟨rfl, rfl⟩)
                            done)
                          focus (
                            intro WC hWC
                            ((with_reducible refine Calls.mono (HN2.out WC hWC) ?_); exact fun e w' h => ⟨h.1, h.2 ▸ hWC⟩)
                            done)
                          go_simp
                          go_big_quiet_on)
                       | (apply quiet_call
                          focus (
                            intro WC hWC
                            go_simp
                            all_goals (first | rfl | exact ⟨rfl, rfl⟩)
                            done)
                          focus (
                            intro WC hWC
                            ((with_reducible refine Calls.mono (HN3.out WC hWC) ?_); exact fun e w' h => ⟨h.1, h.2 ▸ hWC⟩)
                            done)
                          go_simp
                          go_big_quiet_on)
                       | (apply quiet_call
                          focus (
                            intro WC hWC
                            go_simp
                            all_goals (first | rfl | exact ⟨rfl, rfl⟩)
                            done)
                          focus (
                            intro WC hWC
                            ((with_reducible refine Calls.mono (HN4.out WC hWC) ?_); exact fun e w' h => ⟨h.1, h.2 ▸ hWC⟩)
                            done)
                          go_simp
                          go_big_quiet_on)
                       | (apply quiet_call
                          focus (
                            intro WC hWC
                            go_simp
                            all_goals (first | rfl | exact ⟨rfl, rfl⟩)
                            done)
                          focus (
                            intro WC hWC
                            ((with_reducible refine Calls.mono (HN5.out WC hWC) ?_); exact fun e w' h => ⟨h.1, h.2 ▸ hWC⟩)
                            done)
                          go_simp
                          go_big_quiet_on)))
                refine wpQuiet_nil ?_
                intro w2 hw2
                go_wp2_with fail
                go_meet
                exact ⟨by rw [HE.out]; rfl, hw2⟩
            · have HE : Hid (headR bs k = false) := Lib.hid (by rw [HH.out, t1, t2, t3, t4, t5]; simp)
              clear HH
              go_wp2_with fail
              refine wp_region_below (by kernel_rfl) (by kernel_rfl) ?_
              repeat (first
                | go_big_quiet_skip
                | (go_big_quiet_want
                   first
                     | (apply quiet_val
                        focus (
                          intro WC hWC
                          obtain ⟨hcc0, hff0⟩ := bcell hWC
                          go_simp
                          all_goals rfl
                          done)
                        go_simp
                        go_big_quiet_on)
                     | (apply quiet_call
                        focus (
                          intro WC hWC
                          go_simp
                          all_goals (first | rfl | exact ⟨rfl, rfl⟩)
                          done)
                        focus (
                          intro WC hWC
                          ((with_reducible refine Calls.mono (HN1.out WC hWC) ?_); exact fun e w' h => ⟨h.1, h.2 ▸ hWC⟩)
                          done)
                        go_simp
                        go_big_quiet_on)
                     | (apply quiet_call
                        focus (
                          intro WC hWC
                          go_simp
                          all_goals (first | rfl | exact ⟨rfl, rfl⟩)
                          done)
                        focus (
                          intro WC hWC
                          ((with_reducible refine Calls.mono (HN2.out WC hWC) ?_); exact fun e w' h => ⟨h.1, h.2 ▸ hWC⟩)
                          done)
                        go_simp
                        go_big_quiet_on)
                     | (apply quiet_call
                        focus (
                          intro WC hWC
                          go_simp
                          all_goals (first | rfl | exact ⟨rfl, rfl⟩)
                          done)
                        focus (
                          intro WC hWC
                          ((with_reducible refine Calls.mono (HN3.out WC hWC) ?_); exact fun e w' h => ⟨h.1, h.2 ▸ hWC⟩)
                          done)
                        go_simp
                        go_big_quiet_on)
                     | (apply quiet_call
                        focus (
                          intro WC hWC
                          go_simp
                          all_goals (first | rfl | exact ⟨rfl, rfl⟩)
                          done)
                        focus (
                          intro WC hWC
                          ((with_reducible refine Calls.mono (HN4.out WC hWC) ?_); exact fun e w' h => ⟨h.1, h.2 ▸ hWC⟩)
                          done)
                        go_simp
                        go_big_quiet_on)
                     | (apply quiet_call
                        focus (
                          intro WC hWC
                          go_simp
                          all_goals (first | rfl | exact ⟨rfl, rfl⟩)
                          done)
                        focus (
                          intro WC hWC
                          ((with_reducible refine Calls.mono (HN5.out WC hWC) ?_); exact fun e w' h => ⟨h.1, h.2 ▸ hWC⟩)
                          done)
                        go_simp
                        go_big_quiet_on)))
              refine wpQuiet_nil ?_
              intro w2 hw2
              go_wp2_with fail
              go_meet
              exact ⟨by rw [HE.out]; rfl, hw2⟩
          · have HE : Hid (headR bs k = false) := Lib.hid (by rw [HH.out, t1, t2, t3, t4]; simp)
            clear HH
            go_wp2_with fail
            refine wp_region_below (by kernel_rfl) (by kernel_rfl) ?_
            repeat (first
              | go_big_quiet_skip
              | (go_big_quiet_want
                 first
                   | (apply quiet_val
                      focus (
                        intro WC hWC
                        obtain ⟨hcc0, hff0⟩ := bcell hWC
                        go_simp
                        all_goals rfl
                        done)
                      go_simp
                      go_big_quiet_on)
                   | (apply quiet_call
                      focus (
                        intro WC hWC
                        go_simp
                        all_goals (first | rfl | exact ⟨rfl, rfl⟩)
                        done)
                      focus (
                        intro WC hWC
                        ((with_reducible refine Calls.mono (HN1.out WC hWC) ?_); exact fun e w' h => ⟨h.1, h.2 ▸ hWC⟩)
                        done)
                      go_simp
                      go_big_quiet_on)
                   | (apply quiet_call
                      focus (
                        intro WC hWC
                        go_simp
                        all_goals (first | rfl | exact ⟨rfl, rfl⟩)
                        done)
                      focus (
                        intro WC hWC
                        ((with_reducible refine Calls.mono (HN2.out WC hWC) ?_); exact fun e w' h => ⟨h.1, h.2 ▸ hWC⟩)
                        done)
                      go_simp
                      go_big_quiet_on)
                   | (apply quiet_call
                      focus (
                        intro WC hWC
                        go_simp
                        all_goals (first | rfl | exact ⟨rfl, rfl⟩)
                        done)
                      focus (
                        intro WC hWC
                        ((with_reducible refine Calls.mono (HN3.out WC hWC) ?_); exact fun e w' h => ⟨h.1, h.2 ▸ hWC⟩)
                        done)
                      go_simp
                      go_big_quiet_on)
                   | (apply quiet_call
                      focus (
                        intro WC hWC
                        go_simp
                        all_goals (first | rfl | exact ⟨rfl, rfl⟩)
                        done)
                      focus (
                        intro WC hWC
                        ((with_reducible refine Calls.mono (HN4.out WC hWC) ?_); exact fun e w' h => ⟨h.1, h.2 ▸ hWC⟩)
                        done)
                      go_simp
                      go_big_quiet_on)
                   | (apply quiet_call
                      focus (
                        intro WC hWC
                        go_simp
                        all_goals (first | rfl | exact ⟨rfl, rfl⟩)
                        done)
                      focus (
                        intro WC hWC
                        ((with_reducible refine Calls.mono (HN5.out WC hWC) ?_); exact fun e w' h => ⟨h.1, h.2 ▸ hWC⟩)
                        done)
                      go_simp
                      go_big_quiet_on)))
            refine wpQuiet_nil ?_
            intro w2 hw2
            go_wp2_with fail
            go_meet
            exact ⟨by rw [HE.out]; rfl, hw2⟩
        · have HE : Hid (headR bs k = false) := Lib.hid (by rw [HH.out, t1, t2, t3]; simp)
          clear HH
          go_wp2_with fail
          refine wp_region_below (by kernel_rfl) (by kernel_rfl) ?_
          repeat (first
            | go_big_quiet_skip
            | (go_big_quiet_want
               first
                 | (apply quiet_val
                    focus (
                      intro WC hWC
                      obtain ⟨hcc0, hff0⟩ := bcell hWC
                      go_simp
                      all_goals rfl
                      done)
                    go_simp
                    go_big_quiet_on)
                 | (apply quiet_call
                    focus (
                      intro WC hWC
                      go_simp
                      all_goals (first | rfl | exact ⟨rfl, rfl⟩)
                      done)
                    focus (
                      intro WC hWC
                      ((with_reducible refine Calls.mono (HN1.out WC hWC) ?_); exact fun e w' h => ⟨h.1, h.2 ▸ hWC⟩)
                      done)
                    go_simp
                    go_big_quiet_on)
                 | (apply quiet_call
                    focus (
                      intro WC hWC
                      go_simp
                      all_goals (first | rfl | exact ⟨rfl, rfl⟩)
                      done)
                    focus (
                      intro WC hWC
                      ((with_reducible refine Calls.mono (HN2.out WC hWC) ?_); exact fun e w' h => ⟨h.1, h.2 ▸ hWC⟩)
                      done)
                    go_simp
                    go_big_quiet_on)
                 | (apply quiet_call
                    focus (
                      intro WC hWC
                      go_simp
                      all_goals (first | rfl | exact ⟨rfl, rfl⟩)
                      done)
                    focus (
                      intro WC hWC
                      ((with_reducible refine Calls.mono (HN3.out WC hWC) ?_); exact fun e w' h => ⟨h.1, h.2 ▸ hWC⟩)
                      done)
                    go_simp
                    go_big_quiet_on)
                 | (apply quiet_call
                    focus (
                      intro WC hWC
                      go_simp
                      all_goals (first | rfl | exact ⟨rfl, rfl⟩)
                      done)
                    focus (
                      intro WC hWC
                      ((with_reducible refine Calls.mono (HN4.out WC hWC) ?_); exact fun e w' h => ⟨h.1, h.2 ▸ hWC⟩)
                      done)
                    go_simp
                    go_big_quiet_on)
                 | (apply quiet_call
                    focus (
                      intro WC hWC
                      go_simp
                      all_goals (first | rfl | exact ⟨rfl, rfl⟩)
                      done)
                    focus (
                      intro WC hWC
                      ((with_reducible refine Calls.mono (HN5.out WC hWC) ?_); exact fun e w' h => ⟨h.1, h.2 ▸ hWC⟩)
                      done)
                    go_simp
                    go_big_quiet_on)))
          refine wpQuiet_nil ?_
          intro w2 hw2
          go_wp2_with fail
          go_meet
          exact ⟨by rw [HE.out]; rfl, hw2⟩
      · have HE : Hid (headR bs k = false) := Lib.hid (by rw [HH.out, t1, t2]; simp)
        clear HH
        go_wp2_with fail
        refine wp_region_below (by kernel_rfl) (by kernel_rfl) ?_
        repeat (first
          | go_big_quiet_skip
          | (go_big_quiet_want
             first
               | (apply quiet_val
                  focus (
                    intro WC hWC
                    obtain ⟨hcc0, hff0⟩ := bcell hWC
                    go_simp
                    all_goals rfl
                    done)
                  go_simp
                  go_big_quiet_on)
               | (apply quiet_call
                  focus (
                    intro WC hWC
                    go_simp
                    all_goals (first | rfl | exact ⟨rfl, rfl⟩)
                    done)
                  focus (
                    intro WC hWC
                    ((with_reducible refine Calls.mono (HN1.out WC hWC) ?_); exact fun e w' h => ⟨h.1, h.2 ▸ hWC⟩)
                    done)
                  go_simp
                  go_big_quiet_on)
               | (apply quiet_call
                  focus (
                    intro WC hWC
                    go_simp
                    all_goals (first | rfl | exact ⟨rfl, rfl⟩)
                    done)
                  focus (
                    intro WC hWC
                    ((with_reducible refine Calls.mono (HN2.out WC hWC) ?_); exact fun e w' h => ⟨h.1, h.2 ▸ hWC⟩)
                    done)
                  go_simp
                  go_big_quiet_on)
               | (apply quiet_call
                  focus (
                    intro WC hWC
                    go_simp
                    all_goals (first | rfl | exact ⟨rfl, rfl⟩)
                    done)
                  focus (
                    intro WC hWC
                    ((with_reducible refine Calls.mono (HN3.out WC hWC) ?_); exact fun e w' h => ⟨h.1, h.2 ▸ hWC⟩)
                    done)
                  go_simp
                  go_big_quiet_on)
               | (apply quiet_call
                  focus (
                    intro WC hWC
                    go_simp
                    all_goals (first | rfl | exact ⟨rfl, rfl⟩)
                    done)
                  focus (
                    intro WC hWC
                    ((with_reducible refine Calls.mono (HN4.out WC hWC) ?_); exact fun e w' h => ⟨h.1, h.2 ▸ hWC⟩)
                    done)
                  go_simp
                  go_big_quiet_on)
               | (apply quiet_call
                  focus (
                    intro WC hWC
                    go_simp
                    all_goals (first | rfl | exact ⟨rfl, rfl⟩)
                    done)
                  focus (
                    intro WC hWC
                    ((with_reducible refine Calls.mono (HN5.out WC hWC) ?_); exact fun e w' h => ⟨h.1, h.2 ▸ hWC⟩)
                    done)
                  go_simp
                  go_big_quiet_on)))
        refine wpQuiet_nil ?_
        intro w2 hw2
        go_wp2_with fail
        go_meet
        exact ⟨by rw [HE.out]; rfl, hw2⟩
    · obtain rfl : g = 0 := by simpa using t1
      have HE : Hid (headR bs k = false) := Lib.hid (by rw [HH.out, t1]; simp)
      clear HH
      go_wp2_with fail
      refine wp_region_below (by kernel_rfl) (by kernel_rfl) ?_
      repeat (first
        | go_big_quiet_skip
        | (go_big_quiet_want
           first
             | (apply quiet_val
                focus (
                  intro WC hWC
                  obtain ⟨hcc0, hff0⟩ := bcell hWC
                  go_simp
                  all_goals rfl
                  done)
                go_simp
                go_big_quiet_on)
             | (apply quiet_call
                focus (
                  intro WC hWC
                  go_simp
                  all_goals (first | rfl | exact ⟨rfl, rfl⟩)
                  done)
                focus (
                  intro WC hWC
                  ((with_reducible refine Calls.mono (HN1.out WC hWC) ?_); exact fun e w' h => ⟨h.1, h.2 ▸ hWC⟩)
                  done)
                go_simp
                go_big_quiet_on)
             | (apply quiet_call
                focus (
                  intro WC hWC
                  go_simp
                  all_goals (first | rfl | exact ⟨rfl, rfl⟩)
                  done)
                focus (
                  intro WC hWC
                  ((with_reducible refine Calls.mono (HN2.out WC hWC) ?_); exact fun e w' h => ⟨h.1, h.2 ▸ hWC⟩)
                  done)
                go_simp
                go_big_quiet_on)
             | (apply quiet_call
                focus (
                  intro WC hWC
                  go_simp
                  all_goals (first | rfl | exact ⟨rfl, rfl⟩)
                  done)
                focus (
                  intro WC hWC
                  ((with_reducible refine Calls.mono (HN3.out WC hWC) ?_); exact fun e w' h => ⟨h.1, h.2 ▸ hWC⟩)
                  done)
                go_simp
                go_big_quiet_on)
             | (apply quiet_call
                focus (
                  intro WC hWC
                  go_simp
                  all_goals (first | rfl | exact ⟨rfl, rfl⟩)
                  done)
                focus (
                  intro WC hWC
                  ((with_reducible refine Calls.mono (HN4.out WC hWC) ?_); exact fun e w' h => ⟨h.1, h.2 ▸ hWC⟩)
                  done)
                go_simp
                go_big_quiet_on)
             | (apply quiet_call
                focus (
                  intro WC hWC
                  go_simp
                  all_goals (first | rfl | exact ⟨rfl, rfl⟩)
                  done)
                focus (
                  intro WC hWC
                  ((with_reducible refine Calls.mono (HN5.out WC hWC) ?_); exact fun e w' h => ⟨h.1, h.2 ▸ hWC⟩)
                  done)
                go_simp
                go_big_quiet_on)))
      refine wpQuiet_nil ?_
      intro w2 hw2
      go_wp2_with fail
      go_meet
      exact ⟨by rw [HE.out]; rfl, hw2⟩
  case rest =>
    obtain ⟨w3, hwc⟩ : ∃ X, X = wc := ⟨_, rfl⟩
    subst hwc
    obtain ⟨rfl, hb3⟩ := hcut
    have HB3 := Lib.hid (HB.out.step hb3)
    have HW3 := Lib.hid hb3
    have hz3 := hb3.size
    clear HH HN1 HN2 HN3 HN4 HN5 hs1 hs2 hs3 hs4 hs5 hb3 HZ hzy hc11 hc10
    cases hd : headR bs k
    · have HV : Hid (E = false) := Lib.hid (by rw [HE.out]; simp [goodR, hd])
      obtain rfl : E = false := HV.out
      clear HV HE hd
      go_wp2_with fail
      go_ret
      exact ⟨rfl, HW3.out⟩
    · have hn112 : n ≤ 112 := by unfold headR shapeR at hd; rw [HN11.out] at hd; simp at hd; omega
      obtain ⟨nn, rfl⟩ : ∃ nn : Nat, n = nn := ⟨n.toNat, by omega⟩
      have HV : Hid (E = ((bs.take 124).drop (12 + nn)).all (fun x => x == 0)) := Lib.hid (by rw [HE.out, goodR, hd, HN11.out]; simp)
      clear HE hd
      go_wp2_with fail
      go_loopw [6] (fun t6 wr => ∃ j : Nat, 12 + nn ≤ j ∧ j ≤ 124 ∧ t6 = .int .i64 j ∧ ((bs.take j).drop (12 + nn)).all (fun x => x == 0) = true ∧ w3 = wr) (fun t6 _ => 124 - (intOf t6).toNat)
      case atStart => exact ⟨12 + nn, by omega, by omega, by go_num, by rw [List.drop_eq_nil_of_le (by simp; omega)]; rfl, rfl⟩
      case round =>
        obtain ⟨j, hj1, hj2, rfl, hz, rfl⟩ := hrel
        by_cases hlt : j < 124
        · obtain ⟨b', off', x, ha', _, hxj, hx0, hx1, hcj⟩ := HB3.out.at_ (k := j) (by rw [HL.out]; omega)
          cases ha'
          have HXJ := Lib.hid hxj
          have HZ0 := Lib.hid hz
          clear hxj hz
          by_cases hx : x = 0
          · subst hx
            go_wp2_with fail
            go_roundw
            case rel => exact ⟨j + 1, by omega, by omega, by go_num, zeros_snoc HXJ.out hj1 HZ0.out rfl, trivial⟩
            case measure => simp [intOf]; omega
          · have HF : Hid (E = false) := Lib.hid (by rw [HV.out]; exact zeros_bad HXJ.out hj1 hlt hx)
            obtain rfl : E = false := HF.out
            clear HF HV
            go_wp2_with fail
            go_ret
            exact ⟨rfl, HW3.out⟩
        · obtain rfl : j = 124 := by omega
          have HF : Hid (E = true) := Lib.hid (by rw [HV.out]; exact hz)
          obtain rfl : E = true := HF.out
          clear HF HV hz
          go_wp2_with fail
          go_ret
          exact ⟨rfl, HW3.out⟩

theorem Rgood2 {P : Nat → Prop} (v : Sl) (bs : List Int) (k : Int) (w : World) (h : By w P v bs) (hl : bs.length = 128) (hk : 0 ≤ k ∧ k < 65536) :
    Calls Try.prog 72 #[.slice v.a v.n v.c, .int .i64 k] w fun e w' => e = .returned (.bool (goodB bs k)) ∧ Below w.heap.size w w' := by
  rw [← good_eq h.2 hl hk]
  exact Rgood_any v bs k w h hl hk
end Go.Proofs.Ytgbkhmoplocmkaa
