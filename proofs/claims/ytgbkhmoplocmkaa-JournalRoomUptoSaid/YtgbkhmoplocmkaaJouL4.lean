/- JournalRoom (printed by gen_jouL4.py) -/
import Derived.Test.YtgbkhmoplocmkaaJouTU
import Derived.Test.YtgbkhmoplocmkaaJouL
import Derived.Test.YtgbkhmoplocmkaaJouX
import Derived.BigQuiet
namespace Go.Proofs.Ytgbkhmoplocmkaa
open Go.RowKit Go.Shelf
set_option linter.unusedSimpArgs false
set_option linter.unusedVariables false
set_option maxRecDepth 20000

theorem sumK_one (b : List Int) : sumK [b] = sectK b := by
  unfold sumK
  rw [List.map_cons, List.map_nil, List.sum_cons, List.sum_nil, Nat.add_zero]
theorem sumK_le : ∀ (rs : List (List Int)), (∀ x ∈ rs, x.length ≤ 1048576) → sumK rs ≤ rs.length * 9363
  | [], _ => by simp [sumK]
  | b :: r, h => by
    have h1 := sumK_le r (fun x hx => h x (List.mem_cons_of_mem _ hx))
    have h2 := h b (List.mem_cons_self ..)
    have h3 := sectN_mid (n := b.length) (by omega)
    have h4 := sectK_int b
    have e1 : sumK (b :: r) = sectK b + sumK r := by simp [sumK]
    rw [e1, List.length_cons]
    omega
theorem room_calc {M K s : Int} (h1 : 1 ≤ M) (h2 : M ≤ 4096) (hK : 0 ≤ K) (hs : 1 ≤ s) (h : K + s ≤ M) : wrap64 (112 * wrap64 (M - (K + s))) < wrap64 (112 * wrap64 (M - K)) := by
  have e1 : wrap64 (M - (K + s)) = M - (K + s) := IntWalk.wrap64_in _ ⟨by omega, by omega⟩
  have e2 : wrap64 (M - K) = M - K := IntWalk.wrap64_in _ ⟨by clear e1; omega, by clear e1; omega⟩
  rw [e1, e2]
  clear e1 e2
  have e3 : wrap64 (112 * (M - (K + s))) = 112 * (M - (K + s)) := IntWalk.wrap64_in _ ⟨by omega, by omega⟩
  have e4 : wrap64 (112 * (M - K)) = 112 * (M - K) := IntWalk.wrap64_in _ ⟨by clear e3; omega, by clear e3; omega⟩
  rw [e3, e4]
  clear e3 e4
  omega
theorem sumK_small {rs : List (List Int)} (hN : rs.length ≤ 1048576) (hL : ∀ x ∈ rs, x.length ≤ 1048576) : sumK rs ≤ 9223372036854775807 := by
  have h := sumK_le rs hL
  omega
theorem room_in {M K : Int} (h1 : 1 ≤ M) (h2 : M ≤ 4096) (hK : 0 ≤ K) (h : K ≤ M) : wrap64 (M - K) = M - K ∧ wrap64 (112 * (M - K)) = 112 * (M - K) :=
  ⟨IntWalk.wrap64_in _ ⟨by omega, by omega⟩, IntWalk.wrap64_in _ ⟨by omega, by omega⟩⟩
theorem room_full {D s : Int} {n : Nat} (hs : s = max 1 (((n : Int) + 111) / 112)) (h : D < s) : ¬ (0 < 112 * D ∧ (n : Int) ≤ 112 * D) := by omega
theorem room_fits {D s : Int} {n : Nat} (hs : s = max 1 (((n : Int) + 111) / 112)) (h : ¬ D < s) : 0 < 112 * D ∧ (n : Int) ≤ 112 * D := by omega
/-- a record that is appended, and the room for it -/
theorem room_law {l : Jl} {b : List Int} (hv : validJ l = true) (hN : l.recs.length ≤ 1048576) (hL : ∀ x ∈ l.recs, x.length ≤ 1048576) (hb : b.length ≤ 70000) :
    (0 < roomJ l ∧ (b.length : Int) ≤ roomJ l ∧ appendJ l b = (⟨l.recs ++ [b], l.many, l.synced⟩, 0) ∧ checkJ ⟨l.recs ++ [b], l.many, l.synced⟩ = 0 ∧ roomJ ⟨l.recs ++ [b], l.many, l.synced⟩ < roomJ l) ∨
    (¬ (0 < roomJ l ∧ (b.length : Int) ≤ roomJ l) ∧ appendJ l b = (Jl.zero, 2)) := by
  have h2 := usedR_sum (sumK_small hN hL)
  have hv' := hv
  simp only [validJ, Bool.not_eq_true', Bool.or_eq_false_iff, decide_eq_false_iff_not] at hv'
  obtain ⟨v1, v2, v3, v4, v5⟩ := hv'
  rw [h2] at v5
  have h3 := sectN_mid (n := b.length) (Nat.le_trans hb (by decide))
  have h4 := sectK_int b
  have h5 := sectK_pos b
  have w1 : 1 ≤ l.many := Int.not_lt.1 v1
  have w2 : l.many ≤ 4096 := Int.not_lt.1 v2
  have w5 : (sumK l.recs : Int) ≤ l.many := Int.not_lt.1 v5
  have w0 : (0 : Int) ≤ (sumK l.recs : Int) := Int.natCast_nonneg _
  obtain ⟨r1, r2⟩ := room_in w1 w2 w0 w5
  have hr : roomJ l = 112 * (l.many - (sumK l.recs : Int)) := by
    unfold roomJ
    rw [if_pos hv, h2, r1, r2]
  by_cases h : wrap64 (l.many - usedR l.recs) < sectN b.length
  · right
    rw [hr]
    refine ⟨?_, appendJ_full hv h⟩
    rw [h2, r1] at h
    exact room_full h3 h
  · left
    have ha := appendJ_ok hv h
    rw [h2, r1] at h
    have hf := room_fits h3 h
    have h10 : (sumK l.recs : Int) + (sectK b : Nat) ≤ l.many := by
      rw [h4]
      exact Int.add_le_of_le_sub_left (Int.not_lt.1 h)
    have h6 : sumK (l.recs ++ [b]) = sumK l.recs + sectK b := by rw [sumK_app, sumK_one]
    have h8 : sumK l.recs + sectK b ≤ 4096 := Int.ofNat_le.1 (by rw [Int.natCast_add]; exact Int.le_trans h10 w2)
    have h9 : sumK (l.recs ++ [b]) ≤ 9223372036854775807 := by rw [h6]; exact Nat.le_trans h8 (by decide)
    have h7 := usedR_sum h9
    rw [h6, Int.natCast_add] at h7
    have hv2 : validJ ⟨l.recs ++ [b], l.many, l.synced⟩ = true := by
      simp only [validJ, Bool.not_eq_true', Bool.or_eq_false_iff, decide_eq_false_iff_not, h7, List.length_append, List.length_singleton]
      exact ⟨v1, v2, v3, Int.not_lt.2 (Int.le_trans (Int.not_lt.1 v4) (Int.ofNat_le.2 (Nat.le_succ _))), Int.not_lt.2 h10⟩
    rw [hr]
    refine ⟨hf.1, hf.2, ha, checkJ_yes hv2, ?_⟩
    rw [← hr]
    unfold roomJ
    rw [if_pos hv2, if_pos hv]
    simp only
    rw [h7, h2]
    exact room_calc w1 w2 w0 (Int.ofNat_le.2 h5) h10

set_option maxRecDepth 100000 in
set_option maxHeartbeats 16000000 in
theorem Room_walk (sv bv : Sl) (l : Jl) (b : List Int) (w : World) (hl : Se w everyB sv l.recs) (hb : By w everyB bv b) (hN : l.recs.length ≤ 1048576) (hL : ∀ x ∈ l.recs, x.length ≤ 1048576) :
    Calls Try.prog 6 #[jlV sv l, .slice bv.a bv.n bv.c] w fun e w' => e = .returned (.bool true) ∧ Below w.heap.size w w' := by
  obtain ⟨bf, hbf⟩ : ∃ bf, bf = fewB Dk.zero l.recs := ⟨_, rfl⟩
  have HBF := Lib.hid hbf
  clear hbf
  obtain ⟨BA, bn, BC⟩ := bv
  obtain rfl : bn = b.length := hb.1.1
  obtain ⟨ck, hck⟩ : ∃ x, x = checkJ l := ⟨_, rfl⟩
  obtain ⟨rm, hrm⟩ : ∃ x, x = roomJ l := ⟨_, rfl⟩
  have hways : (decide ((70000 : Int) < (b.length : Int)) = true ∧ decide (70000 < b.length) = true) ∨ (decide ((70000 : Int) < (b.length : Int)) = false ∧ decide (70000 < b.length) = false ∧
      ((validJ l = false ∧ (ck != 0) = true) ∨ (ck = 0 ∧ Hid (b.length ≤ 70000) ∧
        ((decide (0 < rm) = true ∧ decide ((b.length : Int) ≤ rm) = true ∧ Hid (appendJ l b = (⟨l.recs ++ [b], l.many, l.synced⟩, 0)) ∧ Hid (checkJ ⟨l.recs ++ [b], l.many, l.synced⟩ = 0) ∧ ∃ rm2, Hid (rm2 = roomJ ⟨l.recs ++ [b], l.many, l.synced⟩) ∧ decide (rm2 < rm) = true) ∨
         (decide (0 < rm) = false ∧ Hid (appendJ l b = (Jl.zero, 2))) ∨ (decide (0 < rm) = true ∧ decide ((b.length : Int) ≤ rm) = false ∧ Hid (appendJ l b = (Jl.zero, 2))))))) := by
    by_cases h : b.length ≤ 70000
    · refine .inr ⟨decide_eq_false (by omega), decide_eq_false (by omega), ?_⟩
      cases hv : validJ l
      · exact .inl ⟨rfl, by rw [hck, checkJ_no hv]; rfl⟩
      · refine .inr ⟨by rw [hck, checkJ_yes hv], Lib.hid h, ?_⟩
        rw [hrm]
        rcases room_law hv hN hL h with ⟨h1, h2, h3, h4, h5⟩ | ⟨h1, h2⟩
        · exact .inl ⟨decide_eq_true h1, decide_eq_true h2, Lib.hid h3, Lib.hid h4, _, Lib.hid rfl, decide_eq_true h5⟩
        · by_cases h0 : 0 < roomJ l
          · exact .inr (.inr ⟨decide_eq_true h0, decide_eq_false (fun h2 => h1 ⟨h0, h2⟩), Lib.hid h2⟩)
          · exact .inr (.inl ⟨decide_eq_false h0, Lib.hid h2⟩)
    · exact .inl ⟨decide_eq_true (by omega), decide_eq_true (by omega)⟩
  have HCK := Lib.hid hck
  have HRM := Lib.hid hrm
  have HNN : Hid ((l.recs.length + 1) * 24 ≤ 140737488355328) := Lib.hid (by omega)
  have hln := hl.len
  obtain ⟨SA, sn, SC⟩ := sv
  simp only at hln
  subst hln
  have hw1 : wrap64 ((l.recs.length : Int) + 1) = ((l.recs.length + 1 : Nat) : Int) := by rw [IntWalk.wrap64_in _ ⟨by omega, by omega⟩]; omega
  have hw1i : IntKind.i64.wrap ((l.recs.length : Int) + 1) = ((l.recs.length + 1 : Nat) : Int) := by rw [IntWalk.i64_in _ (by omega)]; omega
  have HW1 := Lib.hid hw1
  have HW1I := Lib.hid hw1i
  clear hck hrm hN hL hw1 hw1i
  unfold jlV
  go_enter Try.func6, Try.ntmps6
  have ba : Hid (Below w.heap.size w w) := Lib.hid (Below.refl _ _)
  have HL := Lib.hid (hl)
  have HB := Lib.hid (hb)
  clear hl hb
  go_upto_region 1 with fail
  obtain ⟨W0, hW0⟩ : ∃ X, X = (w.alloc (.cells #[.slice SA l.recs.length SC, .int .i64 l.many, .int .i64 l.synced] 29)) := ⟨_, rfl⟩
  rw [← hW0]
  have hb_W0 : Below w.heap.size w W0 := by rw [hW0]; exact (Below.refl _ _).alloc (by (try simp) <;> omega) _
  have N_X2 : Box3 W0 (w.heap.size) (.slice SA l.recs.length SC) (.int .i64 l.many) (.int .i64 l.synced) := by rw [hW0]; exact (Box3.at_ _ (.slice SA l.recs.length SC) (.int .i64 l.many) (.int .i64 l.synced) _ _ (by simp))
  clear hW0
  have S_W0 : Below w.heap.size w W0 := (Below.refl _ w).trans (hb_W0.mono (by (try simp) <;> omega))
  have ba := Lib.hid (ba.out.trans (S_W0.mono ba.out.size))
  have HL := Lib.hid (HL.out.step S_W0)
  have HB := Lib.hid (HB.out.step S_W0)
  have z_W0 := S_W0.size
  have X2 := Lib.hid (N_X2)
  clear N_X2
  go_wp2_with fail
  refine (sane_any _).mono ?_
  rintro e w1 ⟨rfl, hb_w1⟩
  have S_w1 : Below W0.heap.size W0 w1 := (Below.refl _ W0).trans (hb_w1.mono (by (try simp) <;> omega))
  have ba := Lib.hid (ba.out.trans (S_w1.mono ba.out.size))
  have HL := Lib.hid (HL.out.step S_w1)
  have HB := Lib.hid (HB.out.step S_w1)
  have X2 := Lib.hid (X2.out.step S_w1)
  have z_w1 := S_w1.size
  obtain ⟨X2_0, X2_1, X2_2, X2_f0, X2_f1, X2_f2, X2_z⟩ := X2.out
  go_wp2_with fail
  refine (few_any (P := everyB) (Q := everyB) Dk.zero ⟨none, 0, 0⟩ ⟨none, 0, 0⟩ ⟨SA, l.recs.length, SC⟩ l.recs _ (Di.zero _ _) HL.out).mono ?_
  rw [← HBF.out]
  rintro e w2 ⟨rfl, hb_w2⟩
  have S_w2 : Below w1.heap.size w1 w2 := (Below.refl _ w1).trans (hb_w2.mono (by (try simp) <;> omega))
  have ba := Lib.hid (ba.out.trans (S_w2.mono ba.out.size))
  have HL := Lib.hid (HL.out.step S_w2)
  have HB := Lib.hid (HB.out.step S_w2)
  have X2 := Lib.hid (X2.out.step S_w2)
  have z_w2 := S_w2.size
  clear X2_0 X2_1 X2_2 X2_f0 X2_f1 X2_f2 X2_z
  obtain ⟨X2_0, X2_1, X2_2, X2_f0, X2_f1, X2_f2, X2_z⟩ := X2.out
  cases bf
  · go_wp2_with fail
    go_ret
    exact ⟨rfl, ba.out⟩
  rcases hways with ⟨t1, t2⟩ | ⟨t1, t2, hways⟩
  · go_wp2_with fail
    go_ret
    exact ⟨rfl, ba.out⟩
  go_wp2_with fail
  refine (JCheck_any (P := everyB) l ⟨SA, l.recs.length, SC⟩ _ HL.out).mono ?_
  rw [← HCK.out]
  rintro e w3 ⟨rfl, hb_w3⟩
  have S_w3 : Below w2.heap.size w2 w3 := (Below.refl _ w2).trans (hb_w3.mono (by (try simp) <;> omega))
  have ba := Lib.hid (ba.out.trans (S_w3.mono ba.out.size))
  have HL := Lib.hid (HL.out.step S_w3)
  have HB := Lib.hid (HB.out.step S_w3)
  have X2 := Lib.hid (X2.out.step S_w3)
  have z_w3 := S_w3.size
  clear X2_0 X2_1 X2_2 X2_f0 X2_f1 X2_f2 X2_z
  obtain ⟨X2_0, X2_1, X2_2, X2_f0, X2_f1, X2_f2, X2_z⟩ := X2.out
  rcases hways with ⟨hv, hc⟩ | ⟨rfl, H7, hways⟩
  · go_wp2_with fail
    go_ret
    exact ⟨rfl, ba.out⟩
  rcases hways with ⟨t3, t4, HA, HC5, rm2, HRM2, t5⟩ | ⟨t3, HA⟩ | ⟨t3, t4, HA⟩
  · go_wp2_with fail
    have hap := JAppend_any (P := everyB) l ⟨SA, l.recs.length, SC⟩ ⟨BA, b.length, BC⟩ b w3 HL.out HB.out HNN.out (fun _ => Nat.le_trans H7.out (by decide))
    rw [HA.out] at hap
    unfold jlV at hap
    simp only at hap
    refine hap.mono ?_
    rintro e w4 ⟨⟨r5, rfl, hr5⟩, hb_w4⟩
    clear hap
    have S_w4 : Below w3.heap.size w3 w4 := (Below.refl _ w3).trans (hb_w4.mono (by (try simp) <;> omega))
    have ba := Lib.hid (ba.out.trans (S_w4.mono ba.out.size))
    have HL := Lib.hid (HL.out.step S_w4)
    have HB := Lib.hid (HB.out.step S_w4)
    have X2 := Lib.hid (X2.out.step S_w4)
    have z_w4 := S_w4.size
    have HR5 := Lib.hid (hr5.mono (fun _ _ => trivial) (Q := everyB))
    clear hr5
    clear X2_0 X2_1 X2_2 X2_f0 X2_f1 X2_f2 X2_z
    go_upto_region 6 with fail
    obtain ⟨W4, hW4⟩ : ∃ X, X = (w4.alloc (.cells #[.slice r5.a r5.n r5.c, .int .i64 l.many, .int .i64 l.synced] 29)) := ⟨_, rfl⟩
    rw [← hW4]
    have hb_W4 : Below w4.heap.size w4 W4 := by rw [hW4]; exact (Below.refl _ _).alloc (by (try simp) <;> omega) _
    have N_X5 : Box3 W4 (w4.heap.size) (.slice r5.a r5.n r5.c) (.int .i64 l.many) (.int .i64 l.synced) := by rw [hW4]; exact (Box3.at_ _ (.slice r5.a r5.n r5.c) (.int .i64 l.many) (.int .i64 l.synced) _ _ (by simp))
    clear hW4
    have S_W4 : Below w4.heap.size w4 W4 := (Below.refl _ w4).trans (hb_W4.mono (by (try simp) <;> omega))
    have ba := Lib.hid (ba.out.trans (S_W4.mono ba.out.size))
    have HL := Lib.hid (HL.out.step S_W4)
    have HB := Lib.hid (HB.out.step S_W4)
    have X2 := Lib.hid (X2.out.step S_W4)
    have HR5 := Lib.hid (HR5.out.step S_W4)
    have z_W4 := S_W4.size
    have X5 := Lib.hid (N_X5)
    clear N_X5
    obtain ⟨X2_0, X2_1, X2_2, X2_f0, X2_f1, X2_f2, X2_z⟩ := X2.out
    go_wp2_with fail
    refine (JRoom_any (P := everyB) l ⟨SA, l.recs.length, SC⟩ _ HL.out).mono ?_
    rw [← HRM.out]
    rintro e w5 ⟨rfl, hb_w5⟩
    have S_w5 : Below W4.heap.size W4 w5 := (Below.refl _ W4).trans (hb_w5.mono (by (try simp) <;> omega))
    have ba := Lib.hid (ba.out.trans (S_w5.mono ba.out.size))
    have HL := Lib.hid (HL.out.step S_w5)
    have HB := Lib.hid (HB.out.step S_w5)
    have X2 := Lib.hid (X2.out.step S_w5)
    have HR5 := Lib.hid (HR5.out.step S_w5)
    have X5 := Lib.hid (X5.out.step S_w5)
    have z_w5 := S_w5.size
    clear X2_0 X2_1 X2_2 X2_f0 X2_f1 X2_f2 X2_z
    obtain ⟨X2_0, X2_1, X2_2, X2_f0, X2_f1, X2_f2, X2_z⟩ := X2.out
    obtain ⟨X5_0, X5_1, X5_2, X5_f0, X5_f1, X5_f2, X5_z⟩ := X5.out
    have hn5 := HR5.out.len
    simp only [List.length_append, List.length_singleton] at hn5
    obtain ⟨A5, n5, c5⟩ := r5
    simp only at hn5
    have hlt5 : l.recs.length < n5 := by rw [hn5]; exact Nat.lt_succ_self _
    have hlt5i : (l.recs.length : Int) < (n5 : Int) := Int.ofNat_lt.2 hlt5
    have hlt5d : decide ((l.recs.length : Int) < (n5 : Int)) = true := decide_eq_true hlt5i
    have HL1I : IntKind.i64.wrap ((l.recs.length : Int) + 1) = (n5 : Int) := by rw [HW1I.out, hn5]
    have HL1 : wrap64 ((l.recs.length : Int) + 1) = (n5 : Int) := by rw [HW1.out, hn5]
    obtain ⟨b5, o5, v5, bs5, ha5, hbl5, he5, hv5, hc5⟩ := HR5.out.at_ (i := l.recs.length) (by rw [List.length_append]; exact Nat.lt_succ_self _)
    obtain rfl : b = bs5 := by rw [List.getElem?_append_right (Nat.le_refl _), Nat.sub_self] at he5; exact Option.some.inj he5
    simp only at ha5
    subst ha5
    have hcap := (HR5.out.cap)
    simp only [List.length_append, List.length_singleton] at hcap
    obtain ⟨i0, hinf, hz0, hz1, hz2⟩ := info_parts Try.infoSl
    have hst1 : ∀ W, (Instr.slice 22 (.slice (some ⟨b5, o5, none⟩) n5 c5) none (some (.int .i64 l.recs.length)) none).run Try.prog W = .ok (.slice (some ⟨b5, o5, none⟩) l.recs.length c5) W := fun W => by
      have := run_slice_to (P := Try.prog) Try.underlying22 hinf (some ⟨b5, o5, none⟩) n5 c5 .i64 l.recs.length (Int.natCast_nonneg _) (Int.ofNat_le.2 (Nat.le_of_succ_le hcap.1)) W
      simpa using this
    have HTK : Hid (Se w5 everyB ⟨some ⟨b5, o5, none⟩, l.recs.length, c5⟩ l.recs) := Lib.hid (by have h := HR5.out.take (m := l.recs.length) (by rw [List.length_append]; exact Nat.le_succ _); rw [List.take_left] at h; exact h)
    have S1 : Hid (∀ W, Below w5.heap.size w5 W → Calls Try.prog 17 #[.agg #[.slice (some ⟨b5, o5, none⟩) n5 c5, .int .i64 l.many, .int .i64 l.synced]] W fun e w' => e = .returned (.int .i64 0) ∧ Below w5.heap.size w5 w') := Lib.hid (fun W h => by have h1 := JCheck_any (P := everyB) ⟨l.recs ++ [b], l.many, l.synced⟩ ⟨some ⟨b5, o5, none⟩, n5, c5⟩ W (HR5.out.step h); rw [HC5.out] at h1; exact h1.mono (fun e w' k => ⟨k.1, h.trans (k.2.mono h.size)⟩))
    have S2 : Hid (∀ W, Below w5.heap.size w5 W → Calls Try.prog 24 #[.slice (some ⟨b5, o5, none⟩) l.recs.length c5, .slice SA l.recs.length SC] W fun e w' => e = .returned (.bool true) ∧ Below w5.heap.size w5 w') := Lib.hid (fun W h => by have h1 := SameRecords_any (P := everyB) (Q := everyB) l.recs l.recs ⟨some ⟨b5, o5, none⟩, l.recs.length, c5⟩ ⟨SA, l.recs.length, SC⟩ W (HTK.out.step h) (HL.out.step h); rw [decide_eq_true rfl] at h1; exact h1.mono (fun e w' k => ⟨k.1, h.trans (k.2.mono h.size)⟩))
    have S3 : Hid (∀ W, Below w5.heap.size w5 W → Calls Try.prog 19 #[.agg #[.slice (some ⟨b5, o5, none⟩) n5 c5, .int .i64 l.many, .int .i64 l.synced]] W fun e w' => e = .returned (.int .i64 rm2) ∧ Below w5.heap.size w5 w') := Lib.hid (fun W h => by have h1 := JRoom_any (P := everyB) ⟨l.recs ++ [b], l.many, l.synced⟩ ⟨some ⟨b5, o5, none⟩, n5, c5⟩ W (HR5.out.step h); rw [← HRM2.out] at h1; exact h1.mono (fun e w' k => ⟨k.1, h.trans (k.2.mono h.size)⟩))
    obtain ⟨ST, hST⟩ : ∃ s, s = strOfNums b := ⟨_, rfl⟩
    have hcv1 : ∀ W, Below w5.heap.size w5 W → (convert 35 9 (.slice v5.a v5.n v5.c)).run Try.prog W = .ok (.string ST) W := fun W h => hST ▸ conv_by (hv5.step h)
    have hcv2 : ∀ W, Below w5.heap.size w5 W → (convert 35 9 (.slice BA b.length BC)).run Try.prog W = .ok (.string ST) W := fun W h => hST ▸ conv_by (HB.out.step h)
    have hi0 : (0 : Int) ≤ (l.recs.length : Int) := Int.natCast_nonneg _
    clear hST hv5 he5 hn5 hinf hcap hz0 hz1 hz2
    clear X2_0 X2_1 X2_2 X2_f0 X2_f1 X2_f2 X2_z
    clear X5_0 X5_1 X5_2 X5_f0 X5_f1 X5_f2 X5_z
    obtain ⟨X2_0, X2_1, X2_2, X2_f0, X2_f1, X2_f2, X2_z⟩ := X2.out
    obtain ⟨X5_0, X5_1, X5_2, X5_f0, X5_f1, X5_f2, X5_z⟩ := X5.out
    go_upto_region 12 with fail
    refine wp_region_below (by kernel_rfl) (by kernel_rfl) ?_
    repeat (first
      | go_big_quiet_skip
      | (go_big_quiet_want
         first
           | (apply quiet_val
              focus (
                intro WC hWC
                obtain ⟨hcc0, hff0⟩ := bcell hWC
                go_simp
                all_goals rfl
                done)
              go_simp
              go_big_quiet_on)
           | (apply quiet_call
              focus (
                intro WC hWC
                go_simp
                all_goals (first | rfl | exact ⟨rfl, rfl⟩)
                done)
              focus (
                intro WC hWC
                with_reducible exact S1.out WC hWC
                done)
              go_simp
              go_big_quiet_on)
           | (apply quiet_call
              focus (
                intro WC hWC
                go_simp
                all_goals (first | rfl | exact ⟨rfl, rfl⟩)
                done)
              focus (
                intro WC hWC
                with_reducible exact S2.out WC hWC
                done)
              go_simp
              go_big_quiet_on)
           | (apply quiet_call
              focus (
                intro WC hWC
                go_simp
                all_goals (first | rfl | exact ⟨rfl, rfl⟩)
                done)
              focus (
                intro WC hWC
                with_reducible exact S3.out WC hWC
                done)
              go_simp
              go_big_quiet_on)))
    refine wpQuiet_nil ?_
    intro W6 hW6
    go_wp2_with fail
    go_ret
    exact ⟨rfl, ba.out.trans (hW6.mono ba.out.size)⟩
  · go_wp2_with fail
    have hap := JAppend_any (P := everyB) l ⟨SA, l.recs.length, SC⟩ ⟨BA, b.length, BC⟩ b w3 HL.out HB.out HNN.out (fun _ => Nat.le_trans H7.out (by decide))
    rw [HA.out] at hap
    unfold jlV at hap
    simp only [Jl.zero] at hap
    refine hap.mono ?_
    rintro e w4 ⟨⟨r5, rfl, hr5⟩, hb_w4⟩
    clear hap
    have S_w4 : Below w3.heap.size w3 w4 := (Below.refl _ w3).trans (hb_w4.mono (by (try simp) <;> omega))
    have ba := Lib.hid (ba.out.trans (S_w4.mono ba.out.size))
    have HL := Lib.hid (HL.out.step S_w4)
    have HB := Lib.hid (HB.out.step S_w4)
    have X2 := Lib.hid (X2.out.step S_w4)
    have z_w4 := S_w4.size
    have HR5 := Lib.hid (hr5.mono (fun _ _ => trivial) (Q := everyB))
    clear hr5
    clear X2_0 X2_1 X2_2 X2_f0 X2_f1 X2_f2 X2_z
    go_upto_region 6 with fail
    obtain ⟨W4, hW4⟩ : ∃ X, X = (w4.alloc (.cells #[.slice r5.a r5.n r5.c, .int .i64 0, .int .i64 0] 29)) := ⟨_, rfl⟩
    rw [← hW4]
    have hb_W4 : Below w4.heap.size w4 W4 := by rw [hW4]; exact (Below.refl _ _).alloc (by (try simp) <;> omega) _
    have N_X5 : Box3 W4 (w4.heap.size) (.slice r5.a r5.n r5.c) (.int .i64 0) (.int .i64 0) := by rw [hW4]; exact (Box3.at_ _ (.slice r5.a r5.n r5.c) (.int .i64 0) (.int .i64 0) _ _ (by simp))
    clear hW4
    have S_W4 : Below w4.heap.size w4 W4 := (Below.refl _ w4).trans (hb_W4.mono (by (try simp) <;> omega))
    have ba := Lib.hid (ba.out.trans (S_W4.mono ba.out.size))
    have HL := Lib.hid (HL.out.step S_W4)
    have HB := Lib.hid (HB.out.step S_W4)
    have X2 := Lib.hid (X2.out.step S_W4)
    have HR5 := Lib.hid (HR5.out.step S_W4)
    have z_W4 := S_W4.size
    have X5 := Lib.hid (N_X5)
    clear N_X5
    obtain ⟨X2_0, X2_1, X2_2, X2_f0, X2_f1, X2_f2, X2_z⟩ := X2.out
    go_wp2_with fail
    refine (JRoom_any (P := everyB) l ⟨SA, l.recs.length, SC⟩ _ HL.out).mono ?_
    rw [← HRM.out]
    rintro e w5 ⟨rfl, hb_w5⟩
    have S_w5 : Below W4.heap.size W4 w5 := (Below.refl _ W4).trans (hb_w5.mono (by (try simp) <;> omega))
    have ba := Lib.hid (ba.out.trans (S_w5.mono ba.out.size))
    have HL := Lib.hid (HL.out.step S_w5)
    have HB := Lib.hid (HB.out.step S_w5)
    have X2 := Lib.hid (X2.out.step S_w5)
    have HR5 := Lib.hid (HR5.out.step S_w5)
    have X5 := Lib.hid (X5.out.step S_w5)
    have z_w5 := S_w5.size
    clear X2_0 X2_1 X2_2 X2_f0 X2_f1 X2_f2 X2_z
    obtain ⟨X2_0, X2_1, X2_2, X2_f0, X2_f1, X2_f2, X2_z⟩ := X2.out
    obtain ⟨X5_0, X5_1, X5_2, X5_f0, X5_f1, X5_f2, X5_z⟩ := X5.out
    have hn5 := HR5.out.len
    simp only [Jl.zero, List.length_nil] at hn5
    obtain ⟨A5, n5, c5⟩ := r5
    simp only at hn5
    subst hn5
    clear X2_0 X2_1 X2_2 X2_f0 X2_f1 X2_f2 X2_z
    clear X5_0 X5_1 X5_2 X5_f0 X5_f1 X5_f2 X5_z
    obtain ⟨X2_0, X2_1, X2_2, X2_f0, X2_f1, X2_f2, X2_z⟩ := X2.out
    obtain ⟨X5_0, X5_1, X5_2, X5_f0, X5_f1, X5_f2, X5_z⟩ := X5.out
    go_wp2_with fail
    go_ret
    exact ⟨rfl, ba.out⟩
  · go_wp2_with fail
    have hap := JAppend_any (P := everyB) l ⟨SA, l.recs.length, SC⟩ ⟨BA, b.length, BC⟩ b w3 HL.out HB.out HNN.out (fun _ => Nat.le_trans H7.out (by decide))
    rw [HA.out] at hap
    unfold jlV at hap
    simp only [Jl.zero] at hap
    refine hap.mono ?_
    rintro e w4 ⟨⟨r5, rfl, hr5⟩, hb_w4⟩
    clear hap
    have S_w4 : Below w3.heap.size w3 w4 := (Below.refl _ w3).trans (hb_w4.mono (by (try simp) <;> omega))
    have ba := Lib.hid (ba.out.trans (S_w4.mono ba.out.size))
    have HL := Lib.hid (HL.out.step S_w4)
    have HB := Lib.hid (HB.out.step S_w4)
    have X2 := Lib.hid (X2.out.step S_w4)
    have z_w4 := S_w4.size
    have HR5 := Lib.hid (hr5.mono (fun _ _ => trivial) (Q := everyB))
    clear hr5
    clear X2_0 X2_1 X2_2 X2_f0 X2_f1 X2_f2 X2_z
    go_upto_region 6 with fail
    obtain ⟨W4, hW4⟩ : ∃ X, X = (w4.alloc (.cells #[.slice r5.a r5.n r5.c, .int .i64 0, .int .i64 0] 29)) := ⟨_, rfl⟩
    rw [← hW4]
    have hb_W4 : Below w4.heap.size w4 W4 := by rw [hW4]; exact (Below.refl _ _).alloc (by (try simp) <;> omega) _
    have N_X5 : Box3 W4 (w4.heap.size) (.slice r5.a r5.n r5.c) (.int .i64 0) (.int .i64 0) := by rw [hW4]; exact (Box3.at_ _ (.slice r5.a r5.n r5.c) (.int .i64 0) (.int .i64 0) _ _ (by simp))
    clear hW4
    have S_W4 : Below w4.heap.size w4 W4 := (Below.refl _ w4).trans (hb_W4.mono (by (try simp) <;> omega))
    have ba := Lib.hid (ba.out.trans (S_W4.mono ba.out.size))
    have HL := Lib.hid (HL.out.step S_W4)
    have HB := Lib.hid (HB.out.step S_W4)
    have X2 := Lib.hid (X2.out.step S_W4)
    have HR5 := Lib.hid (HR5.out.step S_W4)
    have z_W4 := S_W4.size
    have X5 := Lib.hid (N_X5)
    clear N_X5
    obtain ⟨X2_0, X2_1, X2_2, X2_f0, X2_f1, X2_f2, X2_z⟩ := X2.out
    go_wp2_with fail
    refine (JRoom_any (P := everyB) l ⟨SA, l.recs.length, SC⟩ _ HL.out).mono ?_
    rw [← HRM.out]
    rintro e w5 ⟨rfl, hb_w5⟩
    have S_w5 : Below W4.heap.size W4 w5 := (Below.refl _ W4).trans (hb_w5.mono (by (try simp) <;> omega))
    have ba := Lib.hid (ba.out.trans (S_w5.mono ba.out.size))
    have HL := Lib.hid (HL.out.step S_w5)
    have HB := Lib.hid (HB.out.step S_w5)
    have X2 := Lib.hid (X2.out.step S_w5)
    have HR5 := Lib.hid (HR5.out.step S_w5)
    have X5 := Lib.hid (X5.out.step S_w5)
    have z_w5 := S_w5.size
    clear X2_0 X2_1 X2_2 X2_f0 X2_f1 X2_f2 X2_z
    obtain ⟨X2_0, X2_1, X2_2, X2_f0, X2_f1, X2_f2, X2_z⟩ := X2.out
    obtain ⟨X5_0, X5_1, X5_2, X5_f0, X5_f1, X5_f2, X5_z⟩ := X5.out
    have hn5 := HR5.out.len
    simp only [Jl.zero, List.length_nil] at hn5
    obtain ⟨A5, n5, c5⟩ := r5
    simp only at hn5
    subst hn5
    clear X2_0 X2_1 X2_2 X2_f0 X2_f1 X2_f2 X2_z
    clear X5_0 X5_1 X5_2 X5_f0 X5_f1 X5_f2 X5_z
    obtain ⟨X2_0, X2_1, X2_2, X2_f0, X2_f1, X2_f2, X2_z⟩ := X2.out
    obtain ⟨X5_0, X5_1, X5_2, X5_f0, X5_f1, X5_f2, X5_z⟩ := X5.out
    go_wp2_with fail
    go_ret
    exact ⟨rfl, ba.out⟩

theorem JournalRoom_any {w : World} (x : Sl × Jl) (hx : Se w everyB x.1 x.2.recs) (hn : x.2.recs.length ≤ 1048576) (hn2 : ∀ b ∈ x.2.recs, b.length ≤ 1048576) (y : Sl × List Int) (hy : By w everyB y.1 y.2) :
    Calls Try.prog 6 #[jlV x.1 x.2, .slice y.1.a y.1.n y.1.c] w fun e w' => e = .returned (.bool true) ∧ Below w.heap.size w w' :=
  Room_walk x.1 y.1 x.2 y.2 w hx hy hn hn2
theorem JournalRoom_upto {w : World} (x : Sl × Jl) (hx : Se w everyB x.1 x.2.recs ∧ x.2.recs.length ≤ 1048576 ∧ ∀ b ∈ x.2.recs, b.length ≤ 1048576) (y : Sl × List Int) (hy : By w everyB y.1 y.2 ∧ y.2.length ≤ 1048576) :
    Calls Try.prog 6 #[jlV x.1 x.2, .slice y.1.a y.1.n y.1.c] w fun e w' => e = .returned (.bool true) ∧ Below w.heap.size w w' :=
  Room_walk x.1 y.1 x.2 y.2 w hx.1 hy.1 hx.2.1 hx.2.2
end Go.Proofs.Ytgbkhmoplocmkaa
