/- Journals: the reference's generation and SameRecords, slices.EqualFunc of records. -/
import Derived.Test.YtgbkhmoplocmkaaJouK
namespace Go.Proofs.Ytgbkhmoplocmkaa
open Go.RowKit Go.Shelf
set_option linter.unusedSimpArgs false
set_option linter.unusedVariables false
set_option maxRecDepth 20000
attribute [local go_sem] Oper.semAt_some

def numE (s : List Int) : Int := numB ((s.drop 124).take 4)
def genF (l : List (List Int)) : Int := l.foldl (fun g s => max (max g (num4 s)) (numE s)) 0
theorem genF_snoc {l : List (List Int)} {k : Nat} {x : List Int} (h : l[k]? = some x) : genF (l.take (k + 1)) = max (max (genF (l.take k)) (num4 x)) (numE x) := foldl_take_succ _ _ h
def U32' (n : Int) : Prop := 0 ≤ n ∧ n < 4294967296
theorem num_4 {bs : List Int} (h : ∀ b ∈ bs, 0 ≤ b ∧ b < 256) (i : Nat) : 0 ≤ numB ((bs.drop i).take 4) ∧ numB ((bs.drop i).take 4) < 4294967296 := by
  have h1 := numB_lt ((bs.drop i).take 4) (fun b hb => h b (List.mem_of_mem_drop (List.mem_of_mem_take hb)))
  have hn : ((bs.drop i).take 4).length ≤ 4 := by simp; omega
  generalize ((bs.drop i).take 4).length = n at h1 hn
  rcases (by omega : n = 0 ∨ n = 1 ∨ n = 2 ∨ n = 3 ∨ n = 4) with rfl | rfl | rfl | rfl | rfl <;> omega

set_option maxRecDepth 100000 in
set_option maxHeartbeats 2000000 in
theorem Rgeneration_any {P : Nat → Prop} (l : List (List Int)) (sv : Sl) (w : World) (h : Se w P sv l) (hls : ∀ s ∈ l, s.length = 128) :
    Calls Try.prog 45 #[.slice sv.a sv.n sv.c] w fun e w' => e = .returned (.int .u64 (genF l + 1)) ∧ Below w.heap.size w w' := by
  have hln := h.len
  have hle := h.le
  have HX := Lib.hid h
  have HLS := Lib.hid hls
  obtain ⟨A, m, c⟩ := sv
  simp only at hln ⊢
  subst hln
  clear h hls
  go_enter Try.func45, Try.ntmps45
  go_wp2_with fail
  go_loopw [3, 4] (fun t3 t4 wr => ∃ (k : Nat) (g : Int), k ≤ l.length ∧ t4 = .int .i64 k ∧ t3 = .int .u64 g ∧ g = genF (l.take k) ∧ 0 ≤ g ∧ g < 4294967296 ∧ Below w.heap.size w wr) (fun _ t4 _ => l.length - (intOf t4).toNat)
  case atStart => exact ⟨0, 0, Nat.zero_le _, rfl, rfl, rfl, by omega, by omega, Below.refl _ _⟩
  case round =>
    obtain ⟨k, g, hk, rfl, rfl, hg, hg0, hg1, hbw⟩ := hrel
    have HG := Lib.hid hg
    have HBW := Lib.hid hbw
    have hzz := hbw.size
    clear hg hbw
    by_cases hlt : k < l.length
    · obtain ⟨bA, oA, v, s, hA, hbA, hsk, hby, hcv⟩ := (HX.out.step HBW.out).at_ hlt
      simp only at hA
      subst hA
      have hsl : s.length = 128 := HLS.out s (List.mem_of_getElem? hsk)
      obtain ⟨b1, o1, x0, hva, hb1, _⟩ := hby.at_ (k := 0) (by omega)
      obtain ⟨v, nv, cv⟩ := v
      simp only at hva hcv
      subst hva
      obtain rfl : nv = 128 := by have := hby.1.1; simp only at this; omega
      have hcc : 128 ≤ cv := by have := hby.1.2.1; simp only at this; omega
      have hmv : cv ≤ 9223372036854775807 := by have := hby.1.2.2.1; simp only [maxLen] at this; omega
      obtain ⟨q, hq⟩ : ∃ q, q = num4 s := ⟨_, rfl⟩
      obtain ⟨t, ht⟩ : ∃ t, t = numE s := ⟨_, rfl⟩
      have hq1 : 0 ≤ q ∧ q < 4294967296 := by rw [hq]; exact num_4 hby.2 0
      have ht1 : 0 ≤ t ∧ t < 4294967296 := by rw [ht]; exact num_4 hby.2 124
      have HN1 : Hid (∀ WC, Below wr.heap.size wr WC → Calls Try.prog 63 #[.slice (some ⟨b1, o1, none⟩) 4 cv] WC fun e w' => e = .returned (.int .u64 q) ∧ WC = w') := Lib.hid (fun WC hWC => by
        have h1 := (hby.step hWC).sub 0 4 (by omega)
        rw [hq]
        exact number_any ⟨some ⟨b1, o1, none⟩, 4, cv⟩ (s.take 4) WC (by simpa using h1) (by simp; omega))
      have HN2 : Hid (∀ WC, Below wr.heap.size wr WC → Calls Try.prog 63 #[.slice (some ⟨b1, o1 + 124, none⟩) 4 (cv - 124)] WC fun e w' => e = .returned (.int .u64 t) ∧ WC = w') := Lib.hid (fun WC hWC => by
        rw [ht]
        exact number_any ⟨some ⟨b1, o1 + 124, none⟩, 4, cv - 124⟩ _ WC ((hby.step hWC).sub 124 4 (by omega)) (by simp; omega))
      obtain ⟨G, hG⟩ : ∃ G, G = max (max g q) t := ⟨_, rfl⟩
      have HGN : Hid (G = genF (l.take (k + 1))) := Lib.hid (by rw [hG, genF_snoc hsk, HG.out, hq, ht])
      have hG1 : 0 ≤ G ∧ G < 4294967296 := by omega
      have hmx : ∀ W, (Builtin.max_ #[68, 68, 68] 68 #[.int .u64 g, .int .u64 q, .int .u64 t]).run Try.prog W = .ok (.int .u64 G) W := fun W => by
        rw [hG]
        simp [Builtin.max_, Builtin.max2]
        omega
      obtain ⟨i0, hinf, hz0, hz1, hz2⟩ := info_parts Try.infoByte
      have hs1 : ∀ W, (Instr.slice 35 (.slice (some ⟨b1, o1, none⟩) 128 cv) none (some (.int .i64 4)) none).run Try.prog W = .ok (.slice (some ⟨b1, o1, none⟩) 4 cv) W := fun W => by
        have := run_slice_to (P := Try.prog) Try.underlying35 hinf (some ⟨b1, o1, none⟩) 128 cv .i64 4 (by omega) (by omega) W
        exact this
      have hs2 : ∀ W, (Instr.slice 35 (.slice (some ⟨b1, o1, none⟩) 128 cv) (some (.int .i64 124)) none none).run Try.prog W = .ok (.slice (some ⟨b1, o1 + 124, none⟩) 4 (cv - 124)) W := fun W => by
        have := run_slice_from (P := Try.prog) Try.underlying35 hinf (some ⟨b1, o1, none⟩) 128 cv .i64 124 (by omega) (by omega) W
        rw [this, if_neg (by omega), hz1]
        simp [Go.WideShapes.add_plain]
      have hkl : decide ((k : Int) < (l.length : Int)) = true := decide_eq_true (by omega)
      clear hinf hq ht hG hsk hby hsl hz0 hz1 hz2
      go_wp2_with fail
      refine wp_region_below (by kernel_rfl) (by kernel_rfl) ?_
      repeat (first
        | go_big_quiet_skip
        | (go_big_quiet_want
           first
             | (apply quiet_val
                focus (
                  intro WC hWC
                  obtain ⟨hcc0, hff0⟩ := bcell hWC
                  go_simp
                  all_goals rfl
                  done)
                go_simp
                go_big_quiet_on)
             | (apply quiet_call
                focus (
                  intro WC hWC
                  go_simp
                  all_goals (first | rfl | exact ⟨rfl, rfl⟩)
                  done)
                focus (
                  intro WC hWC
                  ((with_reducible refine Calls.mono (HN1.out WC hWC) ?_); exact fun e w' h => ⟨h.1, h.2 ▸ hWC⟩)
                  done)
                go_simp
                go_big_quiet_on)
             | (apply quiet_call
                focus (
                  intro WC hWC
                  go_simp
                  all_goals (first | rfl | exact ⟨rfl, rfl⟩)
                  done)
                focus (
                  intro WC hWC
                  ((with_reducible refine Calls.mono (HN2.out WC hWC) ?_); exact fun e w' h => ⟨h.1, h.2 ▸ hWC⟩)
                  done)
                go_simp
                go_big_quiet_on)))
      refine wpQuiet_nil ?_
      intro w2 hw2
      go_wp2_with fail
      go_roundw
      case rel => exact ⟨k + 1, G, by omega, by go_num, rfl, HGN.out, hG1.1, hG1.2, HBW.out.trans (hw2.mono hzz)⟩
      case measure => simp [intOf]; omega
    · obtain rfl : k = l.length := by omega
      have HV : Hid (g = genF l) := Lib.hid (by rw [HG.out, List.take_length])
      have hw : IntKind.u64.wrap (g + 1) = g + 1 := by rw [IntKind.wrap_u64]; omega
      go_wp2_with fail
      go_ret
      exact ⟨ret_int (by rw [← HV.out]), HBW.out⟩

set_option maxRecDepth 100000 in
set_option maxHeartbeats 4000000 in
theorem SameRecords_any {P Q : Nat → Prop} (xs ys : List (List Int)) (sv su : Sl) (w : World) (h : Se w P sv xs) (h2 : Se w Q su ys) :
    Calls Try.prog 24 #[.slice sv.a sv.n sv.c, .slice su.a su.n su.c] w fun e w' => e = .returned (.bool (decide (xs = ys))) ∧ Below w.heap.size w w' := by
  have hln := h.len
  have hle := h.le
  have hln2 := h2.len
  have hle2 := h2.le
  have HX := Lib.hid h
  have HY := Lib.hid h2
  obtain ⟨A, m, c⟩ := sv
  obtain ⟨D, m2, c2⟩ := su
  simp only at hln hln2 ⊢
  subst hln hln2
  clear h h2
  obtain ⟨E, hE⟩ : ∃ E, E = decide (xs = ys) := ⟨_, rfl⟩
  rw [← hE]
  have HE := Lib.hid hE
  clear hE
  cases hne : decide (xs.length = ys.length)
  · have HV : Hid (E = false) := Lib.hid (by rw [HE.out]; exact decide_eq_false (fun e => by simp [e] at hne))
    obtain rfl := HV.out
    have hb : ((xs.length : Int) != (ys.length : Int)) = true := by simp at hne ⊢; omega
    clear HV HE
    go_enter Try.func24, Try.ntmps24
    go_wp2_with fail
    go_ret
    exact ⟨rfl, Below.refl _ _⟩
  · have hll : xs.length = ys.length := of_decide_eq_true hne
    have HLL := Lib.hid hll
    rw [← hll]
    clear hne hll
    go_enter Try.func24, Try.ntmps24
    go_wp2_with fail
    go_loopw [5] (fun t5 wr => ∃ (k : Nat), k ≤ xs.length ∧ t5 = .int .i64 k ∧ xs.take k = ys.take k ∧ Below w.heap.size w wr) (fun t5 _ => xs.length - (intOf t5).toNat)
    case atStart => exact ⟨0, Nat.zero_le _, rfl, rfl, Below.refl _ _⟩
    case round =>
      obtain ⟨k, hk, rfl, htk, hbw⟩ := hrel
      have HTK := Lib.hid htk
      have HBW := Lib.hid hbw
      have hzz := hbw.size
      clear htk hbw
      by_cases hlt : k < xs.length
      · obtain ⟨bA, oA, v, s, hA, hbA, hsk, hby, hcv⟩ := (HX.out.step HBW.out).at_ hlt
        obtain ⟨bD, oD, u, t, hD, hbD, htk, hbu, hcu⟩ := (HY.out.step HBW.out).at_ (i := k) (by have := HLL.out; omega)
        simp only at hA hD
        subst hA hD
        have hc1 := conv_by hby.drew
        have hc2 := conv_by hbu.drew
        have HD := Lib.hid (strOf_beq hby.2 hbu.2)
        have HSK := Lib.hid hsk
        have HTS := Lib.hid htk
        generalize strOfNums s = S at *
        generalize strOfNums t = T at *
        have hkl : decide ((k : Int) < (xs.length : Int)) = true := decide_eq_true (by omega)
        have hk2 : k < ys.length := by have := HLL.out; omega
        clear hby hbu hsk htk
        have hee : (S.toList != T.toList) = !(S.toList == T.toList) := rfl
        cases heq : S.toList == T.toList
        · have HV : Hid (E = false) := Lib.hid (by
            rw [HE.out]
            refine decide_eq_false (fun e => ?_)
            have h1 := HD.out
            rw [heq] at h1
            have h2 := of_decide_eq_false h1.symm
            have h3 := HSK.out
            rw [e, HTS.out] at h3
            cases h3
            exact h2 rfl)
          obtain rfl := HV.out
          rw [heq] at hee
          clear HV HE HD
          go_upto_region 6 with fail
          refine wp_region_tail 10 (by kernel_rfl) (by kernel_rfl) ?_
          simp only [List.take_succ_cons, List.take_zero, List.drop_succ_cons, List.drop_zero]
          repeat still_step
          refine wpStill_nil ?_
          go_wp2_with fail
          go_ret
          exact ⟨rfl, HBW.out.drew⟩
        · have HV : Hid (s = t) := Lib.hid (by
            have h1 := HD.out
            rw [heq] at h1
            exact of_decide_eq_true h1.symm)
          rw [heq] at hee
          clear HD
          have HT2 : Hid (xs.take (k + 1) = ys.take (k + 1)) := Lib.hid (by
            obtain ⟨h1, h2⟩ := List.getElem?_eq_some_iff.1 HSK.out
            obtain ⟨h3, h4⟩ := List.getElem?_eq_some_iff.1 HTS.out
            rw [List.take_succ_eq_append_getElem h1, List.take_succ_eq_append_getElem h3, h2, h4, HV.out, HTK.out])
          go_upto_region 6 with fail
          refine wp_region_tail 10 (by kernel_rfl) (by kernel_rfl) ?_
          simp only [List.take_succ_cons, List.take_zero, List.drop_succ_cons, List.drop_zero]
          repeat still_step
          refine wpStill_nil ?_
          go_wp2_with fail
          go_roundw
          case rel => exact ⟨k + 1, by omega, by go_num, HT2.out, HBW.out.drew⟩
          case measure => simp [intOf]; omega
      · obtain rfl : k = xs.length := by omega
        have HV : Hid (E = true) := Lib.hid (by rw [HE.out]; exact decide_eq_true (by have := HTK.out; rw [List.take_length] at this; rw [this, HLL.out, List.take_length]))
        obtain rfl := HV.out
        go_wp2_with fail
        go_ret
        exact ⟨rfl, HBW.out⟩

set_option maxRecDepth 100000 in
set_option maxHeartbeats 4000000 in
theorem EqualFunc_any {P Q : Nat → Prop} (xs ys : List (List Int)) (sv su : Sl) (w : World) (h : Se w P sv xs) (h2 : Se w Q su ys) :
    Calls Try.prog 42 #[.slice sv.a sv.n sv.c, .slice su.a su.n su.c, .func (.func 43) #[] #[]] w fun e w' => e = .returned (.bool (decide (xs = ys))) ∧ w = w' := by
  have hln := h.len
  have hle := h.le
  have hln2 := h2.len
  have hle2 := h2.le
  have HX := Lib.hid h
  have HY := Lib.hid h2
  obtain ⟨A, m, c⟩ := sv
  obtain ⟨D, m2, c2⟩ := su
  simp only at hln hln2 ⊢
  subst hln hln2
  clear h h2
  obtain ⟨E, hE⟩ : ∃ E, E = decide (xs = ys) := ⟨_, rfl⟩
  rw [← hE]
  have HE := Lib.hid hE
  clear hE
  cases hne : decide (xs.length = ys.length)
  · have HV : Hid (E = false) := Lib.hid (by rw [HE.out]; exact decide_eq_false (fun e => by simp [e] at hne))
    obtain rfl := HV.out
    have hb : ((xs.length : Int) != (ys.length : Int)) = true := by simp at hne ⊢; omega
    clear HV HE
    go_enter Try.func42, Try.ntmps42
    go_wp2_with fail
    go_ret
    exact ⟨rfl, rfl⟩
  · have hll : xs.length = ys.length := of_decide_eq_true hne
    have HLL := Lib.hid hll
    rw [← hll]
    clear hne hll
    go_enter Try.func42, Try.ntmps42
    go_wp2_with fail
    go_loopw [17] (fun t5 wr => ∃ (k : Nat), k ≤ xs.length ∧ t5 = .int .i64 k ∧ xs.take k = ys.take k ∧ w = wr) (fun t5 _ => xs.length - (intOf t5).toNat)
    case atStart => exact ⟨0, Nat.zero_le _, rfl, rfl, rfl⟩
    case round =>
      obtain ⟨k, hk, rfl, htk, rfl⟩ := hrel
      have HTK := Lib.hid htk
      clear htk
      by_cases hlt : k < xs.length
      · obtain ⟨bA, oA, v, s, hA, hbA, hsk, hby, hcv⟩ := HX.out.at_ hlt
        obtain ⟨bD, oD, u, t, hD, hbD, htk, hbu, hcu⟩ := HY.out.at_ (i := k) (by have := HLL.out; omega)
        simp only at hA hD
        subst hA hD
        have HEQ := Lib.hid (equal_any v u s t w hby hbu)
        have HSK := Lib.hid hsk
        have HTS := Lib.hid htk
        have hkl : decide ((k : Int) < (xs.length : Int)) = true := decide_eq_true (by omega)
        have hk2 : k < ys.length := by have := HLL.out; omega
        clear hby hbu hsk htk
        go_wp2_with fail
        refine HEQ.out.mono ?_
        rintro e w2 ⟨rfl, rfl⟩
        cases heq : decide (s = t)
        · have HV : Hid (E = false) := Lib.hid (by
            rw [HE.out]
            refine decide_eq_false (fun e => ?_)
            have h2 := of_decide_eq_false heq
            have h3 := HSK.out
            rw [e, HTS.out] at h3
            cases h3
            exact h2 rfl)
          obtain rfl := HV.out
          clear HV HE heq
          go_wp2_with fail
          go_ret
          exact ⟨rfl, rfl⟩
        · have HT2 : Hid (xs.take (k + 1) = ys.take (k + 1)) := Lib.hid (by
            obtain ⟨h1, h2⟩ := List.getElem?_eq_some_iff.1 HSK.out
            obtain ⟨h3, h4⟩ := List.getElem?_eq_some_iff.1 HTS.out
            rw [List.take_succ_eq_append_getElem h1, List.take_succ_eq_append_getElem h3, h2, h4, of_decide_eq_true heq, HTK.out])
          clear heq
          go_wp2_with fail
          go_roundw
          case rel => exact ⟨k + 1, by omega, by go_num, HT2.out, trivial⟩
          case measure => simp [intOf]; omega
      · obtain rfl : k = xs.length := by omega
        have HV : Hid (E = true) := Lib.hid (by rw [HE.out]; exact decide_eq_true (by have := HTK.out; rw [List.take_length] at this; rw [this, HLL.out, List.take_length]))
        obtain rfl := HV.out
        go_wp2_with fail
        go_ret
        exact ⟨rfl, rfl⟩
end Go.Proofs.Ytgbkhmoplocmkaa
