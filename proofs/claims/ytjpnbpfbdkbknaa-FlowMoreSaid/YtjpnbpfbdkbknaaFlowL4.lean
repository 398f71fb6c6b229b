/- FlowMore, walked. -/
import Derived.Test.YtjpnbpfbdkbknaaFlowL3
import Derived.Deep.RegionHeld3
import Derived.Deep.DeepCutAuto
namespace Go.Proofs.Ytjpnbpfbdkbknaa
open Go.RowKit Go.Shelf
set_option linter.unusedSimpArgs false
set_option linter.unusedVariables false


theorem okX_more {n a b : Int} {l : List Ed} {y : Ed} (h : okX n (l ++ [y]) a b = true) : okX n l a b = true ∧ okE n y = true := by
  unfold okX okN at h ⊢
  simp only [Bool.and_eq_true, decide_eq_true_eq, List.all_append, List.all_cons, List.all_nil, Bool.and_true, List.length_append, List.length_cons, List.length_nil] at h ⊢
  refine ⟨⟨⟨⟨⟨h.1.1.1.1, h.1.1.1.2⟩, by omega⟩, h.1.2.1⟩, h.2⟩, h.1.2.2⟩
set_option maxRecDepth 100000 in
set_option maxHeartbeats 8000000 in
theorem FlowMore_walk (n a b : Int) (hn64 : -9223372036854775808 ≤ n ∧ n ≤ 9223372036854775807) (l : List Ed) (A : Option Addr) (c : Nat) (y : Ed) (hyw : (-9223372036854775808 ≤ y.m ∧ y.m ≤ 9223372036854775807)) (w : World) (hx : Reads w w.heap.size A 3 Ed.enc l) (hlc : l.length ≤ c) (hc : c ≤ maxLen) (hnil : A = none → c = 0) :
    Calls Try.prog 10 #[.int .i64 n, .slice A l.length c, .int .i64 a, .int .i64 b, y.v] w fun e w' => e = .returned (.bool true) ∧ Below w.heap.size w w' := by
  have HX := Lib.hid hx
  have hl63 : l.length ≤ 9223372036854775807 := by unfold maxLen at hc; omega
  clear hx
  obtain ⟨i0, hinf, hz0, hz1, hz2⟩ := info_parts Try.infoEd
  have HI := Lib.hid hinf
  clear hinf
  unfold Ed.v
  go_enter Try.func10, Try.ntmps10
  go_wp2_with fail
  obtain ⟨W0, hW0⟩ : ∃ X, X = w.alloc (.cells #[.int .i64 y.f, .int .i64 y.t, .int .i64 y.m] 39) := ⟨_, rfl⟩
  obtain ⟨yb, hyb⟩ : ∃ q, q = w.heap.size := ⟨_, rfl⟩
  have b0 : Below w.heap.size w W0 := by rw [hW0]; exact (Below.refl _ _).alloc (Nat.le_refl _) _
  have y0 : CellAt W0 yb 0 (.int .i64 y.f) ∧ CellAt W0 yb 1 (.int .i64 y.t) ∧ CellAt W0 yb 2 (.int .i64 y.m) := by
    rw [hW0, hyb]
    exact ⟨⟨by simp [go_sem], by simp⟩, ⟨by simp [go_sem], by simp⟩, ⟨by simp [go_sem], by simp⟩⟩
  rw [← hyb, ← hW0]
  clear hW0 hyb
  have HY0 := Lib.hid (y0.1)
  have HY1 := Lib.hid (y0.2.1)
  have HY2 := Lib.hid (y0.2.2)
  have ba := Lib.hid b0
  have HX := Lib.hid ((HX.out.below b0).more b0.size)
  clear b0 y0
  refine (sane_any _).mono ?_
  rintro e w1 ⟨rfl, hb_w1⟩
  have S_w1 : Below W0.heap.size W0 w1 := (Below.refl _ W0).trans (hb_w1.mono (by (try simp) <;> omega))
  have HX := Lib.hid ((HX.out.below S_w1).more S_w1.size)
  have HY0 := Lib.hid (HY0.out.step S_w1)
  have HY1 := Lib.hid (HY1.out.step S_w1)
  have HY2 := Lib.hid (HY2.out.step S_w1)
  have ba := Lib.hid (ba.out.trans (S_w1.mono ba.out.size))
  have z_w1 := S_w1.size
  go_wp2_with fail
  refine (Few_any n l A c _).mono ?_
  rintro e w2 ⟨rfl, rfl⟩
  obtain ⟨bf, hbf⟩ : ∃ q, q = fewN n l := ⟨_, rfl⟩
  have hfw : bf = true → l.length ≤ 60 ∧ n ≤ 40 := fun h => by rw [h] at hbf; have := hbf.symm; simp [fewN] at this; omega
  rw [← hbf]
  clear hbf
  cases bf
  · clear hfw
    go_wp2_with fail
    go_ret
    exact ⟨rfl, ba.out⟩
  obtain ⟨hl60, hn40⟩ := hfw rfl
  clear hfw
  go_wp2_with fail
  refine (value_any n a b hn64 l A c _ HX.out hlc hc hnil).mono ?_
  rintro e w5 ⟨hv1, hb_w5⟩
  have S_w5 : Below w1.heap.size w1 w5 := (Below.refl _ w1).trans (hb_w5.mono (by (try simp) <;> omega))
  have HX := Lib.hid ((HX.out.below S_w5).more S_w5.size)
  have HY0 := Lib.hid (HY0.out.step S_w5)
  have HY1 := Lib.hid (HY1.out.step S_w5)
  have HY2 := Lib.hid (HY2.out.step S_w5)
  have ba := Lib.hid (ba.out.trans (S_w5.mono ba.out.size))
  have z_w5 := S_w5.size
  have hv1s : ∃ v ok, e = .returned (.tuple #[.int .i64 v, .bool ok]) ∧ ValOut n a b l (.returned (.tuple #[.int .i64 v, .bool ok])) := by
    rcases hv1 with ⟨h1, xs, cf, h2, rfl⟩ | ⟨h1, rfl⟩
    · exact ⟨_, _, rfl, .inl ⟨h1, xs, cf, h2, rfl⟩⟩
    · exact ⟨_, _, rfl, .inr ⟨h1, rfl⟩⟩
  obtain ⟨v, ok, rfl, hv2⟩ := hv1s
  have HV := Lib.hid hv2
  clear hv1 hv2
  go_upto_region 6 with fail
  have c0 := HY0.out.1
  have c1 := HY1.out.1
  have c2 := HY2.out.1
  have zy := HY0.out.2
  have c0d : w5.drew.cell? ⟨yb, 0, none⟩ = some (.int .i64 y.f) := c0
  have c1d : w5.drew.cell? ⟨yb, 1, none⟩ = some (.int .i64 y.t) := c1
  have c2d : w5.drew.cell? ⟨yb, 2, none⟩ = some (.int .i64 y.m) := c2
  have HN0 := Lib.hid (And.intro hlc (And.intro hc hnil))
  have CV : Hid (∀ (W : World) (Av : Option Addr) (cv : Nat), Owns W w5.heap.size 39 3 Ed.enc (.slice Av (l.length + 1) cv) (l ++ [y]) → Calls Try.prog 22 #[.int .i64 n, .slice Av (l.length + 1) cv, .int .i64 a, .int .i64 b] W fun e w' => ValOut n a b (l ++ [y]) e ∧ Below W.heap.size W w') := Lib.hid (fun W Av cv ho => by
    have hr := ho.reads edE_len
    have hlen : (l ++ [y]).length = l.length + 1 := by simp
    have hcv : l.length + 1 ≤ cv ∧ cv ≤ maxLen ∧ (Av = none → cv = 0) := by
      rcases ho.form with ⟨h1, h2⟩ | ⟨g, cap, h1, _, _, h2, h3⟩
      · simp at h2
      · simp only [Value.slice.injEq] at h1
        obtain ⟨rfl, _, rfl⟩ := h1
        rw [hlen] at h3
        exact ⟨h3, h2, fun h => by cases h⟩
    have h := value_any n a b hn64 (l ++ [y]) Av cv W hr (by rw [hlen]; exact hcv.1) hcv.2.1 hcv.2.2
    rw [hlen] at h
    exact h)
  have hmax : 100 ≤ maxLen := by decide
  go_cut [13, 14] (fun v' ok' wx => ValOut n a b (l ++ [y]) (.returned (.tuple #[v', ok'])) ∧ Below w5.heap.size w5 wx)
  case first =>
    refine wp_region_held_drew (S := (fun w' => w'.cell? ⟨yb, 0, none⟩ = some (.int .i64 y.f) ∧ w'.cell? ⟨yb, 1, none⟩ = some (.int .i64 y.t) ∧ w'.cell? ⟨yb, 2, none⟩ = some (.int .i64 y.m))) (by kernel_rfl) ⟨c0d, c1d, c2d⟩ (fun hHeld => ?_)
    refine wpAnyH_take (i := 0) (v := ?_) rfl (by kernel_rfl) (by kernel_rfl) (by kernel_rfl) (fun _ _ _ h => h) (Or.inl ⟨by rfl, ?_⟩) (by assumption) ?_
    rotate_left
    · intro w hSw
      (try dsimp only at hSw)
      go_simp
      try with_reducible rfl
    simp only [Act.put, List.setIfInBounds_toArray, List.set_cons_zero, List.set_cons_succ]
    refine wpAnyH_take (i := 2) (v := ?_) rfl (by kernel_rfl) (by kernel_rfl) (by kernel_rfl) (fun _ _ _ h => h) (Or.inl ⟨by rfl, ?_⟩) (by assumption) ?_
    rotate_left
    · intro w hSw
      (try dsimp only at hSw)
      go_simp
      try with_reducible rfl
    simp only [Act.put, List.setIfInBounds_toArray, List.set_cons_zero, List.set_cons_succ]
    refine wpAnyH_take (i := 4) (v := ?_) rfl (by kernel_rfl) (by kernel_rfl) (by kernel_rfl) (fun _ _ _ h => h) (Or.inl ⟨by rfl, ?_⟩) (by assumption) ?_
    rotate_left
    · intro w hSw
      (try dsimp only at hSw)
      go_simp
      try with_reducible rfl
    simp only [Act.put, List.setIfInBounds_toArray, List.set_cons_zero, List.set_cons_succ]
    refine wpAnyH_take (i := 7) (v := ?_) rfl (by kernel_rfl) (by kernel_rfl) (by kernel_rfl) (fun _ _ _ h => h) (Or.inl ⟨by rfl, ?_⟩) (by assumption) ?_
    rotate_left
    · intro w hSw
      (try dsimp only at hSw)
      go_simp
      try with_reducible rfl
    simp only [Act.put, List.setIfInBounds_toArray, List.set_cons_zero, List.set_cons_succ]
    refine wpAnyH_take (i := 8) (v := ?_) rfl (by kernel_rfl) (by kernel_rfl) (by kernel_rfl) (fun _ _ _ h => h) (Or.inl ⟨by rfl, ?_⟩) (by assumption) ?_
    rotate_left
    · intro w hSw
      (try dsimp only at hSw)
      go_simp
      try with_reducible rfl
    simp only [Act.put, List.setIfInBounds_toArray, List.set_cons_zero, List.set_cons_succ]
    refine wpAnyH_ready (rs := [1, 5]) (by kernel_rfl) (by simp) ?_
    refine AllReadyH.cons rfl (fun K hK => ?_) ?_
    · go_simp
      have OE : Owns (w5.drew.alloc (.cells #[] 39)) w5.heap.size 39 3 Ed.enc (.slice (some ⟨w5.heap.size, 0, none⟩) 0 0) [] := Owns.lit (w := w5.drew) (ys := ([] : List Ed)) edE_len rfl (Nat.le_refl _) (by simp)
      have hB1 : Below w5.heap.size w5 (w5.drew.alloc (.cells #[] 39)) := ((Below.refl _ w5).drew).alloc (Nat.le_refl _) _
      refine hK.out _ _ ⟨(hB1.cell (p := ⟨yb, 0, none⟩) zy).trans c0, (hB1.cell (p := ⟨yb, 1, none⟩) zy).trans c1, (hB1.cell (p := ⟨yb, 2, none⟩) zy).trans c2⟩ (fun hHeld => ?_)
      clear hK
      refine wpAnyH_ready (rs := [3, 5]) (by kernel_rfl) (by simp) ?_
      refine AllReadyH.cons rfl (fun K hK => ?_) ?_
      · refine step_append_reads (en := Ed.enc) (sz := 3) (by rfl) _ _ _ (by rfl) edE_len edE_one w5.heap.size 39 i0 _ 24 Try.underlying22 HI.out hz0 hz1 hz2 rfl (by decide) (.slice (some ⟨w5.heap.size, 0, none⟩) 0 0) [] (by rfl) OE w5.heap.size A c l (by rfl) (HX.out.below hB1) (fun h => HN0.out.2.2 h) (by simp; omega) (by simp; omega) hB1.size ?_
        intro v6 w6 k1 k2 k3
        rw [List.nil_append] at k1
        obtain ⟨A6, c6, rfl, _, _⟩ := k1.shape
        have hB6 : Below w5.heap.size w5 w6 := hB1.grown k2 hB1.size (fun q e => OE.base_le q e)
        refine hK.out _ _ ⟨(hB6.cell (p := ⟨yb, 0, none⟩) zy).trans c0, (hB6.cell (p := ⟨yb, 1, none⟩) zy).trans c1, (hB6.cell (p := ⟨yb, 2, none⟩) zy).trans c2⟩ (fun hHeld => ?_)
        clear hK
        refine wpAnyH_ready (rs := [5]) (by kernel_rfl) (by simp) ?_
        refine AllReadyH.cons rfl (fun K hK => ?_) ?_
        · go_simp
          have hB7 : Below w5.heap.size w5 (w6.alloc (.cells #[.int .i64 y.f, .int .i64 y.t, .int .i64 y.m] 39)) := hB6.alloc hB6.size _
          have RY : Reads (w6.alloc (.cells #[.int .i64 y.f, .int .i64 y.t, .int .i64 y.m] 39)) (w6.heap.size + 1) (some ⟨w6.heap.size, 0, none⟩) 3 Ed.enc [y] := reads_one w6 Ed.enc y _ _ rfl 3 _ rfl
          have OW := k1.alloc (.cells #[.int .i64 y.f, .int .i64 y.t, .int .i64 y.m] 39)
          refine hK.out _ _ ⟨(hB7.cell (p := ⟨yb, 0, none⟩) zy).trans c0, (hB7.cell (p := ⟨yb, 1, none⟩) zy).trans c1, (hB7.cell (p := ⟨yb, 2, none⟩) zy).trans c2⟩ (fun hHeld => ?_)
          clear hK
          refine wpAnyH_ready (rs := [6]) (by kernel_rfl) (by simp) ?_
          refine AllReadyH.cons rfl (fun K hK => ?_) ?_
          · refine step_append_reads (en := Ed.enc) (sz := 3) (by rfl) _ _ _ (by rfl) edE_len edE_one w5.heap.size 39 i0 _ 24 Try.underlying22 HI.out hz0 hz1 hz2 rfl (by decide) (.slice A6 l.length c6) l (by rfl) OW (w6.heap.size + 1) (some ⟨w6.heap.size, 0, none⟩) 1 [y] (by rfl) RY (fun h => by cases h) (by simp; omega) (by simp; omega) hB7.size ?_
            intro v7 w7 m1 m2 m3
            have hB9 : Below w5.heap.size w5 w7 := hB7.grown m2 hB7.size (fun q e => (OW).base_le q e)
            have hzk := Below.size hB9
            obtain ⟨Av, cv, rfl, _, _⟩ := m1.shape
            have hl1 : (l ++ [y]).length = l.length + 1 := by simp
            rw [hl1] at m1
            simp only [hl1] at hK ⊢
            refine hK.out _ _ ⟨(hB9.cell (p := ⟨yb, 0, none⟩) zy).trans c0, (hB9.cell (p := ⟨yb, 1, none⟩) zy).trans c1, (hB9.cell (p := ⟨yb, 2, none⟩) zy).trans c2⟩ (fun hHeld => ?_)
            clear hK
            refine wpAnyH_ready (rs := [9]) (by kernel_rfl) (by simp) ?_
            refine AllReadyH.cons rfl (fun K hK => ?_) ?_
            · go_simp
              refine (CV.out _ _ _ m1).mono ?_
              rintro e w8 ⟨hv3, hb8⟩
              have hB10 := hB9.trans (hb8.mono hB9.size)
              have hv3s : ∃ v3 ok3, e = .returned (.tuple #[.int .i64 v3, .bool ok3]) ∧ ValOut n a b (l ++ [y]) (.returned (.tuple #[.int .i64 v3, .bool ok3])) := by
                rcases hv3 with ⟨h1, xs, cf, h2, rfl⟩ | ⟨h1, rfl⟩
                · exact ⟨_, _, rfl, .inl ⟨h1, xs, cf, h2, rfl⟩⟩
                · exact ⟨_, _, rfl, .inr ⟨h1, rfl⟩⟩
              obtain ⟨v3, ok3, rfl, hv4⟩ := hv3s
              have HV4 := Lib.hid hv4
              clear hv3 hv4
              refine hK.out _ _ ⟨(hB10.cell (p := ⟨yb, 0, none⟩) zy).trans c0, (hB10.cell (p := ⟨yb, 1, none⟩) zy).trans c1, (hB10.cell (p := ⟨yb, 2, none⟩) zy).trans c2⟩ (fun hHeld => ?_)
              clear hK
              refine wpAnyH_take (i := 10) (v := ?_) rfl (by kernel_rfl) (by kernel_rfl) (by kernel_rfl) (fun _ _ _ h => h) (Or.inl ⟨by rfl, ?_⟩) (by assumption) ?_
              rotate_left
              · intro w hSw
                (try dsimp only at hSw)
                go_simp
                try with_reducible rfl
              simp only [Act.put, List.setIfInBounds_toArray, List.set_cons_zero, List.set_cons_succ]
              refine wpAnyH_take (i := 11) (v := ?_) rfl (by kernel_rfl) (by kernel_rfl) (by kernel_rfl) (fun _ _ _ h => h) (Or.inl ⟨by rfl, ?_⟩) (by assumption) ?_
              rotate_left
              · intro w hSw
                (try dsimp only at hSw)
                go_simp
                try with_reducible rfl
              simp only [Act.put, List.setIfInBounds_toArray, List.set_cons_zero, List.set_cons_succ]
              refine wpAnyH_take (i := 12) (v := ?_) rfl (by kernel_rfl) (by kernel_rfl) (by kernel_rfl) (fun _ _ _ h => h) (Or.inl ⟨by rfl, ?_⟩) (by assumption) ?_
              rotate_left
              · intro w hSw
                (try dsimp only at hSw)
                go_simp
                try with_reducible rfl
              simp only [Act.put, List.setIfInBounds_toArray, List.set_cons_zero, List.set_cons_succ]
              refine wpAnyH_ready (rs := [13]) (by kernel_rfl) (by simp) ?_
              refine AllReadyH.cons rfl (fun K hK => ?_) ?_
              · go_simp
                refine hK.out _ _ (by assumption) (fun hHeld => ?_)
                clear hK
                refine wpAnyH_ready (rs := [14]) (by kernel_rfl) (by simp) ?_
                refine AllReadyH.cons rfl (fun K hK => ?_) ?_
                · go_simp
                  refine hK.out _ _ (by assumption) (fun hHeld => ?_)
                  clear hK
                  refine wpAnyH_done (by kernel_rfl) ?_ _
                  go_wp2_with fail
                  go_meet
                  exact ⟨HV4.out, hB10⟩
                exact AllReadyH.nil
              exact AllReadyH.nil
            exact AllReadyH.nil
          exact AllReadyH.nil
        exact AllReadyH.nil
      refine AllReadyH.cons rfl (fun K hK => ?_) ?_
      · go_simp
        have hB2 : Below w5.heap.size w5 ((w5.drew.alloc (.cells #[] 39)).alloc (.cells #[.int .i64 y.f, .int .i64 y.t, .int .i64 y.m] 39)) := hB1.alloc hB1.size _
        have OE2 := OE.alloc (.cells #[.int .i64 y.f, .int .i64 y.t, .int .i64 y.m] 39)
        have RY0 : Reads ((w5.drew.alloc (.cells #[] 39)).alloc (.cells #[.int .i64 y.f, .int .i64 y.t, .int .i64 y.m] 39)) (w5.heap.size + 1 + 1) (some ⟨w5.heap.size + 1, 0, none⟩) 3 Ed.enc [y] := reads_one (w5.drew.alloc (.cells #[] 39)) Ed.enc y _ _ rfl 3 _ (by simp)
        refine hK.out _ _ ⟨(hB2.cell (p := ⟨yb, 0, none⟩) zy).trans c0, (hB2.cell (p := ⟨yb, 1, none⟩) zy).trans c1, (hB2.cell (p := ⟨yb, 2, none⟩) zy).trans c2⟩ (fun hHeld => ?_)
        clear hK
        refine wpAnyH_ready (rs := [3]) (by kernel_rfl) (by simp) ?_
        refine AllReadyH.cons rfl (fun K hK => ?_) ?_
        · refine step_append_reads (en := Ed.enc) (sz := 3) (by rfl) _ _ _ (by rfl) edE_len edE_one w5.heap.size 39 i0 _ 24 Try.underlying22 HI.out hz0 hz1 hz2 rfl (by decide) (.slice (some ⟨w5.heap.size, 0, none⟩) 0 0) [] (by rfl) OE2 w5.heap.size A c l (by rfl) (HX.out.below hB2) (fun h => HN0.out.2.2 h) (by simp; omega) (by simp; omega) hB2.size ?_
          intro v6 w6 k1 k2 k3
          rw [List.nil_append] at k1
          obtain ⟨A6, c6, rfl, _, _⟩ := k1.shape
          have hB6 : Below w5.heap.size w5 w6 := hB2.grown k2 hB2.size (fun q e => OE2.base_le q e)
          have RY : Reads w6 (w5.heap.size + 1 + 1) (some ⟨w5.heap.size + 1, 0, none⟩) 3 Ed.enc [y] := fun hn => by
            obtain ⟨b, off, e, hlt, hc⟩ := RY0 hn
            have e2 := e
            simp only [Option.some.injEq, Addr.mk.injEq] at e2
            exact ⟨b, off, e, hlt, fun i x j u hi hj => (World.cell?_of_block (a := ⟨b, _, none⟩) (k2.block b (by simp; omega) (fun e3 => by simp [Value.ownBlock] at e3; omega))).trans (hc i x j u hi hj)⟩
          refine hK.out _ _ ⟨(hB6.cell (p := ⟨yb, 0, none⟩) zy).trans c0, (hB6.cell (p := ⟨yb, 1, none⟩) zy).trans c1, (hB6.cell (p := ⟨yb, 2, none⟩) zy).trans c2⟩ (fun hHeld => ?_)
          clear hK
          refine wpAnyH_ready (rs := [6]) (by kernel_rfl) (by simp) ?_
          refine AllReadyH.cons rfl (fun K hK => ?_) ?_
          · refine step_append_reads (en := Ed.enc) (sz := 3) (by rfl) _ _ _ (by rfl) edE_len edE_one w5.heap.size 39 i0 _ 24 Try.underlying22 HI.out hz0 hz1 hz2 rfl (by decide) (.slice A6 l.length c6) l (by rfl) k1 (w5.heap.size + 1 + 1) (some ⟨w5.heap.size + 1, 0, none⟩) 1 [y] (by rfl) RY (fun h => by cases h) (by simp; omega) (by simp; omega) hB6.size ?_
            intro v7 w7 m1 m2 m3
            have hB9 : Below w5.heap.size w5 w7 := hB6.grown m2 hB6.size (fun q e => (k1).base_le q e)
            have hzk := Below.size hB9
            obtain ⟨Av, cv, rfl, _, _⟩ := m1.shape
            have hl1 : (l ++ [y]).length = l.length + 1 := by simp
            rw [hl1] at m1
            simp only [hl1] at hK ⊢
            refine hK.out _ _ ⟨(hB9.cell (p := ⟨yb, 0, none⟩) zy).trans c0, (hB9.cell (p := ⟨yb, 1, none⟩) zy).trans c1, (hB9.cell (p := ⟨yb, 2, none⟩) zy).trans c2⟩ (fun hHeld => ?_)
            clear hK
            refine wpAnyH_ready (rs := [9]) (by kernel_rfl) (by simp) ?_
            refine AllReadyH.cons rfl (fun K hK => ?_) ?_
            · go_simp
              refine (CV.out _ _ _ m1).mono ?_
              rintro e w8 ⟨hv3, hb8⟩
              have hB10 := hB9.trans (hb8.mono hB9.size)
              have hv3s : ∃ v3 ok3, e = .returned (.tuple #[.int .i64 v3, .bool ok3]) ∧ ValOut n a b (l ++ [y]) (.returned (.tuple #[.int .i64 v3, .bool ok3])) := by
                rcases hv3 with ⟨h1, xs, cf, h2, rfl⟩ | ⟨h1, rfl⟩
                · exact ⟨_, _, rfl, .inl ⟨h1, xs, cf, h2, rfl⟩⟩
                · exact ⟨_, _, rfl, .inr ⟨h1, rfl⟩⟩
              obtain ⟨v3, ok3, rfl, hv4⟩ := hv3s
              have HV4 := Lib.hid hv4
              clear hv3 hv4
              refine hK.out _ _ ⟨(hB10.cell (p := ⟨yb, 0, none⟩) zy).trans c0, (hB10.cell (p := ⟨yb, 1, none⟩) zy).trans c1, (hB10.cell (p := ⟨yb, 2, none⟩) zy).trans c2⟩ (fun hHeld => ?_)
              clear hK
              refine wpAnyH_take (i := 10) (v := ?_) rfl (by kernel_rfl) (by kernel_rfl) (by kernel_rfl) (fun _ _ _ h => h) (Or.inl ⟨by rfl, ?_⟩) (by assumption) ?_
              rotate_left
              · intro w hSw
                (try dsimp only at hSw)
                go_simp
                try with_reducible rfl
              simp only [Act.put, List.setIfInBounds_toArray, List.set_cons_zero, List.set_cons_succ]
              refine wpAnyH_take (i := 11) (v := ?_) rfl (by kernel_rfl) (by kernel_rfl) (by kernel_rfl) (fun _ _ _ h => h) (Or.inl ⟨by rfl, ?_⟩) (by assumption) ?_
              rotate_left
              · intro w hSw
                (try dsimp only at hSw)
                go_simp
                try with_reducible rfl
              simp only [Act.put, List.setIfInBounds_toArray, List.set_cons_zero, List.set_cons_succ]
              refine wpAnyH_take (i := 12) (v := ?_) rfl (by kernel_rfl) (by kernel_rfl) (by kernel_rfl) (fun _ _ _ h => h) (Or.inl ⟨by rfl, ?_⟩) (by assumption) ?_
              rotate_left
              · intro w hSw
                (try dsimp only at hSw)
                go_simp
                try with_reducible rfl
              simp only [Act.put, List.setIfInBounds_toArray, List.set_cons_zero, List.set_cons_succ]
              refine wpAnyH_ready (rs := [13]) (by kernel_rfl) (by simp) ?_
              refine AllReadyH.cons rfl (fun K hK => ?_) ?_
              · go_simp
                refine hK.out _ _ (by assumption) (fun hHeld => ?_)
                clear hK
                refine wpAnyH_ready (rs := [14]) (by kernel_rfl) (by simp) ?_
                refine AllReadyH.cons rfl (fun K hK => ?_) ?_
                · go_simp
                  refine hK.out _ _ (by assumption) (fun hHeld => ?_)
                  clear hK
                  refine wpAnyH_done (by kernel_rfl) ?_ _
                  go_wp2_with fail
                  go_meet
                  exact ⟨HV4.out, hB10⟩
                exact AllReadyH.nil
              exact AllReadyH.nil
            exact AllReadyH.nil
          exact AllReadyH.nil
        exact AllReadyH.nil
      exact AllReadyH.nil
    refine AllReadyH.cons rfl (fun K hK => ?_) ?_
    · go_simp
      have hB1 : Below w5.heap.size w5 (w5.drew.alloc (.cells #[.int .i64 y.f, .int .i64 y.t, .int .i64 y.m] 39)) := ((Below.refl _ w5).drew).alloc (Nat.le_refl _) _
      have RY0 : Reads (w5.drew.alloc (.cells #[.int .i64 y.f, .int .i64 y.t, .int .i64 y.m] 39)) (w5.heap.size + 1) (some ⟨w5.heap.size, 0, none⟩) 3 Ed.enc [y] := reads_one w5.drew Ed.enc y _ _ rfl 3 _ rfl
      refine hK.out _ _ ⟨(hB1.cell (p := ⟨yb, 0, none⟩) zy).trans c0, (hB1.cell (p := ⟨yb, 1, none⟩) zy).trans c1, (hB1.cell (p := ⟨yb, 2, none⟩) zy).trans c2⟩ (fun hHeld => ?_)
      clear hK
      refine wpAnyH_ready (rs := [1]) (by kernel_rfl) (by simp) ?_
      refine AllReadyH.cons rfl (fun K hK => ?_) ?_
      · go_simp
        have hB2 : Below w5.heap.size w5 ((w5.drew.alloc (.cells #[.int .i64 y.f, .int .i64 y.t, .int .i64 y.m] 39)).alloc (.cells #[] 39)) := hB1.alloc hB1.size _
        have OE2 : Owns ((w5.drew.alloc (.cells #[.int .i64 y.f, .int .i64 y.t, .int .i64 y.m] 39)).alloc (.cells #[] 39)) w5.heap.size 39 3 Ed.enc (.slice (some ⟨w5.heap.size + 1, 0, none⟩) 0 0) [] := by
          have h := Owns.lit (w := w5.drew.alloc (.cells #[.int .i64 y.f, .int .i64 y.t, .int .i64 y.m] 39)) (base := w5.heap.size) (e := 39) (ys := ([] : List Ed)) (cs := #[]) edE_len rfl (by simp) (by simp)
          rw [World.size_alloc] at h
          exact h
        refine hK.out _ _ ⟨(hB2.cell (p := ⟨yb, 0, none⟩) zy).trans c0, (hB2.cell (p := ⟨yb, 1, none⟩) zy).trans c1, (hB2.cell (p := ⟨yb, 2, none⟩) zy).trans c2⟩ (fun hHeld => ?_)
        clear hK
        refine wpAnyH_ready (rs := [3]) (by kernel_rfl) (by simp) ?_
        refine AllReadyH.cons rfl (fun K hK => ?_) ?_
        · refine step_append_reads (en := Ed.enc) (sz := 3) (by rfl) _ _ _ (by rfl) edE_len edE_one w5.heap.size 39 i0 _ 24 Try.underlying22 HI.out hz0 hz1 hz2 rfl (by decide) (.slice (some ⟨w5.heap.size + 1, 0, none⟩) 0 0) [] (by rfl) OE2 w5.heap.size A c l (by rfl) (HX.out.below hB2) (fun h => HN0.out.2.2 h) (by simp; omega) (by simp; omega) hB2.size ?_
          intro v6 w6 k1 k2 k3
          rw [List.nil_append] at k1
          obtain ⟨A6, c6, rfl, _, _⟩ := k1.shape
          have hB6 : Below w5.heap.size w5 w6 := hB2.grown k2 hB2.size (fun q e => OE2.base_le q e)
          have RY : Reads w6 (w5.heap.size + 1) (some ⟨w5.heap.size, 0, none⟩) 3 Ed.enc [y] := fun hn => by
            obtain ⟨b, off, e, hlt, hc⟩ := RY0.alloc (by simp) (.cells #[] 39) hn
            have e2 := e
            simp only [Option.some.injEq, Addr.mk.injEq] at e2
            exact ⟨b, off, e, hlt, fun i x j u hi hj => (World.cell?_of_block (a := ⟨b, _, none⟩) (k2.block b (by simp; omega) (fun e3 => by simp [Value.ownBlock] at e3; omega))).trans (hc i x j u hi hj)⟩
          refine hK.out _ _ ⟨(hB6.cell (p := ⟨yb, 0, none⟩) zy).trans c0, (hB6.cell (p := ⟨yb, 1, none⟩) zy).trans c1, (hB6.cell (p := ⟨yb, 2, none⟩) zy).trans c2⟩ (fun hHeld => ?_)
          clear hK
          refine wpAnyH_ready (rs := [6]) (by kernel_rfl) (by simp) ?_
          refine AllReadyH.cons rfl (fun K hK => ?_) ?_
          · refine step_append_reads (en := Ed.enc) (sz := 3) (by rfl) _ _ _ (by rfl) edE_len edE_one w5.heap.size 39 i0 _ 24 Try.underlying22 HI.out hz0 hz1 hz2 rfl (by decide) (.slice A6 l.length c6) l (by rfl) k1 (w5.heap.size + 1) (some ⟨w5.heap.size, 0, none⟩) 1 [y] (by rfl) RY (fun h => by cases h) (by simp; omega) (by simp; omega) hB6.size ?_
            intro v7 w7 m1 m2 m3
            have hB9 : Below w5.heap.size w5 w7 := hB6.grown m2 hB6.size (fun q e => (k1).base_le q e)
            have hzk := Below.size hB9
            obtain ⟨Av, cv, rfl, _, _⟩ := m1.shape
            have hl1 : (l ++ [y]).length = l.length + 1 := by simp
            rw [hl1] at m1
            simp only [hl1] at hK ⊢
            refine hK.out _ _ ⟨(hB9.cell (p := ⟨yb, 0, none⟩) zy).trans c0, (hB9.cell (p := ⟨yb, 1, none⟩) zy).trans c1, (hB9.cell (p := ⟨yb, 2, none⟩) zy).trans c2⟩ (fun hHeld => ?_)
            clear hK
            refine wpAnyH_ready (rs := [9]) (by kernel_rfl) (by simp) ?_
            refine AllReadyH.cons rfl (fun K hK => ?_) ?_
            · go_simp
              refine (CV.out _ _ _ m1).mono ?_
              rintro e w8 ⟨hv3, hb8⟩
              have hB10 := hB9.trans (hb8.mono hB9.size)
              have hv3s : ∃ v3 ok3, e = .returned (.tuple #[.int .i64 v3, .bool ok3]) ∧ ValOut n a b (l ++ [y]) (.returned (.tuple #[.int .i64 v3, .bool ok3])) := by
                rcases hv3 with ⟨h1, xs, cf, h2, rfl⟩ | ⟨h1, rfl⟩
                · exact ⟨_, _, rfl, .inl ⟨h1, xs, cf, h2, rfl⟩⟩
                · exact ⟨_, _, rfl, .inr ⟨h1, rfl⟩⟩
              obtain ⟨v3, ok3, rfl, hv4⟩ := hv3s
              have HV4 := Lib.hid hv4
              clear hv3 hv4
              refine hK.out _ _ ⟨(hB10.cell (p := ⟨yb, 0, none⟩) zy).trans c0, (hB10.cell (p := ⟨yb, 1, none⟩) zy).trans c1, (hB10.cell (p := ⟨yb, 2, none⟩) zy).trans c2⟩ (fun hHeld => ?_)
              clear hK
              refine wpAnyH_take (i := 10) (v := ?_) rfl (by kernel_rfl) (by kernel_rfl) (by kernel_rfl) (fun _ _ _ h => h) (Or.inl ⟨by rfl, ?_⟩) (by assumption) ?_
              rotate_left
              · intro w hSw
                (try dsimp only at hSw)
                go_simp
                try with_reducible rfl
              simp only [Act.put, List.setIfInBounds_toArray, List.set_cons_zero, List.set_cons_succ]
              refine wpAnyH_take (i := 11) (v := ?_) rfl (by kernel_rfl) (by kernel_rfl) (by kernel_rfl) (fun _ _ _ h => h) (Or.inl ⟨by rfl, ?_⟩) (by assumption) ?_
              rotate_left
              · intro w hSw
                (try dsimp only at hSw)
                go_simp
                try with_reducible rfl
              simp only [Act.put, List.setIfInBounds_toArray, List.set_cons_zero, List.set_cons_succ]
              refine wpAnyH_take (i := 12) (v := ?_) rfl (by kernel_rfl) (by kernel_rfl) (by kernel_rfl) (fun _ _ _ h => h) (Or.inl ⟨by rfl, ?_⟩) (by assumption) ?_
              rotate_left
              · intro w hSw
                (try dsimp only at hSw)
                go_simp
                try with_reducible rfl
              simp only [Act.put, List.setIfInBounds_toArray, List.set_cons_zero, List.set_cons_succ]
              refine wpAnyH_ready (rs := [13]) (by kernel_rfl) (by simp) ?_
              refine AllReadyH.cons rfl (fun K hK => ?_) ?_
              · go_simp
                refine hK.out _ _ (by assumption) (fun hHeld => ?_)
                clear hK
                refine wpAnyH_ready (rs := [14]) (by kernel_rfl) (by simp) ?_
                refine AllReadyH.cons rfl (fun K hK => ?_) ?_
                · go_simp
                  refine hK.out _ _ (by assumption) (fun hHeld => ?_)
                  clear hK
                  refine wpAnyH_done (by kernel_rfl) ?_ _
                  go_wp2_with fail
                  go_meet
                  exact ⟨HV4.out, hB10⟩
                exact AllReadyH.nil
              exact AllReadyH.nil
            exact AllReadyH.nil
          exact AllReadyH.nil
        exact AllReadyH.nil
      exact AllReadyH.nil
    exact AllReadyH.nil
  case rest =>
    obtain ⟨hv6, hb6⟩ := hcut
    have hz6 := hb6.size
    have k2 : wc.cell? ⟨yb, 2, none⟩ = some (.int .i64 y.m) := (hb6.cell (p := ⟨yb, 2, none⟩) zy).trans c2
    have zy2 : yb < wc.heap.size := by omega
    have HBB := Lib.hid (ba.out.trans (hb6.mono ba.out.size))
    clear hb6 c0 c1 c2 c0d c1d c2d
    rcases hv6 with ⟨ho2, ys, df, hm2, he2⟩ | ⟨ho2, he2⟩
    · injection he2 with he2
      injection he2 with he2
      simp only [Array.mk.injEq, List.cons.injEq, and_true] at he2
      obtain ⟨rfl, rfl⟩ := he2
      obtain ⟨ho1, hy1⟩ := okX_more ho2
      rcases HV.out with ⟨_, xs, cf, hm1, he1⟩ | ⟨h1, _⟩
      rotate_left
      · rw [ho1] at h1
        cases h1
      injection he1 with he1
      injection he1 with he1
      simp only [Array.mk.injEq, List.cons.injEq, and_true, Value.int.injEq, Value.bool.injEq, true_and] at he1
      obtain ⟨rfl, rfl⟩ := he1
      obtain ⟨hn2, hn3, hl3, hE, ha0, ha1, hb0, hb1, hab⟩ := okX_out ho1
      have hye := okE_out hy1
      have hmore := hm1.more hye.2.2.2.2.2.1 (okX_inn ho2) ha0 (by omega) hm2
      have hvb := out_le a l xs hm1.1.1
      have hsb := (sumM_le l hE).2
      obtain ⟨V, hV⟩ : ∃ V, V = outE l xs a := ⟨_, rfl⟩
      obtain ⟨X, hX⟩ : ∃ X, X = outE (l ++ [y]) ys a := ⟨_, rfl⟩
      rw [← hV, ← hX] at hmore
      rw [← hV] at hvb
      rw [← hV, ← hX]
      have hwv : IntKind.i64.wrap (V + y.m) = V + y.m := IntWalk.i64_in _ (by omega)
      have g1 : decide (V ≤ X) = true := by simpa using hmore.1
      have g2 : decide (X ≤ V + y.m) = true := by simpa using hmore.2
      clear hmore hvb hsb hV hX hm1 hm2 hE hye ho1 ho2 hy1 hn2 hn3 hl3 ha0 ha1 hb0 hb1 hab
      go_wp2_with fail
      go_ret
      exact ⟨rfl, HBB.out⟩
    · injection he2 with he2
      injection he2 with he2
      simp only [Array.mk.injEq, List.cons.injEq, and_true] at he2
      obtain ⟨rfl, rfl⟩ := he2
      clear ho2
      cases ok
      · go_wp2_with fail
        go_ret
        exact ⟨rfl, HBB.out⟩
      · go_wp2_with fail
        go_ret
        exact ⟨rfl, HBB.out⟩

theorem FlowReverse_any {w : World} (n : Int) (hn : (Lit.int .i64 n).wf = true) (l : List Ed) (A : Option Addr) (c : Nat) (hx : Reads w w.heap.size A 3 Ed.enc l) (hq : ∀ y ∈ l, y.ok) (hlc : l.length ≤ c) (hc : c ≤ maxLen) (hnil : A = none → c = 0) (a : Int) (ha : (Lit.int .i64 a).wf = true) (b : Int) (hb : (Lit.int .i64 b).wf = true) :
    Calls Try.prog 9 #[.int .i64 n, .slice A l.length c, .int .i64 a, .int .i64 b] w fun e w' => e = .returned (.bool true) ∧ Below w.heap.size w w' :=
  FlowReverse_walk n a b (by have := Go.bounds_i64 hn; omega) l A c w hx hlc hc hnil
theorem FlowScale_any {w : World} (n : Int) (hn : (Lit.int .i64 n).wf = true) (l : List Ed) (A : Option Addr) (c : Nat) (hx : Reads w w.heap.size A 3 Ed.enc l) (hq : ∀ y ∈ l, y.ok) (hlc : l.length ≤ c) (hc : c ≤ maxLen) (hnil : A = none → c = 0) (a : Int) (ha : (Lit.int .i64 a).wf = true) (b : Int) (hb : (Lit.int .i64 b).wf = true) (z : Int) (hz : (Lit.int .i64 z).wf = true) :
    Calls Try.prog 8 #[.int .i64 n, .slice A l.length c, .int .i64 a, .int .i64 b, .int .i64 z] w fun e w' => e = .returned (.bool true) ∧ Below w.heap.size w w' :=
  FlowScale_walk n a b (by have := Go.bounds_i64 hn; omega) l A c z w hx hlc hc hnil
theorem FlowMore_any {w : World} (n : Int) (hn : (Lit.int .i64 n).wf = true) (l : List Ed) (A : Option Addr) (c : Nat) (hx : Reads w w.heap.size A 3 Ed.enc l) (hq : ∀ y ∈ l, y.ok) (hlc : l.length ≤ c) (hc : c ≤ maxLen) (hnil : A = none → c = 0) (a : Int) (ha : (Lit.int .i64 a).wf = true) (b : Int) (hb : (Lit.int .i64 b).wf = true) (y : Ed) (hy : y.ok) :
    Calls Try.prog 10 #[.int .i64 n, .slice A l.length c, .int .i64 a, .int .i64 b, y.v] w fun e w' => e = .returned (.bool true) ∧ Below w.heap.size w w' :=
  FlowMore_walk n a b (by have := Go.bounds_i64 hn; omega) l A c y (by have := Go.bounds_i64 hy.2.2; omega) w hx hlc hc hnil
end Go.Proofs.Ytjpnbpfbdkbknaa
