/- TopDegree, what its proof leans on: the texts TopQ, TopY. -/
import Derived.Test.YtalmbigebjbaoaaGreatDoorM34
import Derived.Deep.RegionHeldLaw
import Derived.Deep.CutRange
namespace Go.Proofs.YtalmbigebjbaoaaGreatDoor
open Go.RowKit Go.Shelf
set_option linter.unusedSimpArgs false
set_option linter.unusedVariables false
attribute [local go_sem] Oper.semAt_some
theorem Lk.far {n₀ b B : Nat} {d : Wd} {known : Int} {m : Nat} {v : Value} {W W' : World} (h : Lk n₀ b B d known m v W) (hs : W.heap.size ≤ W'.heap.size) (hk : ∀ k, k < W.heap.size → (k < n₀ ∨ k = b ∨ v.ownBlock = some k) → W'.heap[k]? = W.heap[k]?) : Lk n₀ b B d known m v W' := by
 obtain ⟨h1, ⟨rs, h2, h3⟩, h4, h5, h6, h7, h8⟩ := h
 have hz : b < W.heap.size := h1.2.2
 refine ⟨h1.keep (P := fun y => y = b) ⟨hs, fun k e hl => hk k hl (.inr (.inl e))⟩ rfl, ⟨rs, h2.same (fun k e => hk k (h2.lt k e) (.inr (.inr e))), h3⟩, h4.keep ⟨hs, fun k e hl => hk k hl (.inl e)⟩, fun i j u e => ?_, h6, h7, h8⟩
 exact (World.cell?_of_block (a := ⟨0, _, none⟩) (hk 0 (by omega) (.inl h6))).trans (h5 i j u e)
theorem step_store_row {P : Program} {w : World} {ops : Array Oper} {o : Oper} {a : Act} {K : Act → World → Prop} {Q : Exit → Act → World → Prop} {E : Prop} (hgd : o.guard = none) (ty : TypeId) (x y : Operand) (ho : o.op = .store ty x y)
 (b : Nat) (hx : a.eval x = .pointer (some ⟨b, 0, none⟩)) {t : TypeId} {cs old : Array Value} (hy : a.eval y = .agg cs) (hg : w.heap[b]? = some (.cells old t (0, 0))) (hi : (P.info? ty).map (·.size) = some cs.size) (hs : old.size = cs.size)
 (h1 : cs.all (·.oneCell') = true) (h : K (a.put o.dst undef) (w.setRow b cs)) : if Region.wanted o (yielded ops a.tmps) = true then Oper.wp P o a w K Q else E := by
 have hw : Region.wanted o (yielded ops a.tmps) = true := by simp [Region.wanted, hgd]
 rw [if_pos hw]
 unfold Oper.wp execOp
 simp only [ho, hx, hy, run_storeAt_row hg hi hs h1, Sem.run_bind, Sem.run_pure, Result.andThen_ok]
 exact h
set_option maxRecDepth 100000 in
set_option maxHeartbeats 4000000 in
theorem lkCourse_any {n₀ b B : Nat} {d : Wd} {known : Int} {m : Nat} {v : Value} (number term : Int) (W : World) (hk : Lk n₀ b B d known m v W) (hf : d.fs.length ≤ 100000) (hfw : ∀ x ∈ d.cs, Cr.Few x) (hm : m + 1 ≤ 1099511627776) (hB : B ≤ W.heap.size) :
 Calls Tryz.prog 63 #[.pointer (some ⟨b, 0, none⟩), .int .i64 number, .int .i64 term] W fun e w' =>
  e = .returned (.agg (crC (courF d number term known)).toArray) ∧ ∃ v' : Value, Lk n₀ b B d known (m + 1) v' w' ∧ LkF b v v' W w' := by
 have HK := Lib.hid hk
 have HC := Lib.hid (fun (W' : World) (m' : Nat) (v' : Value) (h : Lk n₀ b B d known m' v' W') => bkCourse_any d number term known W' h.ok hf h.kd hfw)
 have hzb : b < W.heap.size := hk.bx.2.2
 obtain ⟨ec, hec⟩ : ∃ ec : Array Value, ec = (crC (courF d number term known)).toArray := ⟨_, rfl⟩
 obtain ⟨ok, hok⟩ : ∃ ok, ok = (courF d number term known).isSome := ⟨_, rfl⟩
 have HXI : Hid ((Tryz.prog.info? 123).map (·.size) = some ec.size) := Lib.hid (by rw [hec]; exact infoCr_ _)
 have HX1 : Hid (ec.all (·.oneCell') = true) := Lib.hid (by rw [hec]; exact crC_one _)
 have HXS : Hid (ec.size = 16) := Lib.hid (by rw [hec]; simp [crC_len])
 rw [← hec, ← hok] at HC
 rw [← hec]
 simp only [Wd.v] at HC
 obtain ⟨W1, hW1⟩ : ∃ W1, W1 = W.alloc (.cells #[.string ⟨#[]⟩, .int .i64 0, .int .i64 0, .int .i64 0, .int .i64 0, .int .i64 0, .string ⟨#[]⟩, .int .i64 0, .int .i64 0, .slice none 0 0, .int .i64 0, .int .i64 0, .string ⟨#[]⟩, .int .i64 0, .int .i64 0, .slice none 0 0] 123) := ⟨_, rfl⟩
 have hb1 : Below W.heap.size W W1 := by rw [hW1]; exact (Below.refl _ _).alloc (Nat.le_refl _) _
 have HZ1 : Hid (W1.heap[W.heap.size]? = some (.cells #[.string ⟨#[]⟩, .int .i64 0, .int .i64 0, .int .i64 0, .int .i64 0, .int .i64 0, .string ⟨#[]⟩, .int .i64 0, .int .i64 0, .slice none 0 0, .int .i64 0, .int .i64 0, .string ⟨#[]⟩, .int .i64 0, .int .i64 0, .slice none 0 0] 123 (0, 0))) := Lib.hid (by rw [hW1]; exact World.alloc_heap_new _ _)
 have hz1 : W1.heap.size = W.heap.size + 1 := by rw [hW1]; simp
 have hk1 := hk.step hb1
 have HK1 := Lib.hid hk1
 have HB1 := Lib.hid hb1
 have HZS := Lib.hid hz1
 clear hz1
 obtain ⟨x0, x1, x2⟩ := hk1.bx
 have SS : Hid (∀ W', Below W1.heap.size W1 W' → (fun W6 => W6.cell? ⟨b, 1, none⟩ = some (.slice d.c.a d.c.n d.c.c) ∧ W6.cell? ⟨b, 2, none⟩ = some (.slice d.p.a d.p.n d.p.c) ∧ W6.cell? ⟨b, 3, none⟩ = some (.slice d.y.a d.y.n d.y.c) ∧ W6.cell? ⟨b, 4, none⟩ = some (.slice d.f.a d.f.n d.f.c) ∧ W6.cell? ⟨b, 5, none⟩ = some (.int .i64 known)) W') := Lib.hid (fun W' hb =>
  ⟨(hb.cell (p := ⟨b, 1, none⟩) x2).trans (x0 1 _ rfl), (hb.cell (p := ⟨b, 2, none⟩) x2).trans (x0 2 _ rfl), (hb.cell (p := ⟨b, 3, none⟩) x2).trans (x0 3 _ rfl), (hb.cell (p := ⟨b, 4, none⟩) x2).trans (x0 4 _ rfl), (hb.cell (p := ⟨b, 5, none⟩) x2).trans (x0 5 _ rfl)⟩)
 clear hec hok hk hk1 x0 x1
 go_enter Tryz.func63, Tryz.ntmps63
 go_upto_region 1 with fail
 rw [← hW1]
 clear hW1
 go_cut [7, 8] from 9 to 24 (fun t7 t8 wx => ∃ (s : Sl) (rb : Nat), t7 = .pointer (some ⟨rb, 0, none⟩) ∧ t8 = .slice s.a s.n s.c ∧ wx.heap[rb]? = some (.cells ec 123 (0, 0)) ∧ W1.heap.size ≤ rb ∧ RdS wx W1.heap.size 1 s ∧ Below W1.heap.size W1 wx)
 case first =>
  refine wp_region_held_drew (S := (fun W6 => W6.cell? ⟨b, 1, none⟩ = some (.slice d.c.a d.c.n d.c.c) ∧ W6.cell? ⟨b, 2, none⟩ = some (.slice d.p.a d.p.n d.p.c) ∧ W6.cell? ⟨b, 3, none⟩ = some (.slice d.y.a d.y.n d.y.c) ∧ W6.cell? ⟨b, 4, none⟩ = some (.slice d.f.a d.f.n d.f.c) ∧ W6.cell? ⟨b, 5, none⟩ = some (.int .i64 known))) (by kernel_rfl) (SS.out _ (Below.refl _ _).drew) (fun hHeld => ?_)
  refine wpAnyH_take (i := 0) (v := ?_) rfl (by kernel_rfl) (by kernel_rfl) (by kernel_rfl) (fun _ _ _ h => h) (Or.inl ⟨by rfl, ?_⟩) (by assumption) ?_
  rotate_left
  ·intro w hSw
   (try dsimp only at hSw)
   go_simp
   try with_reducible rfl
  simp only [Act.put, List.setIfInBounds_toArray, List.set_cons_zero, List.set_cons_succ]
  refine wpAnyH_take (i := 1) (v := ?_) rfl (by kernel_rfl) (by kernel_rfl) (by kernel_rfl) (fun _ _ _ h => h) (Or.inl ⟨by rfl, ?_⟩) (by assumption) ?_
  rotate_left
  ·intro w hSw
   (try dsimp only at hSw)
   go_simp
   try with_reducible rfl
  simp only [Act.put, List.setIfInBounds_toArray, List.set_cons_zero, List.set_cons_succ]
  refine wpAnyH_take (i := 2) (v := ?_) rfl (by kernel_rfl) (by kernel_rfl) (by kernel_rfl) (fun _ _ _ h => h) (Or.inl ⟨by rfl, ?_⟩) (by assumption) ?_
  rotate_left
  ·intro w hSw
   (try dsimp only at hSw)
   go_simp
   try with_reducible rfl
  simp only [Act.put, List.setIfInBounds_toArray, List.set_cons_zero, List.set_cons_succ]
  refine wpAnyH_take (i := 3) (v := ?_) rfl (by kernel_rfl) (by kernel_rfl) (by kernel_rfl) (fun _ _ _ h => h) (Or.inl ⟨by rfl, ?_⟩) (by assumption) ?_
  rotate_left
  ·intro w hSw
   (try dsimp only at hSw)
   go_simp
   try with_reducible rfl
  simp only [Act.put, List.setIfInBounds_toArray, List.set_cons_zero, List.set_cons_succ]
  refine wpAnyH_take (i := 4) (v := ?_) rfl (by kernel_rfl) (by kernel_rfl) (by kernel_rfl) (fun _ _ _ h => h) (Or.inl ⟨by rfl, ?_⟩) (by assumption) ?_
  rotate_left
  ·intro w hSw
   (try dsimp only at hSw)
   go_simp
   try with_reducible rfl
  simp only [Act.put, List.setIfInBounds_toArray, List.set_cons_zero, List.set_cons_succ]
  refine wpAnyH_take (i := 5) (v := ?_) rfl (by kernel_rfl) (by kernel_rfl) (by kernel_rfl) (fun _ _ _ h => h) (Or.inl ⟨by rfl, ?_⟩) (by assumption) ?_
  rotate_left
  ·intro w hSw
   (try dsimp only at hSw)
   go_simp
   try with_reducible rfl
  simp only [Act.put, List.setIfInBounds_toArray, List.set_cons_zero, List.set_cons_succ]
  refine wpAnyH_take (i := 6) (v := ?_) rfl (by kernel_rfl) (by kernel_rfl) (by kernel_rfl) (fun _ _ _ h => h) (Or.inl ⟨by rfl, ?_⟩) (by assumption) ?_
  rotate_left
  ·intro w hSw
   (try dsimp only at hSw)
   go_simp
   try with_reducible rfl
  simp only [Act.put, List.setIfInBounds_toArray, List.set_cons_zero, List.set_cons_succ]
  refine wpAnyH_take (i := 7) (v := ?_) rfl (by kernel_rfl) (by kernel_rfl) (by kernel_rfl) (fun _ _ _ h => h) (Or.inl ⟨by rfl, ?_⟩) (by assumption) ?_
  rotate_left
  ·intro w hSw
   (try dsimp only at hSw)
   go_simp
   try with_reducible rfl
  simp only [Act.put, List.setIfInBounds_toArray, List.set_cons_zero, List.set_cons_succ]
  refine wpAnyH_take (i := 8) (v := ?_) rfl (by kernel_rfl) (by kernel_rfl) (by kernel_rfl) (fun _ _ _ h => h) (Or.inl ⟨by rfl, ?_⟩) (by assumption) ?_
  rotate_left
  ·intro w hSw
   (try dsimp only at hSw)
   go_simp
   try with_reducible rfl
  simp only [Act.put, List.setIfInBounds_toArray, List.set_cons_zero, List.set_cons_succ]
  refine wpAnyH_take (i := 9) (v := ?_) rfl (by kernel_rfl) (by kernel_rfl) (by kernel_rfl) (fun _ _ _ h => h) (Or.inl ⟨by rfl, ?_⟩) (by assumption) ?_
  rotate_left
  ·intro w hSw
   (try dsimp only at hSw)
   go_simp
   try with_reducible rfl
  simp only [Act.put, List.setIfInBounds_toArray, List.set_cons_zero, List.set_cons_succ]
  refine wpAnyH_ready (rs := [10, 15]) (by kernel_rfl) (by simp) ?_
  refine AllReadyH.cons rfl (fun K hK => ?_) ?_
  ·go_simp
   refine (HC.out _ _ _ (HK1.out.step (Below.refl W1.heap.size W1).drew)).mono ?_
   rintro e w5 ⟨⟨s, rfl, hs⟩, hb5⟩
   have hb6 : Below W1.heap.size W1 w5 := (Below.refl W1.heap.size W1).drew.trans hb5
   refine hK.out _ _ (SS.out _ hb6) (fun hHeld => ?_)
   clear hK
   refine wpAnyH_take (i := 11) (v := ?_) rfl (by kernel_rfl) (by kernel_rfl) (by kernel_rfl) (fun _ _ _ h => h) (Or.inl ⟨by rfl, ?_⟩) (by assumption) ?_
   rotate_left
   ·intro w hSw
    (try dsimp only at hSw)
    go_simp
    try with_reducible rfl
   simp only [Act.put, List.setIfInBounds_toArray, List.set_cons_zero, List.set_cons_succ]
   refine wpAnyH_take (i := 12) (v := ?_) rfl (by kernel_rfl) (by kernel_rfl) (by kernel_rfl) (fun _ _ _ h => h) (Or.inl ⟨by rfl, ?_⟩) (by assumption) ?_
   rotate_left
   ·intro w hSw
    (try dsimp only at hSw)
    go_simp
    try with_reducible rfl
   simp only [Act.put, List.setIfInBounds_toArray, List.set_cons_zero, List.set_cons_succ]
   refine wpAnyH_take (i := 13) (v := ?_) rfl (by kernel_rfl) (by kernel_rfl) (by kernel_rfl) (fun _ _ _ h => h) (Or.inl ⟨by rfl, ?_⟩) (by assumption) ?_
   rotate_left
   ·intro w hSw
    (try dsimp only at hSw)
    go_simp
    try with_reducible rfl
   simp only [Act.put, List.setIfInBounds_toArray, List.set_cons_zero, List.set_cons_succ]
   refine wpAnyH_take (i := 14) (v := ?_) rfl (by kernel_rfl) (by kernel_rfl) (by kernel_rfl) (fun _ _ _ h => h) (Or.inl ⟨by rfl, ?_⟩) (by assumption) ?_
   rotate_left
   ·intro w hSw
    (try dsimp only at hSw)
    go_simp
    try with_reducible rfl
   simp only [Act.put, List.setIfInBounds_toArray, List.set_cons_zero, List.set_cons_succ]
   refine wpAnyH_ready (rs := [15]) (by kernel_rfl) (by simp) ?_
   refine AllReadyH.cons rfl (fun K hK => ?_) ?_
   ·go_simp
    have hb7 : Below W1.heap.size W1 (w5.alloc (.cells #[.string ⟨#[]⟩, .int .i64 0, .int .i64 0, .int .i64 0, .int .i64 0, .int .i64 0, .string ⟨#[]⟩, .int .i64 0, .int .i64 0, .slice none 0 0, .int .i64 0, .int .i64 0, .string ⟨#[]⟩, .int .i64 0, .int .i64 0, .slice none 0 0] 123)) := hb6.alloc hb6.size _
    have hz6 := hb6.size
    refine hK.out _ _ (SS.out _ hb7) (fun hHeld => ?_)
    clear hK
    refine wpAnyH_ready (rs := [16]) (by kernel_rfl) (by simp) ?_
    refine AllReadyH.cons rfl (fun K hK => ?_) ?_
    ·refine step_store_row (by rfl) 123 _ _ (by rfl) w5.heap.size (by rfl) (by rfl) (World.alloc_heap_new _ _) HXI.out HXS.out.symm HX1.out ?_
     refine hK.out _ _ (SS.out _ (below_setRow hb7 (by omega) _)) (fun hHeld => ?_)
     clear hK
     refine wpAnyH_ready (rs := [17]) (by kernel_rfl) (by simp) ?_
     refine AllReadyH.cons rfl (fun K hK => ?_) ?_
     ·go_simp
      refine hK.out _ _ (by assumption) (fun hHeld => ?_)
      clear hK
      refine wpAnyH_ready (rs := [18]) (by kernel_rfl) (by simp) ?_
      refine AllReadyH.cons rfl (fun K hK => ?_) ?_
      ·go_simp
       refine hK.out _ _ (by assumption) (fun hHeld => ?_)
       clear hK
       refine wpAnyH_done (by kernel_rfl) ?_ _
       go_wp2_with fail
       go_meet
       exact ⟨s, w5.heap.size, rfl, rfl, setRow_at (World.alloc_heap_new _ _), by omega, (hs.mono (base' := W1.heap.size) (Nat.le_refl _) (Nat.le_refl _)).step (below_setRow ((Below.refl w5.heap.size w5).alloc (Nat.le_refl _) _) (Nat.le_refl _) _), below_setRow hb7 (by omega) _⟩
      exact AllReadyH.nil
     exact AllReadyH.nil
    exact AllReadyH.nil
   exact AllReadyH.nil
  refine AllReadyH.cons rfl (fun K hK => ?_) ?_
  ·go_simp
   have hba : Below W1.heap.size W1 (W1.drew.alloc (.cells #[.string ⟨#[]⟩, .int .i64 0, .int .i64 0, .int .i64 0, .int .i64 0, .int .i64 0, .string ⟨#[]⟩, .int .i64 0, .int .i64 0, .slice none 0 0, .int .i64 0, .int .i64 0, .string ⟨#[]⟩, .int .i64 0, .int .i64 0, .slice none 0 0] 123)) := (Below.refl W1.heap.size W1).drew.alloc (Nat.le_refl _) _
   refine hK.out _ _ (SS.out _ hba) (fun hHeld => ?_)
   clear hK
   refine wpAnyH_ready (rs := [10]) (by kernel_rfl) (by simp) ?_
   refine AllReadyH.cons rfl (fun K hK => ?_) ?_
   ·go_simp
    refine (HC.out _ _ _ (HK1.out.step hba)).mono ?_
    rintro e w5 ⟨⟨s, rfl, hs⟩, hb5⟩
    have hb6 : Below W1.heap.size W1 w5 := hba.trans (hb5.mono hba.size)
    have hrow : w5.heap[W1.heap.size]? = some (.cells #[.string ⟨#[]⟩, .int .i64 0, .int .i64 0, .int .i64 0, .int .i64 0, .int .i64 0, .string ⟨#[]⟩, .int .i64 0, .int .i64 0, .slice none 0 0, .int .i64 0, .int .i64 0, .string ⟨#[]⟩, .int .i64 0, .int .i64 0, .slice none 0 0] 123 (0, 0)) := (hb5.block _ (by simp)).trans (World.alloc_heap_new W1.drew _)
    refine hK.out _ _ (SS.out _ hb6) (fun hHeld => ?_)
    clear hK
    refine wpAnyH_take (i := 11) (v := ?_) rfl (by kernel_rfl) (by kernel_rfl) (by kernel_rfl) (fun _ _ _ h => h) (Or.inl ⟨by rfl, ?_⟩) (by assumption) ?_
    rotate_left
    ·intro w hSw
     (try dsimp only at hSw)
     go_simp
     try with_reducible rfl
    simp only [Act.put, List.setIfInBounds_toArray, List.set_cons_zero, List.set_cons_succ]
    refine wpAnyH_take (i := 12) (v := ?_) rfl (by kernel_rfl) (by kernel_rfl) (by kernel_rfl) (fun _ _ _ h => h) (Or.inl ⟨by rfl, ?_⟩) (by assumption) ?_
    rotate_left
    ·intro w hSw
     (try dsimp only at hSw)
     go_simp
     try with_reducible rfl
    simp only [Act.put, List.setIfInBounds_toArray, List.set_cons_zero, List.set_cons_succ]
    refine wpAnyH_take (i := 13) (v := ?_) rfl (by kernel_rfl) (by kernel_rfl) (by kernel_rfl) (fun _ _ _ h => h) (Or.inl ⟨by rfl, ?_⟩) (by assumption) ?_
    rotate_left
    ·intro w hSw
     (try dsimp only at hSw)
     go_simp
     try with_reducible rfl
    simp only [Act.put, List.setIfInBounds_toArray, List.set_cons_zero, List.set_cons_succ]
    refine wpAnyH_take (i := 14) (v := ?_) rfl (by kernel_rfl) (by kernel_rfl) (by kernel_rfl) (fun _ _ _ h => h) (Or.inl ⟨by rfl, ?_⟩) (by assumption) ?_
    rotate_left
    ·intro w hSw
     (try dsimp only at hSw)
     go_simp
     try with_reducible rfl
    simp only [Act.put, List.setIfInBounds_toArray, List.set_cons_zero, List.set_cons_succ]
    refine wpAnyH_ready (rs := [16]) (by kernel_rfl) (by simp) ?_
    refine AllReadyH.cons rfl (fun K hK => ?_) ?_
    ·refine step_store_row (by rfl) 123 _ _ (by rfl) W1.heap.size (by rfl) (by rfl) hrow HXI.out HXS.out.symm HX1.out ?_
     refine hK.out _ _ (SS.out _ (below_setRow hb6 (by omega) _)) (fun hHeld => ?_)
     clear hK
     refine wpAnyH_ready (rs := [17]) (by kernel_rfl) (by simp) ?_
     refine AllReadyH.cons rfl (fun K hK => ?_) ?_
     ·go_simp
      refine hK.out _ _ (by assumption) (fun hHeld => ?_)
      clear hK
      refine wpAnyH_ready (rs := [18]) (by kernel_rfl) (by simp) ?_
      refine AllReadyH.cons rfl (fun K hK => ?_) ?_
      ·go_simp
       refine hK.out _ _ (by assumption) (fun hHeld => ?_)
       clear hK
       refine wpAnyH_done (by kernel_rfl) ?_ _
       go_wp2_with fail
       go_meet
       exact ⟨s, W1.heap.size, rfl, rfl, setRow_at hrow, by omega, (hs.setRow (by simp)).mono (by simp) (Nat.le_refl _), below_setRow hb6 (by omega) _⟩
      exact AllReadyH.nil
     exact AllReadyH.nil
    exact AllReadyH.nil
   exact AllReadyH.nil
  exact AllReadyH.nil
 case rest =>
  obtain ⟨s, rb, rfl, rfl, hrb, hrz, hrd, hbc⟩ := hcut
  have HRB := Lib.hid hrb
  have hz1 := HZS.out
  have hkc := HK1.out.step hbc
  have HBC := Lib.hid hbc
  obtain ⟨xs, hsl, hxl⟩ := hrd
  obtain ⟨sa, sn, sc⟩ := s
  have hsn := hsl.1
  simp only at hsn
  subst hsn
  have HA := Lib.hid (add_any wc hkc xs sa sc hsl.reads hsl.2.2.2.1 (by omega) (by have := hbc.size; omega))
  have hvz : ∀ k, v.ownBlock = some k → k < W.heap.size := fun k e => by
   obtain ⟨rs, ho, _⟩ := HK.out.ow
   exact ho.lt k e
  have HVZ := Lib.hid hvz
  have HZ6 : Hid (wc.heap[W.heap.size]? = some (.cells #[.string ⟨#[]⟩, .int .i64 0, .int .i64 0, .int .i64 0, .int .i64 0, .int .i64 0, .string ⟨#[]⟩, .int .i64 0, .int .i64 0, .slice none 0 0, .int .i64 0, .int .i64 0, .string ⟨#[]⟩, .int .i64 0, .int .i64 0, .slice none 0 0] 123 (0, 0))) := Lib.hid ((hbc.block _ (by omega)).trans HZ1.out)
  have hbz : b < W.heap.size := hzb
  have hrbz : rb < wc.heap.size := (Array.getElem?_eq_some_iff.1 hrb).1
  clear hrb hsl hbc hkc hvz hz1
  go_wp2_with fail
  refine HA.out.mono ?_
  rintro e w7 ⟨rfl, v', hk7, hf7⟩
  have HK7 := Lib.hid hk7
  have HF7 := Lib.hid hf7
  have HR7 : Hid (w7.heap[rb]? = some (.cells ec 123 (0, 0))) := Lib.hid ((hf7.block rb hrbz (by have := HZS.out; omega) (fun e => by have := HVZ.out _ e; have := HZS.out; omega)).trans HRB.out)
  have HZ7 : Hid (w7.heap[W.heap.size]? = some (.cells #[.string ⟨#[]⟩, .int .i64 0, .int .i64 0, .int .i64 0, .int .i64 0, .int .i64 0, .string ⟨#[]⟩, .int .i64 0, .int .i64 0, .slice none 0 0, .int .i64 0, .int .i64 0, .string ⟨#[]⟩, .int .i64 0, .int .i64 0, .slice none 0 0] 123 (0, 0))) := Lib.hid ((hf7.block W.heap.size (by have := HZS.out; have := HBC.out.size; omega) (by omega) (fun e => by have := HVZ.out _ e; omega)).trans HZ6.out)
  clear hk7 hf7
  dsimp only
  repeat (first
   | (refine wpList_load_row rfl 123 (.tmp 7) rfl rb rfl HR7.out Tryz.underlying123 rfl HXI.out ?_)
   | (refine wpList_store_row rfl 123 (.tmp 6) (.tmp 30) rfl W.heap.size rfl rfl HZ7.out HXI.out HXS.out.symm HX1.out ?_)
   | go_values | go_skip | go_guarded | go_step | go_upon)
  have hF : LkF b v v' W w7 := (LkF.of_below (HB1.out.trans (HBC.out.mono (by have := HZS.out; omega)))).trans HF7.out
  refine bodyPost_ret (results_cell1 Tryz.results63 rfl (loadVar_row_ (setRow_at HZ7.out) Tryz.underlying123 rfl HXI.out)) rfl ⟨rfl, v', (HK7.out.mono (by omega)).far (by simp) (fun k hk hc => setRow_far (fun e => ?_)), hF.os, hF.tape, hF.output, by simp; exact hF.size, fun k hk hb hv => (setRow_far (by omega)).trans (hF.block k hk hb hv), hF.own⟩
  subst e
  rcases hc with hc | hc | hc
  ·have := HK.out.z1
   omega
  ·omega
  ·rcases HF7.out.own with ho | ho
   ·rw [ho] at hc
    have := HVZ.out _ hc
    omega
   ·have := ho _ hc
    have := HBC.out.size
    have := HZS.out
    omega
theorem At.enc_len5 (x : At) : x.enc.length = 5 := rfl
theorem At.enc_one5 (x : At) : ∀ u ∈ x.enc, u.oneCell' = true := by
 intro u hu
 simp only [At.enc, List.mem_cons, List.not_mem_nil, or_false] at hu
 rcases hu with rfl | rfl | rfl | rfl | rfl <;> rfl
theorem Tryz.infoAt5 : (Tryz.prog.info? 69).map (fun i => (i.zero, i.size, i.bytes)) = some (some (.agg #[.int .i64 0, .int .i64 0, .int .i64 0, .int .i64 0, .int .i64 0]), 5, 40) := by kernel_rfl
def credF : Option Cr → Int
 | some x => x.credits
 | none => 0
theorem field_cred (o : Option Cr) (W : World) : (Instr.field 123 (.agg (crC o).toArray) 2).run Tryz.prog W = .ok (.int .i64 (credF o)) W := by
 cases o with
 | none => kernel_rfl
 | some x => kernel_rfl
def attF (d : Wd) (known n : Int) (p : Int × Int) : List At :=
 if 12 < p.2 % 16 ∨ 7 ≤ p.2 / 16 then [] else [⟨n, p.1, p.2 % 16, p.2 / 16, credF (courF d n p.1 known)⟩]
def attsN (d : Wd) (student term known n : Int) : List At := (ptsF d.fs ⟨5, student, n⟩ term known).flatMap (attF d known n)
def recTo (d : Wd) (student term known : Int) (ns : List Int) : List At := ns.flatMap (attsN d student term known)
theorem attF_len (d : Wd) (known n : Int) (p : Int × Int) : (attF d known n p).length ≤ 1 := by unfold attF; split <;> simp
theorem flatM_at {α β : Type} (f : α → List β) {l : List α} {k : Nat} {x : α} (h : l[k]? = some x) : (l.take (k + 1)).flatMap f = (l.take k).flatMap f ++ f x := by
 have hl := (List.getElem?_eq_some_iff.1 h).1
 rw [List.take_succ_eq_append_getElem hl, (List.getElem?_eq_some_iff.1 h).2]
 simp
theorem flatM_len {α β : Type} (f : α → List β) (n : Nat) (h : ∀ x, (f x).length ≤ n) : ∀ l : List α, (l.flatMap f).length ≤ n * l.length
 | [] => by simp
 | x :: l => by
   have := flatM_len f n h l
   have := h x
   simp only [List.flatMap_cons, List.length_append, List.length_cons, Nat.mul_add]
   omega
theorem ptsF_len (fs : List Fc) (k : Ky) (term known : Int) : (ptsF fs k term known).length ≤ 1024 := Nat.le_trans (ptsTo_len _ _) (by omega)
theorem ptsF_nn (fs : List Fc) (k : Ky) (term known : Int) : ∀ p ∈ ptsF fs k term known, 0 ≤ p.2 := by
 intro p hp
 unfold ptsF ptsTo at hp
 obtain ⟨t, _, h⟩ := List.mem_filterMap.1 hp
 split at h
 ·cases h
  assumption
 ·cases h
theorem bestF_mem {term : Int} {f : Fc} : ∀ {fs : List Fc}, bestF term fs = some f → f ∈ fs := by
 have key : ∀ (fs : List Fc) (b : Option Fc), fs.foldl (bestStep term) b = some f → f ∈ fs ∨ b = some f := by
  intro fs
  induction fs with
  | nil => intro b h; exact .inr h
  | cons x l ih =>
    intro b h
    rcases ih _ h with h1 | h1
    ·exact .inl (List.mem_cons_of_mem _ h1)
    ·unfold bestStep at h1
     split at h1
     ·split at h1
      ·cases h1
       exact .inl (List.mem_cons_self ..)
      ·split at h1
       ·cases h1
        exact .inl (List.mem_cons_self ..)
       ·exact .inr h1
     ·exact .inr h1
 intro fs h
 rcases key fs none h with h1 | h1
 ·exact h1
 ·cases h1
theorem ptsF_le {fs : List Fc} (hv : ∀ f ∈ fs, f.val ≤ 9223372036854775807) (k : Ky) (term known : Int) : ∀ p ∈ ptsF fs k term known, p.2 ≤ 9223372036854775807 := by
 intro p hp
 unfold ptsF ptsTo at hp
 obtain ⟨t, _, h⟩ := List.mem_filterMap.1 hp
 split at h
 ·cases h
  show rowV fs k known t ≤ _
  unfold rowV
  cases hb : bestF t (fs.filter (ofP k known)) with
  | none => simp [rowO]
  | some f =>
    have := hv f (List.mem_filter.1 (bestF_mem hb)).1
    simp only [rowO]
    omega
 ·cases h
theorem attsN_len (d : Wd) (student term known n : Int) : (attsN d student term known n).length ≤ 1024 := by
 have := flatM_len (attF d known n) 1 (attF_len d known n) (ptsF d.fs ⟨5, student, n⟩ term known)
 have := ptsF_len d.fs ⟨5, student, n⟩ term known
 unfold attsN
 omega
theorem recTo_len (d : Wd) (student term known : Int) (ns : List Int) : (recTo d student term known ns).length ≤ 1024 * ns.length := flatM_len _ 1024 (attsN_len d student term known) ns
structure OfI (n₀ b B : Nat) (d : Wd) (known : Int) (W0 : World) (v0 : Value) (student : Int) (rb : Nat) (O : Nat → Prop) (Wr : World) (m : Nat) (v va : Value) (atts : List At) (W : World) : Prop where
 lk : Lk n₀ b B d known m v W
 fr : LkF b v0 v W0 W
 bx : Bx W rb [.int .i64 student, va]
 rz : W0.heap.size ≤ rb
 bz : b < W0.heap.size
 ow : Owns W (rb + 1) 69 5 At.enc va atts
 ap : ∀ k, v.ownBlock = some k → k ≠ rb ∧ va.ownBlock ≠ some k
 ot : ∀ k, O k → k < W.heap.size ∧ k ≠ b ∧ k ≠ rb ∧ v.ownBlock ≠ some k ∧ va.ownBlock ≠ some k ∧ W.heap[k]? = Wr.heap[k]?
section
variable {n₀ b B : Nat} {d : Wd} {known : Int} {W0 : World} {v0 : Value} {student : Int} {rb : Nat} {O : Nat → Prop} {Wr : World} {m : Nat} {v va : Value} {atts : List At} {W W' : World}
theorem OfI.step (h : OfI n₀ b B d known W0 v0 student rb O Wr m v va atts W) (hb : Below W.heap.size W W') : OfI n₀ b B d known W0 v0 student rb O Wr m v va atts W' :=
 ⟨h.lk.step hb, h.fr.trans (LkF.of_below hb), h.bx.step hb, h.rz, h.bz, h.ow.below hb (Nat.le_refl _), h.ap, fun k hk => by
   obtain ⟨a1, a2, a3, a4, a5, a6⟩ := h.ot k hk
   exact ⟨Nat.lt_of_lt_of_le a1 hb.size, a2, a3, a4, a5, (hb.block k a1).trans a6⟩⟩
theorem OfI.call {m' : Nat} {v' : Value} (h : OfI n₀ b B d known W0 v0 student rb O Wr m v va atts W) (hk : Lk n₀ b B d known m' v' W') (hf : LkF b v v' W W') : OfI n₀ b B d known W0 v0 student rb O Wr m' v' va atts W' := by
 have hrb : rb < W.heap.size := h.bx.2.2
 have hbz := h.bz
 have hrz := h.rz
 have own : ∀ k, v'.ownBlock = some k → v.ownBlock = some k ∨ W.heap.size ≤ k := fun k e => by
  rcases hf.own with ho | ho
  ·exact .inl (ho ▸ e)
  ·exact .inr (ho k e)
 refine ⟨hk, h.fr.trans hf, h.bx.keep (P := fun y => y = rb) (hf.kp (fun k e => by subst e; exact ⟨by omega, fun e => (h.ap _ e).1 rfl⟩)) rfl, h.rz, h.bz, h.ow.same (fun k e => hf.block k (h.ow.lt k e) (by have := h.ow.base_le k e; omega) (fun e2 => (h.ap k e2).2 e)), fun k e => ?_, fun k hk => ?_⟩
 ·rcases own k e with e2 | e2
  ·exact h.ap k e2
  ·exact ⟨by omega, fun e3 => by have := h.ow.lt k e3; omega⟩
 ·obtain ⟨a1, a2, a3, a4, a5, a6⟩ := h.ot k hk
  refine ⟨Nat.lt_of_lt_of_le a1 hf.size, a2, a3, fun e => ?_, a5, (hf.block k a1 a2 a4).trans a6⟩
  rcases own k e with e2 | e2
  ·exact a4 e2
  ·omega
theorem OfI.other {O' : Nat → Prop} (h : OfI n₀ b B d known W0 v0 student rb O Wr m v va atts W) (ho : ∀ k, O' k → k < W.heap.size ∧ k ≠ b ∧ k ≠ rb ∧ v.ownBlock ≠ some k ∧ va.ownBlock ≠ some k) : OfI n₀ b B d known W0 v0 student rb O' W m v va atts W :=
 ⟨h.lk, h.fr, h.bx, h.rz, h.bz, h.ow, h.ap, fun k hk => by obtain ⟨a1, a2, a3, a4, a5⟩ := ho k hk; exact ⟨a1, a2, a3, a4, a5, rfl⟩⟩
theorem OfI.back {O' : Nat → Prop} {W1 : World} (h : OfI n₀ b B d known W0 v0 student rb O' W1 m v va atts W) (hO : ∀ k, O k → O' k) (h1 : ∀ k, O k → W1.heap[k]? = Wr.heap[k]?) : OfI n₀ b B d known W0 v0 student rb O Wr m v va atts W :=
 ⟨h.lk, h.fr, h.bx, h.rz, h.bz, h.ow, h.ap, fun k hk => by obtain ⟨a1, a2, a3, a4, a5, a6⟩ := h.ot k (hO k hk); exact ⟨a1, a2, a3, a4, a5, a6.trans (h1 k hk)⟩⟩
theorem OfI.app {va' : Value} {atts' : List At} {W2 : World} (h : OfI n₀ b B d known W0 v0 student rb O Wr m v va atts W) (hg : W.grownBy W2 va.ownBlock) (ho : va'.ownBlock = va.ownBlock ∨ va'.ownBlock = some W.heap.size) (hn : Owns W2 (rb + 1) 69 5 At.enc va' atts') :
 OfI n₀ b B d known W0 v0 student rb O Wr m v va' atts' (W2.setCell ⟨rb, 1, none⟩ va') := by
 have hrb : rb < W.heap.size := h.bx.2.2
 have hbz := h.bz
 have hrz := h.rz
 have hbase := h.ow.base_le
 have hz1 := h.lk.z1
 have hz2 := h.lk.z2
 have hvl : ∀ k, v.ownBlock = some k → k < W.heap.size := fun k e => by
  obtain ⟨rs, o, _⟩ := h.lk.ow
  exact o.lt k e
 have blk : ∀ k, k < W.heap.size → k ≠ rb → va.ownBlock ≠ some k → (W2.setCell ⟨rb, 1, none⟩ va').heap[k]? = W.heap[k]? := fun k hk h1 h2 =>
  (Below.heap_setCell _ _ _ _ (by first | exact h1 | exact h1.symm)).trans (hg.block k hk (fun e => h2 e.symm))
 have own : ∀ k, va'.ownBlock = some k → va.ownBlock = some k ∨ k = W.heap.size := fun k e => by
  rcases ho with ho | ho
  ·exact .inl (ho ▸ e)
  ·rw [ho] at e
   cases e
   exact .inr rfl
 have hsz : W.heap.size ≤ (W2.setCell ⟨rb, 1, none⟩ va').heap.size := by simp [World.setCell]; exact hg.size
 refine ⟨h.lk.far hsz (fun k hk hc => blk k hk (fun e => ?_) (fun e => ?_)), ⟨hg.os.trans h.fr.os, hg.tape.trans h.fr.tape, hg.output.trans h.fr.output, Nat.le_trans h.fr.size hsz, fun k hk hb hv => (blk k (Nat.lt_of_lt_of_le hk h.fr.size) (by omega) (fun e => by have := hbase k e; omega)).trans (h.fr.block k hk hb hv), h.fr.own⟩, ?_, h.rz, h.bz, hn.farS (by omega) _, fun k e => ⟨(h.ap k e).1, fun e2 => ?_⟩, fun k hk => ?_⟩
 ·subst e
  rcases hc with hc | hc | hc
  ·omega
  ·omega
  ·exact (h.ap _ hc).1 rfl
 ·have := hbase k e
  rcases hc with hc | hc | hc
  ·omega
  ·omega
  ·exact (h.ap k hc).2 e
 ·have f1 : Bx W2 rb [.int .i64 student, va] := h.bx.keep (P := fun y => y = rb) (Kp.of_grown2 hg (fun y hy e => by have := hbase y e.symm; omega)) rfl
  exact f1.setAt (i := 1) (by simp) _
 ·rcases own k e2 with e3 | e3
  ·exact (h.ap k e).2 e3
  ·have := hvl k e
   omega
 ·obtain ⟨a1, a2, a3, a4, a5, a6⟩ := h.ot k hk
  refine ⟨Nat.lt_of_lt_of_le a1 hsz, a2, a3, a4, fun e => ?_, (blk k a1 a3 a5).trans a6⟩
  rcases own k e with e3 | e3
  ·exact a5 e3
  ·omega
end
end Go.Proofs.YtalmbigebjbaoaaGreatDoor
