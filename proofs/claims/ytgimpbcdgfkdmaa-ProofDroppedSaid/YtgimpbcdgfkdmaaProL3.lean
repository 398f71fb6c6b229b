/- ProofMore, walked. -/
import Derived.Test.YtgimpbcdgfkdmaaProL2
import Derived.Deep.DeepCutAuto
namespace Go.Proofs.Ytgimpbcdgfkdmaa
open Go.RowKit Go.Shelf
set_option linter.unusedSimpArgs false
set_option linter.unusedVariables false

theorem audit_bd {p : Pg} {l : List At} {us : List Us} {M : Int} {cs : List Bool} (h : auditE p l us M cs = 0) : 0 ≤ M ∧ M ≤ 640000 := by
  obtain ⟨h1, h2, _⟩ := audit_parts h
  obtain ⟨hg, _⟩ := allow_zero h1
  obtain ⟨hcr, hlr, _, _⟩ := good_credits hg
  have h3 := miss_nonneg h1
  have h4 := totR_bd p.reqs hcr
  have h5 := usT_pos us (fun v hv => ((uok_allow h1).one v hv).2.2.1.1)
  omega
theorem Reads.far {α : Type} {V W : World} {B sz b o : Nat} {enc : α → List Value} {xs : List α} (h : Reads V B (some ⟨b, o, none⟩) sz enc xs) {row : Option Nat} (hg : V.grownBy W row) (hr : row ≠ some b) (hl : b < V.heap.size) : Reads W B (some ⟨b, o, none⟩) sz enc xs := fun hn => by
  obtain ⟨b', off, e, hlt, hc⟩ := h hn
  have e2 : b = b' := congrArg Addr.block (Option.some.inj e)
  subst e2
  exact ⟨b, off, e, hlt, fun i x j v hi hj => (World.cell?_of_block (a := ⟨b, _, none⟩) (hg.block b hl (fun e => hr e.symm))).trans (hc i x j v hi hj)⟩
theorem Audit_shape {P : Nat → Prop} (p : Pg) (s : Sl) (l : List At) (B : Option Addr) (b : Nat) (w : World) (hr : Rqs w P s p.reqs) (hi : p.mean.i64) (hla : SlR w P 5 At.enc ⟨B, l.length, b⟩ l) (hll : l.length ≤ 1000) :
    Calls Try.prog 21 #[pgV p s, .slice B l.length b] w fun e w' => (∃ (u c : Sl) (M : Int), e = .returned (.tuple #[auV u M c, .int .i64 (askedE p l)])) ∧ Below w.heap.size w w' := by
  by_cases h0 : askedE p l = 0
  · refine (Audit_any p s l B b w hr hi hla hll h0).mono ?_
    rintro e w' ⟨⟨us, M, cs, D, C, d, c, rfl, _⟩, hb⟩
    exact ⟨⟨_, _, _, by rw [h0]⟩, hb⟩
  · refine (Audit_fails p s l B b w hr hi hla.reads hll h0).mono ?_
    rintro e w' ⟨rfl, hb⟩
    exact ⟨⟨⟨none, 0, 0⟩, ⟨none, 0, 0⟩, 0, rfl⟩, hb⟩
theorem At.enc_len (a : At) : a.enc.length = 5 := rfl
theorem At.enc_one (a : At) : ∀ u ∈ a.enc, u.oneCell' = true := by
  intro u hu
  simp [At.enc] at hu
  rcases hu with rfl | rfl | rfl | rfl | rfl <;> rfl
theorem Try.infoAt : (Try.prog.info? 47).map (fun i => (i.zero, i.size, i.bytes)) = some (some (.agg #[.int .i64 0, .int .i64 0, .int .i64 0, .int .i64 0, .int .i64 0]), 5, 40) := by kernel_rfl
set_option maxRecDepth 100000 in
set_option maxHeartbeats 8000000 in
theorem ProofMore_walk (p : Pg) (s : Sl) (l : List At) (B : Option Addr) (b : Nat) (ac am ag ap ak : Int) (w : World) (hr : Rqs w everyT s p.reqs) (hi : p.mean.i64) (hl : SlR w everyT 5 At.enc ⟨B, l.length, b⟩ l) :
    Calls Try.prog 9 #[pgV p s, .slice B l.length b, .agg #[.int .i64 ac, .int .i64 am, .int .i64 ag, .int .i64 ap, .int .i64 ak]] w fun e w' => e = .returned (.bool true) ∧ Below w.heap.size w w' := by
  have hF := Lib.hid (fun W (h : Below w.heap.size w W) => RProFew_any (P := everyT) p s l B b W (hr.step h))
  have hAF := Lib.hid (fun (h0 : askedE p l ≠ 0) (hll : l.length ≤ 12) W (h : Below w.heap.size w W) => Audit_fails (P := everyT) p s l B b W (hr.step h) hi (hl.step h).reads (by omega) h0)
  have hAO := Lib.hid (fun (h0 : askedE p l = 0) (hll : l.length ≤ 12) W (h : Below w.heap.size w W) => Audit_any (P := everyT) p s l B b W (hr.step h) hi (hl.step h) (by omega) h0)
  have hCk := Lib.hid (fun (hll : l.length ≤ 12) (us : List Us) (D : Option Addr) (d : Nat) (M : Int) (cs : List Bool) (C : Option Addr) (cc : Nat) W (h : Below w.heap.size w W) (hu : SlR W everyT 3 Us.enc ⟨D, us.length, d⟩ us) (hc : SlR W everyT 1 boolE ⟨C, cs.length, cc⟩ cs) (hlu : us.length ≤ 64000) => ProCheck_any (P := everyT) p s l B b us D d M cs C cc W (hr.step h) hi (hl.step h) hu.reads hc (by omega) (by omega))
  have hAG := Lib.hid (fun (hll : l.length ≤ 12) W (h : Below w.heap.size w W) => Audit_shape (P := everyT) p s l B b W (hr.step h) hi (hl.step h) (by omega))
  have hBG := Lib.hid (fun (Am : Option Addr) (cm : Nat) W (h : Below w.heap.size w W) (hm : SlR W everyT 5 At.enc ⟨Am, (l ++ [(⟨ac, am, ag, ap, ak⟩ : At)]).length, cm⟩ (l ++ [(⟨ac, am, ag, ap, ak⟩ : At)])) (hll : l.length ≤ 12) => Audit_shape (P := everyT) p s (l ++ [(⟨ac, am, ag, ap, ak⟩ : At)]) Am cm W (hr.step h) hi hm (by simp; omega))
  have hBO := Lib.hid (fun (h0 : askedE p (l ++ [(⟨ac, am, ag, ap, ak⟩ : At)]) = 0) (Am : Option Addr) (cm : Nat) W (h : Below w.heap.size w W) (hm : SlR W everyT 5 At.enc ⟨Am, (l ++ [(⟨ac, am, ag, ap, ak⟩ : At)]).length, cm⟩ (l ++ [(⟨ac, am, ag, ap, ak⟩ : At)])) (hll : l.length ≤ 12) => Audit_any (P := everyT) p s (l ++ [(⟨ac, am, ag, ap, ak⟩ : At)]) Am cm W (hr.step h) hi hm (by simp; omega) h0)
  have hAl := Lib.hid (fun (Am : Option Addr) (cm : Nat) (us : List Us) (D : Option Addr) (d : Nat) W (h : Below w.heap.size w W) (hm : SlR W everyT 5 At.enc ⟨Am, (l ++ [(⟨ac, am, ag, ap, ak⟩ : At)]).length, cm⟩ (l ++ [(⟨ac, am, ag, ap, ak⟩ : At)])) (hu : SlR W everyT 3 Us.enc ⟨D, us.length, d⟩ us) (hlu : us.length ≤ 64000) (hll : l.length ≤ 12) => Allowed_any (P := everyT) p s (l ++ [(⟨ac, am, ag, ap, ak⟩ : At)]) Am cm us D d W (hr.step h) hi hm.reads hu.reads (by simp; omega) (by omega))
  have hn := hr.len
  obtain ⟨A, n, c⟩ := s
  simp only at hn
  subst hn
  have HL := Lib.hid hl
  unfold pgV auV at *
  simp only [List.length_append, List.length_cons, List.length_nil, Nat.zero_add] at hF hAF hAO hCk hAG hBG hBO hAl ⊢
  cases hf : fewP p l
  · have HFW := Lib.hid hf
    clear hf
    go_enter Try.func9, Try.ntmps9
    go_wp2_with fail
    obtain ⟨W0, hW0⟩ : ∃ W, W = ((w.alloc (.cells #[.string p.nm, .int .i64 p.number, .int .i64 p.uses, .int .i64 p.earn, .int .i64 p.mean.num, .int .i64 p.mean.den, .slice A p.reqs.length c] 26)).alloc (.cells #[.int .i64 ac, .int .i64 am, .int .i64 ag, .int .i64 ap, .int .i64 ak] 47)) := ⟨_, rfl⟩
    have hp0 : Bx W0 w.heap.size (pgC p ⟨A, p.reqs.length, c⟩) := by rw [hW0]; exact (Bx.new w _ _).alloc _
    have ha0 : Bx W0 (w.heap.size + 1) [.int .i64 ac, .int .i64 am, .int .i64 ag, .int .i64 ap, .int .i64 ak] := by rw [hW0]; exact Bx.at_ _ _ _ _ (by simp)
    have hb0 : Below w.heap.size w W0 := by rw [hW0]; exact ((Below.refl _ _).alloc (Nat.le_refl _) _).alloc (by simp) _
    rw [← hW0]
    have HP := Lib.hid hp0
    have BA := Lib.hid hb0
    have HA := Lib.hid ha0
    clear hW0 hp0 hb0 ha0
    refine (proSane_any _).mono ?_
    rintro e w1 ⟨rfl, hb1⟩
    have S_w1 : Below W0.heap.size W0 w1 := hb1
    have HP := Lib.hid (HP.out.step S_w1)
    have BA := Lib.hid (BA.out.trans (S_w1.mono BA.out.size))
    have HA := Lib.hid (HA.out.step S_w1)
    have z_w1 := S_w1.size
    have p0 := HP.out.1 0 _ rfl
    have p1 := HP.out.1 1 _ rfl
    have p2 := HP.out.1 2 _ rfl
    have p3 := HP.out.1 3 _ rfl
    have p4 := HP.out.1 4 _ rfl
    have p5 := HP.out.1 5 _ rfl
    have p6 := HP.out.1 6 _ rfl
    have pz := HP.out.2.2
    have x0 := HA.out.1 0 _ rfl
    have x1 := HA.out.1 1 _ rfl
    have x2 := HA.out.1 2 _ rfl
    have x3 := HA.out.1 3 _ rfl
    have x4 := HA.out.1 4 _ rfl
    have xz := HA.out.2.2
    go_wp2_with fail
    clear p0 p1 p2 p3 p4 p5 p6 pz
    clear x0 x1 x2 x3 x4 xz
    refine (hF.out _ BA.out).mono ?_
    rw [HFW.out]
    rintro e w2 ⟨rfl, hb2⟩
    have S_w2 : Below w1.heap.size w1 w2 := hb2
    have HP := Lib.hid (HP.out.step S_w2)
    have BA := Lib.hid (BA.out.trans (S_w2.mono BA.out.size))
    have HA := Lib.hid (HA.out.step S_w2)
    have z_w2 := S_w2.size
    have p0 := HP.out.1 0 _ rfl
    have p1 := HP.out.1 1 _ rfl
    have p2 := HP.out.1 2 _ rfl
    have p3 := HP.out.1 3 _ rfl
    have p4 := HP.out.1 4 _ rfl
    have p5 := HP.out.1 5 _ rfl
    have p6 := HP.out.1 6 _ rfl
    have pz := HP.out.2.2
    have x0 := HA.out.1 0 _ rfl
    have x1 := HA.out.1 1 _ rfl
    have x2 := HA.out.1 2 _ rfl
    have x3 := HA.out.1 3 _ rfl
    have x4 := HA.out.1 4 _ rfl
    have xz := HA.out.2.2
    go_wp2_with fail
    go_ret
    exact ⟨rfl, BA.out⟩
  have HFW := Lib.hid hf
  have hll := few_len hf
  clear hf
  obtain ⟨i0, hinf, hz0, hz1, hz2⟩ := info_parts Try.infoAt
  have HI := Lib.hid hinf
  have HN0 := Lib.hid (And.intro hl.2.1 (And.intro hl.2.2.1 hl.2.2.2.1))
  have hlm : l.length + 1 ≤ maxLen := by simp [maxLen]; omega
  clear hinf
  go_enter Try.func9, Try.ntmps9
  go_wp2_with fail
  obtain ⟨W0, hW0⟩ : ∃ W, W = ((w.alloc (.cells #[.string p.nm, .int .i64 p.number, .int .i64 p.uses, .int .i64 p.earn, .int .i64 p.mean.num, .int .i64 p.mean.den, .slice A p.reqs.length c] 26)).alloc (.cells #[.int .i64 ac, .int .i64 am, .int .i64 ag, .int .i64 ap, .int .i64 ak] 47)) := ⟨_, rfl⟩
  have hp0 : Bx W0 w.heap.size (pgC p ⟨A, p.reqs.length, c⟩) := by rw [hW0]; exact (Bx.new w _ _).alloc _
  have ha0 : Bx W0 (w.heap.size + 1) [.int .i64 ac, .int .i64 am, .int .i64 ag, .int .i64 ap, .int .i64 ak] := by rw [hW0]; exact Bx.at_ _ _ _ _ (by simp)
  have hb0 : Below w.heap.size w W0 := by rw [hW0]; exact ((Below.refl _ _).alloc (Nat.le_refl _) _).alloc (by simp) _
  rw [← hW0]
  have HP := Lib.hid hp0
  have BA := Lib.hid hb0
  have HA := Lib.hid ha0
  clear hW0 hp0 hb0 ha0
  refine (proSane_any _).mono ?_
  rintro e w1 ⟨rfl, hb1⟩
  have S_w1 : Below W0.heap.size W0 w1 := hb1
  have HP := Lib.hid (HP.out.step S_w1)
  have BA := Lib.hid (BA.out.trans (S_w1.mono BA.out.size))
  have HA := Lib.hid (HA.out.step S_w1)
  have z_w1 := S_w1.size
  have p0 := HP.out.1 0 _ rfl
  have p1 := HP.out.1 1 _ rfl
  have p2 := HP.out.1 2 _ rfl
  have p3 := HP.out.1 3 _ rfl
  have p4 := HP.out.1 4 _ rfl
  have p5 := HP.out.1 5 _ rfl
  have p6 := HP.out.1 6 _ rfl
  have pz := HP.out.2.2
  have x0 := HA.out.1 0 _ rfl
  have x1 := HA.out.1 1 _ rfl
  have x2 := HA.out.1 2 _ rfl
  have x3 := HA.out.1 3 _ rfl
  have x4 := HA.out.1 4 _ rfl
  have xz := HA.out.2.2
  go_wp2_with fail
  clear p0 p1 p2 p3 p4 p5 p6 pz
  clear x0 x1 x2 x3 x4 xz
  refine (hF.out _ BA.out).mono ?_
  rw [HFW.out]
  rintro e w2 ⟨rfl, hb2⟩
  have S_w2 : Below w1.heap.size w1 w2 := hb2
  have HP := Lib.hid (HP.out.step S_w2)
  have BA := Lib.hid (BA.out.trans (S_w2.mono BA.out.size))
  have HA := Lib.hid (HA.out.step S_w2)
  have z_w2 := S_w2.size
  have p0 := HP.out.1 0 _ rfl
  have p1 := HP.out.1 1 _ rfl
  have p2 := HP.out.1 2 _ rfl
  have p3 := HP.out.1 3 _ rfl
  have p4 := HP.out.1 4 _ rfl
  have p5 := HP.out.1 5 _ rfl
  have p6 := HP.out.1 6 _ rfl
  have pz := HP.out.2.2
  have x0 := HA.out.1 0 _ rfl
  have x1 := HA.out.1 1 _ rfl
  have x2 := HA.out.1 2 _ rfl
  have x3 := HA.out.1 3 _ rfl
  have x4 := HA.out.1 4 _ rfl
  have xz := HA.out.2.2
  go_upto_region 5 with fail
  have hB2 := BA.out.size
  have SSS := Lib.hid (show ∀ W, Below w2.heap.size w2 W → (fun W' => W'.cell? ⟨w.heap.size + 1, 0, none⟩ = some (.int .i64 ac) ∧ W'.cell? ⟨w.heap.size + 1, 1, none⟩ = some (.int .i64 am) ∧ W'.cell? ⟨w.heap.size + 1, 2, none⟩ = some (.int .i64 ag) ∧ W'.cell? ⟨w.heap.size + 1, 3, none⟩ = some (.int .i64 ap) ∧ W'.cell? ⟨w.heap.size + 1, 4, none⟩ = some (.int .i64 ak)) W from fun W h => ⟨(h.cell (p := ⟨w.heap.size + 1, 0, none⟩) xz).trans x0, (h.cell (p := ⟨w.heap.size + 1, 1, none⟩) xz).trans x1, (h.cell (p := ⟨w.heap.size + 1, 2, none⟩) xz).trans x2, (h.cell (p := ⟨w.heap.size + 1, 3, none⟩) xz).trans x3, (h.cell (p := ⟨w.heap.size + 1, 4, none⟩) xz).trans x4⟩)
  have HX := Lib.hid ((HL.out.step BA.out).reads)
  go_cut [7] (fun v' wx => ∃ Am cm, v' = .slice Am (l.length + 1) cm ∧ Owns wx w2.heap.size 47 5 At.enc (.slice Am (l.length + 1) cm) (l ++ [(⟨ac, am, ag, ap, ak⟩ : At)]) ∧ Below w2.heap.size w2 wx)
  case first =>
    refine wp_region_held_drew (S := (fun W' => W'.cell? ⟨w.heap.size + 1, 0, none⟩ = some (.int .i64 ac) ∧ W'.cell? ⟨w.heap.size + 1, 1, none⟩ = some (.int .i64 am) ∧ W'.cell? ⟨w.heap.size + 1, 2, none⟩ = some (.int .i64 ag) ∧ W'.cell? ⟨w.heap.size + 1, 3, none⟩ = some (.int .i64 ap) ∧ W'.cell? ⟨w.heap.size + 1, 4, none⟩ = some (.int .i64 ak))) (by kernel_rfl) (SSS.out _ (Below.refl _ _).drew) (fun hHeld => ?_)
    obtain ⟨V0, hV0⟩ : ∃ X, X = w2.drew := ⟨_, rfl⟩
    have hBV0 : Below w2.heap.size w2 V0 := by rw [hV0]; exact (Below.refl _ _).drew
    rw [← hV0] at hHeld ⊢
    clear hV0
    refine wpAnyH_take (i := 1) (v := ?_) rfl (by kernel_rfl) (by kernel_rfl) (by kernel_rfl) (fun _ _ _ h => h) (Or.inl ⟨by rfl, ?_⟩) (by assumption) ?_
    rotate_left
    · intro w hSw
      (try dsimp only at hSw)
      go_simp
      try with_reducible rfl
    simp only [Act.put, List.setIfInBounds_toArray, List.set_cons_zero, List.set_cons_succ]
    refine wpAnyH_take (i := 3) (v := ?_) rfl (by kernel_rfl) (by kernel_rfl) (by kernel_rfl) (fun _ _ _ h => h) (Or.inl ⟨by rfl, ?_⟩) (by assumption) ?_
    rotate_left
    · intro w hSw
      (try dsimp only at hSw)
      go_simp
      try with_reducible rfl
    simp only [Act.put, List.setIfInBounds_toArray, List.set_cons_zero, List.set_cons_succ]
    refine wpAnyH_ready (rs := [0, 4]) (by kernel_rfl) (by simp) ?_
    refine AllReadyH.cons rfl (fun K hK => ?_) ?_
    · go_simp
      have hBV1 : Below w2.heap.size w2 (V0.alloc (.cells #[] 47)) := hBV0.alloc hBV0.size _
      refine hK.out _ _ (SSS.out _ hBV1) (fun hHeld => ?_)
      clear hK
      obtain ⟨V1, hV1⟩ : ∃ X, X = V0.alloc (.cells #[] 47) := ⟨_, rfl⟩
      have HzV1 : Hid (V1.heap.size = V0.heap.size + 1) := Lib.hid (by rw [hV1]; simp)
      have o1 : Owns V1 w2.heap.size 47 5 At.enc (.slice (some ⟨V0.heap.size, 0, none⟩) 0 0) [] := by rw [hV1]; exact (Owns.lit (w := V0) (e := 47) (ys := ([] : List At)) (base := w2.heap.size) (cs := #[]) At.enc_len rfl hBV0.size (Nat.zero_le _))
      rw [← hV1] at hBV1 hHeld ⊢
      clear hV1
      refine wpAnyH_ready (rs := [2, 4]) (by kernel_rfl) (by simp) ?_
      refine AllReadyH.cons rfl (fun K hK => ?_) ?_
      · refine step_append_reads (en := At.enc) (sz := 5) (by rfl) _ _ _ (by rfl) At.enc_len At.enc_one w2.heap.size 47 i0 _ 40 Try.underlying27 HI.out hz0 hz1 hz2 rfl (by decide) (.slice (some ⟨V0.heap.size, 0, none⟩) 0 0) [] (by rfl) o1 w2.heap.size B b l (by rfl) (HX.out.below hBV1) (fun h => HN0.out.2.2 h) (by simp; omega) (by simp; omega) hBV1.size ?_
        intro v6 V2 k1 k2 k3
        rw [List.nil_append] at k1
        obtain ⟨A6, c6, rfl, _, _⟩ := k1.shape
        have hBV2 : Below w2.heap.size w2 V2 := hBV1.grown k2 hBV1.size (fun q e => o1.base_le q e)
        refine hK.out _ _ (SSS.out _ hBV2) (fun hHeld => ?_)
        clear hK
        refine wpAnyH_ready (rs := [4]) (by kernel_rfl) (by simp) ?_
        refine AllReadyH.cons rfl (fun K hK => ?_) ?_
        · go_simp
          have hBV3 : Below w2.heap.size w2 (V2.alloc (.cells #[.int .i64 ac, .int .i64 am, .int .i64 ag, .int .i64 ap, .int .i64 ak] 47)) := hBV2.alloc hBV2.size _
          refine hK.out _ _ (SSS.out _ hBV3) (fun hHeld => ?_)
          clear hK
          obtain ⟨V3, hV3⟩ : ∃ X, X = V2.alloc (.cells #[.int .i64 ac, .int .i64 am, .int .i64 ag, .int .i64 ap, .int .i64 ak] 47) := ⟨_, rfl⟩
          have HzV3 : Hid (V3.heap.size = V2.heap.size + 1) := Lib.hid (by rw [hV3]; simp)
          have r3 : Reads V3 (V2.heap.size + 1) (some ⟨V2.heap.size, 0, none⟩) 5 At.enc [(⟨ac, am, ag, ap, ak⟩ : At)] := by rw [hV3]; exact reads_one V2 At.enc (⟨ac, am, ag, ap, ak⟩ : At) _ _ rfl 5 V2.heap.size rfl
          have o3 : Owns V3 w2.heap.size 47 5 At.enc (.slice A6 l.length c6) l := by rw [hV3]; exact k1.alloc _
          rw [← hV3] at hBV3 hHeld ⊢
          clear hV3
          refine wpAnyH_ready (rs := [5]) (by kernel_rfl) (by simp) ?_
          refine AllReadyH.cons rfl (fun K hK => ?_) ?_
          · refine step_append_reads (en := At.enc) (sz := 5) (by rfl) _ _ _ (by rfl) At.enc_len At.enc_one w2.heap.size 47 i0 _ 40 Try.underlying27 HI.out hz0 hz1 hz2 rfl (by decide) (.slice A6 l.length c6) l (by rfl) o3 (V2.heap.size + 1) (some ⟨V2.heap.size, 0, none⟩) 1 [(⟨ac, am, ag, ap, ak⟩ : At)] (by rfl) r3 (fun h => by cases h) (by simp; omega) (by simp; omega) hBV3.size ?_
            intro v7 w7 m1 m2 m3
            have hB7 : Below w2.heap.size w2 w7 := hBV3.grown m2 hBV3.size (fun q e => (o3).base_le q e)
            obtain ⟨Am, cm, rfl, _, _⟩ := m1.shape
            refine hK.out _ _ (SSS.out _ hB7) (fun hHeld => ?_)
            clear hK
            rw [List.length_append] at m1 ⊢
            simp only [List.length_cons, List.length_nil, Nat.zero_add] at m1 ⊢
            refine wpAnyH_ready (rs := [6]) (by kernel_rfl) (by simp) ?_
            refine AllReadyH.cons rfl (fun K hK => ?_) ?_
            · go_simp
              refine hK.out _ _ (by assumption) (fun hHeld => ?_)
              clear hK
              refine wpAnyH_done (by kernel_rfl) ?_ _
              go_wp2_with fail
              go_meet
              exact ⟨Am, cm, rfl, m1, hB7⟩
            exact AllReadyH.nil
          exact AllReadyH.nil
        exact AllReadyH.nil
      refine AllReadyH.cons rfl (fun K hK => ?_) ?_
      · go_simp
        have hBV2 : Below w2.heap.size w2 (V1.alloc (.cells #[.int .i64 ac, .int .i64 am, .int .i64 ag, .int .i64 ap, .int .i64 ak] 47)) := hBV1.alloc hBV1.size _
        refine hK.out _ _ (SSS.out _ hBV2) (fun hHeld => ?_)
        clear hK
        obtain ⟨V2, hV2⟩ : ∃ X, X = V1.alloc (.cells #[.int .i64 ac, .int .i64 am, .int .i64 ag, .int .i64 ap, .int .i64 ak] 47) := ⟨_, rfl⟩
        have HzV2 : Hid (V2.heap.size = V1.heap.size + 1) := Lib.hid (by rw [hV2]; simp)
        have r2 : Reads V2 (V1.heap.size + 1) (some ⟨V1.heap.size, 0, none⟩) 5 At.enc [(⟨ac, am, ag, ap, ak⟩ : At)] := by rw [hV2]; exact reads_one V1 At.enc (⟨ac, am, ag, ap, ak⟩ : At) _ _ rfl 5 V1.heap.size rfl
        have o2 : Owns V2 w2.heap.size 47 5 At.enc (.slice (some ⟨V0.heap.size, 0, none⟩) 0 0) [] := by rw [hV2]; exact o1.alloc _
        rw [← hV2] at hBV2 hHeld ⊢
        clear hV2
        refine wpAnyH_ready (rs := [2]) (by kernel_rfl) (by simp) ?_
        refine AllReadyH.cons rfl (fun K hK => ?_) ?_
        · refine step_append_reads (en := At.enc) (sz := 5) (by rfl) _ _ _ (by rfl) At.enc_len At.enc_one w2.heap.size 47 i0 _ 40 Try.underlying27 HI.out hz0 hz1 hz2 rfl (by decide) (.slice (some ⟨V0.heap.size, 0, none⟩) 0 0) [] (by rfl) o2 w2.heap.size B b l (by rfl) (HX.out.below hBV2) (fun h => HN0.out.2.2 h) (by simp; omega) (by simp; omega) hBV2.size ?_
          intro v6 V3 k1 k2 k3
          rw [List.nil_append] at k1
          obtain ⟨A6, c6, rfl, _, _⟩ := k1.shape
          have hBV3 : Below w2.heap.size w2 V3 := hBV2.grown k2 hBV2.size (fun q e => o2.base_le q e)
          refine hK.out _ _ (SSS.out _ hBV3) (fun hHeld => ?_)
          clear hK
          have r3 := r2.far k2 (by have e1 := HzV1.out; have e2 := HzV2.out; simp [Value.ownBlock]; omega) (by have e1 := HzV1.out; have e2 := HzV2.out; omega)
          refine wpAnyH_ready (rs := [5]) (by kernel_rfl) (by simp) ?_
          refine AllReadyH.cons rfl (fun K hK => ?_) ?_
          · refine step_append_reads (en := At.enc) (sz := 5) (by rfl) _ _ _ (by rfl) At.enc_len At.enc_one w2.heap.size 47 i0 _ 40 Try.underlying27 HI.out hz0 hz1 hz2 rfl (by decide) (.slice A6 l.length c6) l (by rfl) k1 (V1.heap.size + 1) (some ⟨V1.heap.size, 0, none⟩) 1 [(⟨ac, am, ag, ap, ak⟩ : At)] (by rfl) r3 (fun h => by cases h) (by simp; omega) (by simp; omega) hBV3.size ?_
            intro v7 w7 m1 m2 m3
            have hB7 : Below w2.heap.size w2 w7 := hBV3.grown m2 hBV3.size (fun q e => (k1).base_le q e)
            obtain ⟨Am, cm, rfl, _, _⟩ := m1.shape
            refine hK.out _ _ (SSS.out _ hB7) (fun hHeld => ?_)
            clear hK
            rw [List.length_append] at m1 ⊢
            simp only [List.length_cons, List.length_nil, Nat.zero_add] at m1 ⊢
            refine wpAnyH_ready (rs := [6]) (by kernel_rfl) (by simp) ?_
            refine AllReadyH.cons rfl (fun K hK => ?_) ?_
            · go_simp
              refine hK.out _ _ (by assumption) (fun hHeld => ?_)
              clear hK
              refine wpAnyH_done (by kernel_rfl) ?_ _
              go_wp2_with fail
              go_meet
              exact ⟨Am, cm, rfl, m1, hB7⟩
            exact AllReadyH.nil
          exact AllReadyH.nil
        exact AllReadyH.nil
      exact AllReadyH.nil
    refine AllReadyH.cons rfl (fun K hK => ?_) ?_
    · go_simp
      have hBV1 : Below w2.heap.size w2 (V0.alloc (.cells #[.int .i64 ac, .int .i64 am, .int .i64 ag, .int .i64 ap, .int .i64 ak] 47)) := hBV0.alloc hBV0.size _
      refine hK.out _ _ (SSS.out _ hBV1) (fun hHeld => ?_)
      clear hK
      obtain ⟨V1, hV1⟩ : ∃ X, X = V0.alloc (.cells #[.int .i64 ac, .int .i64 am, .int .i64 ag, .int .i64 ap, .int .i64 ak] 47) := ⟨_, rfl⟩
      have HzV1 : Hid (V1.heap.size = V0.heap.size + 1) := Lib.hid (by rw [hV1]; simp)
      have r1 : Reads V1 (V0.heap.size + 1) (some ⟨V0.heap.size, 0, none⟩) 5 At.enc [(⟨ac, am, ag, ap, ak⟩ : At)] := by rw [hV1]; exact reads_one V0 At.enc (⟨ac, am, ag, ap, ak⟩ : At) _ _ rfl 5 V0.heap.size rfl
      rw [← hV1] at hBV1 hHeld ⊢
      clear hV1
      refine wpAnyH_ready (rs := [0]) (by kernel_rfl) (by simp) ?_
      refine AllReadyH.cons rfl (fun K hK => ?_) ?_
      · go_simp
        have hBV2 : Below w2.heap.size w2 (V1.alloc (.cells #[] 47)) := hBV1.alloc hBV1.size _
        refine hK.out _ _ (SSS.out _ hBV2) (fun hHeld => ?_)
        clear hK
        obtain ⟨V2, hV2⟩ : ∃ X, X = V1.alloc (.cells #[] 47) := ⟨_, rfl⟩
        have HzV2 : Hid (V2.heap.size = V1.heap.size + 1) := Lib.hid (by rw [hV2]; simp)
        have r2 : Reads V2 (V0.heap.size + 1) (some ⟨V0.heap.size, 0, none⟩) 5 At.enc [(⟨ac, am, ag, ap, ak⟩ : At)] := by rw [hV2]; exact r1.alloc (by have e1 := HzV1.out; omega) _
        have o2 : Owns V2 w2.heap.size 47 5 At.enc (.slice (some ⟨V1.heap.size, 0, none⟩) 0 0) [] := by rw [hV2]; exact (Owns.lit (w := V1) (e := 47) (ys := ([] : List At)) (base := w2.heap.size) (cs := #[]) At.enc_len rfl hBV1.size (Nat.zero_le _))
        rw [← hV2] at hBV2 hHeld ⊢
        clear hV2
        refine wpAnyH_ready (rs := [2]) (by kernel_rfl) (by simp) ?_
        refine AllReadyH.cons rfl (fun K hK => ?_) ?_
        · refine step_append_reads (en := At.enc) (sz := 5) (by rfl) _ _ _ (by rfl) At.enc_len At.enc_one w2.heap.size 47 i0 _ 40 Try.underlying27 HI.out hz0 hz1 hz2 rfl (by decide) (.slice (some ⟨V1.heap.size, 0, none⟩) 0 0) [] (by rfl) o2 w2.heap.size B b l (by rfl) (HX.out.below hBV2) (fun h => HN0.out.2.2 h) (by simp; omega) (by simp; omega) hBV2.size ?_
          intro v6 V3 k1 k2 k3
          rw [List.nil_append] at k1
          obtain ⟨A6, c6, rfl, _, _⟩ := k1.shape
          have hBV3 : Below w2.heap.size w2 V3 := hBV2.grown k2 hBV2.size (fun q e => o2.base_le q e)
          refine hK.out _ _ (SSS.out _ hBV3) (fun hHeld => ?_)
          clear hK
          have r3 := r2.far k2 (by have e1 := HzV1.out; have e2 := HzV2.out; simp [Value.ownBlock]; omega) (by have e1 := HzV1.out; have e2 := HzV2.out; omega)
          refine wpAnyH_ready (rs := [5]) (by kernel_rfl) (by simp) ?_
          refine AllReadyH.cons rfl (fun K hK => ?_) ?_
          · refine step_append_reads (en := At.enc) (sz := 5) (by rfl) _ _ _ (by rfl) At.enc_len At.enc_one w2.heap.size 47 i0 _ 40 Try.underlying27 HI.out hz0 hz1 hz2 rfl (by decide) (.slice A6 l.length c6) l (by rfl) k1 (V0.heap.size + 1) (some ⟨V0.heap.size, 0, none⟩) 1 [(⟨ac, am, ag, ap, ak⟩ : At)] (by rfl) r3 (fun h => by cases h) (by simp; omega) (by simp; omega) hBV3.size ?_
            intro v7 w7 m1 m2 m3
            have hB7 : Below w2.heap.size w2 w7 := hBV3.grown m2 hBV3.size (fun q e => (k1).base_le q e)
            obtain ⟨Am, cm, rfl, _, _⟩ := m1.shape
            refine hK.out _ _ (SSS.out _ hB7) (fun hHeld => ?_)
            clear hK
            rw [List.length_append] at m1 ⊢
            simp only [List.length_cons, List.length_nil, Nat.zero_add] at m1 ⊢
            refine wpAnyH_ready (rs := [6]) (by kernel_rfl) (by simp) ?_
            refine AllReadyH.cons rfl (fun K hK => ?_) ?_
            · go_simp
              refine hK.out _ _ (by assumption) (fun hHeld => ?_)
              clear hK
              refine wpAnyH_done (by kernel_rfl) ?_ _
              go_wp2_with fail
              go_meet
              exact ⟨Am, cm, rfl, m1, hB7⟩
            exact AllReadyH.nil
          exact AllReadyH.nil
        exact AllReadyH.nil
      exact AllReadyH.nil
    exact AllReadyH.nil
  case rest =>
    obtain ⟨w3, hwc⟩ : ∃ X, X = wc := ⟨_, rfl⟩
    subst hwc
    obtain ⟨Am, cm, rfl, ho3, hb3⟩ := hcut
    clear SSS HX hB2
    have S_w3 : Below w2.heap.size w2 w3 := hb3
    have HP := Lib.hid (HP.out.step S_w3)
    have BA := Lib.hid (BA.out.trans (S_w3.mono BA.out.size))
    have HA := Lib.hid (HA.out.step S_w3)
    have z_w3 := S_w3.size
    have HMr : Hid (SlR w3 everyT 5 At.enc ⟨Am, l.length + 1, cm⟩ (l ++ [(⟨ac, am, ag, ap, ak⟩ : At)])) := Lib.hid (everyT.of (SlR.of_owns At.enc_len ho3))
    clear ho3 hb3
    clear p0 p1 p2 p3 p4 p5 p6 pz
    clear x0 x1 x2 x3 x4 xz
    by_cases g1 : askedE p l = 0
    rotate_left
    · obtain ⟨E1, hE1⟩ : ∃ E, E = askedE p l := ⟨_, rfl⟩
      obtain ⟨E2, hE2⟩ : ∃ E, E = askedE p (l ++ [(⟨ac, am, ag, ap, ak⟩ : At)]) := ⟨_, rfl⟩
      rw [← hE1] at g1
      have f1 : (E1 == 0) = false := by simpa using g1
      have f2 : (E1 != 0) = true := by simpa using g1
      have HE1 := Lib.hid hE1
      have HE2 := Lib.hid hE2
      clear hE1 hE2 g1
      have p0 := HP.out.1 0 _ rfl
      have p1 := HP.out.1 1 _ rfl
      have p2 := HP.out.1 2 _ rfl
      have p3 := HP.out.1 3 _ rfl
      have p4 := HP.out.1 4 _ rfl
      have p5 := HP.out.1 5 _ rfl
      have p6 := HP.out.1 6 _ rfl
      have pz := HP.out.2.2
      have x0 := HA.out.1 0 _ rfl
      have x1 := HA.out.1 1 _ rfl
      have x2 := HA.out.1 2 _ rfl
      have x3 := HA.out.1 3 _ rfl
      have x4 := HA.out.1 4 _ rfl
      have xz := HA.out.2.2
      go_wp2_with fail
      clear p0 p1 p2 p3 p4 p5 p6 pz
      clear x0 x1 x2 x3 x4 xz
      refine (hAG.out hll _ BA.out).mono ?_
      rw [← HE1.out]
      rintro e w4 ⟨⟨u1, c1, M1, rfl⟩, hbw4⟩
      have S_w4 : Below w3.heap.size w3 w4 := hbw4
      have HP := Lib.hid (HP.out.step S_w4)
      have BA := Lib.hid (BA.out.trans (S_w4.mono BA.out.size))
      have HA := Lib.hid (HA.out.step S_w4)
      have HMr := Lib.hid (HMr.out.step S_w4)
      have z_w4 := S_w4.size
      have p0 := HP.out.1 0 _ rfl
      have p1 := HP.out.1 1 _ rfl
      have p2 := HP.out.1 2 _ rfl
      have p3 := HP.out.1 3 _ rfl
      have p4 := HP.out.1 4 _ rfl
      have p5 := HP.out.1 5 _ rfl
      have p6 := HP.out.1 6 _ rfl
      have pz := HP.out.2.2
      have x0 := HA.out.1 0 _ rfl
      have x1 := HA.out.1 1 _ rfl
      have x2 := HA.out.1 2 _ rfl
      have x3 := HA.out.1 3 _ rfl
      have x4 := HA.out.1 4 _ rfl
      have xz := HA.out.2.2
      go_upto_region 7 with fail
      clear p0 p1 p2 p3 p4 p5 p6 pz
      clear x0 x1 x2 x3 x4 xz
      have ow5_HP := HP.out.2.2
      have ow5_HA := HA.out.2.2
      obtain ⟨w5, hw5⟩ : ∃ X, X = w4.alloc (.cells #[.slice u1.a u1.n u1.c, .int .i64 M1, .slice c1.a c1.n c1.c] 39) := ⟨_, rfl⟩
      have hbw5 : Below w4.heap.size w4 w5 := by rw [hw5]; exact (Below.refl _ _).alloc (Nat.le_refl _) _
      have HY := Lib.hid (show Bx w5 w4.heap.size [.slice u1.a u1.n u1.c, .int .i64 M1, .slice c1.a c1.n c1.c] by rw [hw5]; exact Bx.new ..)
      have zw5 : w4.heap.size < w5.heap.size := HY.out.2.2
      rw [← hw5]
      have S_w5 : Below w4.heap.size w4 w5 := hbw5
      have HP := Lib.hid (HP.out.step S_w5)
      have BA := Lib.hid (BA.out.trans (S_w5.mono BA.out.size))
      have HA := Lib.hid (HA.out.step S_w5)
      have HMr := Lib.hid (HMr.out.step S_w5)
      have z_w5 := S_w5.size
      obtain ⟨Bw5, hBw5⟩ : ∃ x, x = w4.heap.size := ⟨_, rfl⟩
      rw [← hBw5] at HY zw5  ow5_HP ow5_HA ⊢
      clear hw5 hBw5
      have p0 := HP.out.1 0 _ rfl
      have p1 := HP.out.1 1 _ rfl
      have p2 := HP.out.1 2 _ rfl
      have p3 := HP.out.1 3 _ rfl
      have p4 := HP.out.1 4 _ rfl
      have p5 := HP.out.1 5 _ rfl
      have p6 := HP.out.1 6 _ rfl
      have pz := HP.out.2.2
      have x0 := HA.out.1 0 _ rfl
      have x1 := HA.out.1 1 _ rfl
      have x2 := HA.out.1 2 _ rfl
      have x3 := HA.out.1 3 _ rfl
      have x4 := HA.out.1 4 _ rfl
      have xz := HA.out.2.2
      have y0 := HY.out.1 0 _ rfl
      have y1 := HY.out.1 1 _ rfl
      have y2 := HY.out.1 2 _ rfl
      have yz := HY.out.2.2
      go_wp2_with fail
      clear p0 p1 p2 p3 p4 p5 p6 pz
      clear x0 x1 x2 x3 x4 xz
      clear y0 y1 y2 yz
      refine (hBG.out Am cm _ BA.out HMr.out hll).mono ?_
      rw [← HE2.out]
      rintro e w6 ⟨⟨u2, c2, M2, rfl⟩, hbw6⟩
      have S_w6 : Below w5.heap.size w5 w6 := hbw6
      have HP := Lib.hid (HP.out.step S_w6)
      have BA := Lib.hid (BA.out.trans (S_w6.mono BA.out.size))
      have HA := Lib.hid (HA.out.step S_w6)
      have HMr := Lib.hid (HMr.out.step S_w6)
      have HY := Lib.hid (HY.out.step S_w6)
      have z_w6 := S_w6.size
      have p0 := HP.out.1 0 _ rfl
      have p1 := HP.out.1 1 _ rfl
      have p2 := HP.out.1 2 _ rfl
      have p3 := HP.out.1 3 _ rfl
      have p4 := HP.out.1 4 _ rfl
      have p5 := HP.out.1 5 _ rfl
      have p6 := HP.out.1 6 _ rfl
      have pz := HP.out.2.2
      have x0 := HA.out.1 0 _ rfl
      have x1 := HA.out.1 1 _ rfl
      have x2 := HA.out.1 2 _ rfl
      have x3 := HA.out.1 3 _ rfl
      have x4 := HA.out.1 4 _ rfl
      have xz := HA.out.2.2
      have y0 := HY.out.1 0 _ rfl
      have y1 := HY.out.1 1 _ rfl
      have y2 := HY.out.1 2 _ rfl
      have yz := HY.out.2.2
      go_upto_region 8 with fail
      clear p0 p1 p2 p3 p4 p5 p6 pz
      clear x0 x1 x2 x3 x4 xz
      clear y0 y1 y2 yz
      have ow7_HP := HP.out.2.2
      have ow7_HA := HA.out.2.2
      have ow7_HY := HY.out.2.2
      obtain ⟨w7, hw7⟩ : ∃ X, X = w6.alloc (.cells #[.slice u2.a u2.n u2.c, .int .i64 M2, .slice c2.a c2.n c2.c] 39) := ⟨_, rfl⟩
      have hbw7 : Below w6.heap.size w6 w7 := by rw [hw7]; exact (Below.refl _ _).alloc (Nat.le_refl _) _
      have HZ := Lib.hid (show Bx w7 w6.heap.size [.slice u2.a u2.n u2.c, .int .i64 M2, .slice c2.a c2.n c2.c] by rw [hw7]; exact Bx.new ..)
      have zw7 : w6.heap.size < w7.heap.size := HZ.out.2.2
      rw [← hw7]
      have S_w7 : Below w6.heap.size w6 w7 := hbw7
      have HP := Lib.hid (HP.out.step S_w7)
      have BA := Lib.hid (BA.out.trans (S_w7.mono BA.out.size))
      have HA := Lib.hid (HA.out.step S_w7)
      have HMr := Lib.hid (HMr.out.step S_w7)
      have HY := Lib.hid (HY.out.step S_w7)
      have z_w7 := S_w7.size
      obtain ⟨Bw7, hBw7⟩ : ∃ x, x = w6.heap.size := ⟨_, rfl⟩
      rw [← hBw7] at HZ zw7  ow7_HP ow7_HA ow7_HY ⊢
      clear hw7 hBw7
      have p0 := HP.out.1 0 _ rfl
      have p1 := HP.out.1 1 _ rfl
      have p2 := HP.out.1 2 _ rfl
      have p3 := HP.out.1 3 _ rfl
      have p4 := HP.out.1 4 _ rfl
      have p5 := HP.out.1 5 _ rfl
      have p6 := HP.out.1 6 _ rfl
      have pz := HP.out.2.2
      have x0 := HA.out.1 0 _ rfl
      have x1 := HA.out.1 1 _ rfl
      have x2 := HA.out.1 2 _ rfl
      have x3 := HA.out.1 3 _ rfl
      have x4 := HA.out.1 4 _ rfl
      have xz := HA.out.2.2
      have y0 := HY.out.1 0 _ rfl
      have y1 := HY.out.1 1 _ rfl
      have y2 := HY.out.1 2 _ rfl
      have yz := HY.out.2.2
      have t0 := HZ.out.1 0 _ rfl
      have t1 := HZ.out.1 1 _ rfl
      have t2 := HZ.out.1 2 _ rfl
      have tz := HZ.out.2.2
      go_wp2_with fail
      go_ret
      exact ⟨rfl, BA.out⟩
    by_cases g2 : askedE p (l ++ [(⟨ac, am, ag, ap, ak⟩ : At)]) = 0
    rotate_left
    · obtain ⟨E2, hE2⟩ : ∃ E, E = askedE p (l ++ [(⟨ac, am, ag, ap, ak⟩ : At)]) := ⟨_, rfl⟩
      rw [← hE2] at g2
      have f1 : (E2 == 0) = false := by simpa using g2
      have f2 : (E2 != 0) = true := by simpa using g2
      have HG1 := Lib.hid g1
      have HE2 := Lib.hid hE2
      clear hE2 g1 g2
      have p0 := HP.out.1 0 _ rfl
      have p1 := HP.out.1 1 _ rfl
      have p2 := HP.out.1 2 _ rfl
      have p3 := HP.out.1 3 _ rfl
      have p4 := HP.out.1 4 _ rfl
      have p5 := HP.out.1 5 _ rfl
      have p6 := HP.out.1 6 _ rfl
      have pz := HP.out.2.2
      have x0 := HA.out.1 0 _ rfl
      have x1 := HA.out.1 1 _ rfl
      have x2 := HA.out.1 2 _ rfl
      have x3 := HA.out.1 3 _ rfl
      have x4 := HA.out.1 4 _ rfl
      have xz := HA.out.2.2
      go_wp2_with fail
      clear p0 p1 p2 p3 p4 p5 p6 pz
      clear x0 x1 x2 x3 x4 xz
      refine (hAG.out hll _ BA.out).mono ?_
      rw [HG1.out]
      rintro e w4 ⟨⟨u1, c1, M1, rfl⟩, hbw4⟩
      have S_w4 : Below w3.heap.size w3 w4 := hbw4
      have HP := Lib.hid (HP.out.step S_w4)
      have BA := Lib.hid (BA.out.trans (S_w4.mono BA.out.size))
      have HA := Lib.hid (HA.out.step S_w4)
      have HMr := Lib.hid (HMr.out.step S_w4)
      have z_w4 := S_w4.size
      have p0 := HP.out.1 0 _ rfl
      have p1 := HP.out.1 1 _ rfl
      have p2 := HP.out.1 2 _ rfl
      have p3 := HP.out.1 3 _ rfl
      have p4 := HP.out.1 4 _ rfl
      have p5 := HP.out.1 5 _ rfl
      have p6 := HP.out.1 6 _ rfl
      have pz := HP.out.2.2
      have x0 := HA.out.1 0 _ rfl
      have x1 := HA.out.1 1 _ rfl
      have x2 := HA.out.1 2 _ rfl
      have x3 := HA.out.1 3 _ rfl
      have x4 := HA.out.1 4 _ rfl
      have xz := HA.out.2.2
      go_upto_region 7 with fail
      clear p0 p1 p2 p3 p4 p5 p6 pz
      clear x0 x1 x2 x3 x4 xz
      have ow5_HP := HP.out.2.2
      have ow5_HA := HA.out.2.2
      obtain ⟨w5, hw5⟩ : ∃ X, X = w4.alloc (.cells #[.slice u1.a u1.n u1.c, .int .i64 M1, .slice c1.a c1.n c1.c] 39) := ⟨_, rfl⟩
      have hbw5 : Below w4.heap.size w4 w5 := by rw [hw5]; exact (Below.refl _ _).alloc (Nat.le_refl _) _
      have HY := Lib.hid (show Bx w5 w4.heap.size [.slice u1.a u1.n u1.c, .int .i64 M1, .slice c1.a c1.n c1.c] by rw [hw5]; exact Bx.new ..)
      have zw5 : w4.heap.size < w5.heap.size := HY.out.2.2
      rw [← hw5]
      have S_w5 : Below w4.heap.size w4 w5 := hbw5
      have HP := Lib.hid (HP.out.step S_w5)
      have BA := Lib.hid (BA.out.trans (S_w5.mono BA.out.size))
      have HA := Lib.hid (HA.out.step S_w5)
      have HMr := Lib.hid (HMr.out.step S_w5)
      have z_w5 := S_w5.size
      obtain ⟨Bw5, hBw5⟩ : ∃ x, x = w4.heap.size := ⟨_, rfl⟩
      rw [← hBw5] at HY zw5  ow5_HP ow5_HA ⊢
      clear hw5 hBw5
      have p0 := HP.out.1 0 _ rfl
      have p1 := HP.out.1 1 _ rfl
      have p2 := HP.out.1 2 _ rfl
      have p3 := HP.out.1 3 _ rfl
      have p4 := HP.out.1 4 _ rfl
      have p5 := HP.out.1 5 _ rfl
      have p6 := HP.out.1 6 _ rfl
      have pz := HP.out.2.2
      have x0 := HA.out.1 0 _ rfl
      have x1 := HA.out.1 1 _ rfl
      have x2 := HA.out.1 2 _ rfl
      have x3 := HA.out.1 3 _ rfl
      have x4 := HA.out.1 4 _ rfl
      have xz := HA.out.2.2
      have y0 := HY.out.1 0 _ rfl
      have y1 := HY.out.1 1 _ rfl
      have y2 := HY.out.1 2 _ rfl
      have yz := HY.out.2.2
      go_wp2_with fail
      clear p0 p1 p2 p3 p4 p5 p6 pz
      clear x0 x1 x2 x3 x4 xz
      clear y0 y1 y2 yz
      refine (hBG.out Am cm _ BA.out HMr.out hll).mono ?_
      rw [← HE2.out]
      rintro e w6 ⟨⟨u2, c2, M2, rfl⟩, hbw6⟩
      have S_w6 : Below w5.heap.size w5 w6 := hbw6
      have HP := Lib.hid (HP.out.step S_w6)
      have BA := Lib.hid (BA.out.trans (S_w6.mono BA.out.size))
      have HA := Lib.hid (HA.out.step S_w6)
      have HMr := Lib.hid (HMr.out.step S_w6)
      have HY := Lib.hid (HY.out.step S_w6)
      have z_w6 := S_w6.size
      have p0 := HP.out.1 0 _ rfl
      have p1 := HP.out.1 1 _ rfl
      have p2 := HP.out.1 2 _ rfl
      have p3 := HP.out.1 3 _ rfl
      have p4 := HP.out.1 4 _ rfl
      have p5 := HP.out.1 5 _ rfl
      have p6 := HP.out.1 6 _ rfl
      have pz := HP.out.2.2
      have x0 := HA.out.1 0 _ rfl
      have x1 := HA.out.1 1 _ rfl
      have x2 := HA.out.1 2 _ rfl
      have x3 := HA.out.1 3 _ rfl
      have x4 := HA.out.1 4 _ rfl
      have xz := HA.out.2.2
      have y0 := HY.out.1 0 _ rfl
      have y1 := HY.out.1 1 _ rfl
      have y2 := HY.out.1 2 _ rfl
      have yz := HY.out.2.2
      go_upto_region 8 with fail
      clear p0 p1 p2 p3 p4 p5 p6 pz
      clear x0 x1 x2 x3 x4 xz
      clear y0 y1 y2 yz
      have ow7_HP := HP.out.2.2
      have ow7_HA := HA.out.2.2
      have ow7_HY := HY.out.2.2
      obtain ⟨w7, hw7⟩ : ∃ X, X = w6.alloc (.cells #[.slice u2.a u2.n u2.c, .int .i64 M2, .slice c2.a c2.n c2.c] 39) := ⟨_, rfl⟩
      have hbw7 : Below w6.heap.size w6 w7 := by rw [hw7]; exact (Below.refl _ _).alloc (Nat.le_refl _) _
      have HZ := Lib.hid (show Bx w7 w6.heap.size [.slice u2.a u2.n u2.c, .int .i64 M2, .slice c2.a c2.n c2.c] by rw [hw7]; exact Bx.new ..)
      have zw7 : w6.heap.size < w7.heap.size := HZ.out.2.2
      rw [← hw7]
      have S_w7 : Below w6.heap.size w6 w7 := hbw7
      have HP := Lib.hid (HP.out.step S_w7)
      have BA := Lib.hid (BA.out.trans (S_w7.mono BA.out.size))
      have HA := Lib.hid (HA.out.step S_w7)
      have HMr := Lib.hid (HMr.out.step S_w7)
      have HY := Lib.hid (HY.out.step S_w7)
      have z_w7 := S_w7.size
      obtain ⟨Bw7, hBw7⟩ : ∃ x, x = w6.heap.size := ⟨_, rfl⟩
      rw [← hBw7] at HZ zw7  ow7_HP ow7_HA ow7_HY ⊢
      clear hw7 hBw7
      have p0 := HP.out.1 0 _ rfl
      have p1 := HP.out.1 1 _ rfl
      have p2 := HP.out.1 2 _ rfl
      have p3 := HP.out.1 3 _ rfl
      have p4 := HP.out.1 4 _ rfl
      have p5 := HP.out.1 5 _ rfl
      have p6 := HP.out.1 6 _ rfl
      have pz := HP.out.2.2
      have x0 := HA.out.1 0 _ rfl
      have x1 := HA.out.1 1 _ rfl
      have x2 := HA.out.1 2 _ rfl
      have x3 := HA.out.1 3 _ rfl
      have x4 := HA.out.1 4 _ rfl
      have xz := HA.out.2.2
      have y0 := HY.out.1 0 _ rfl
      have y1 := HY.out.1 1 _ rfl
      have y2 := HY.out.1 2 _ rfl
      have yz := HY.out.2.2
      have t0 := HZ.out.1 0 _ rfl
      have t1 := HZ.out.1 1 _ rfl
      have t2 := HZ.out.1 2 _ rfl
      have tz := HZ.out.2.2
      go_wp2_with fail
      go_ret
      exact ⟨rfl, BA.out⟩
    have h0 := g1
    have p0 := HP.out.1 0 _ rfl
    have p1 := HP.out.1 1 _ rfl
    have p2 := HP.out.1 2 _ rfl
    have p3 := HP.out.1 3 _ rfl
    have p4 := HP.out.1 4 _ rfl
    have p5 := HP.out.1 5 _ rfl
    have p6 := HP.out.1 6 _ rfl
    have pz := HP.out.2.2
    have x0 := HA.out.1 0 _ rfl
    have x1 := HA.out.1 1 _ rfl
    have x2 := HA.out.1 2 _ rfl
    have x3 := HA.out.1 3 _ rfl
    have x4 := HA.out.1 4 _ rfl
    have xz := HA.out.2.2
    go_wp2_with fail
    clear p0 p1 p2 p3 p4 p5 p6 pz
    clear x0 x1 x2 x3 x4 xz
    refine (hAO.out h0 hll _ BA.out).mono ?_
    rintro e w4 ⟨⟨us, M, cs, D, C, d, cc, rfl, hUOw4, hAUw4, hMw4, hulw4, husw4, hcsw4⟩, hbw4⟩
    have S_w4 : Below w3.heap.size w3 w4 := hbw4
    have HP := Lib.hid (HP.out.step S_w4)
    have BA := Lib.hid (BA.out.trans (S_w4.mono BA.out.size))
    have HA := Lib.hid (HA.out.step S_w4)
    have HMr := Lib.hid (HMr.out.step S_w4)
    have z_w4 := S_w4.size
    have HUw4 := Lib.hid (husw4.small (Q := fun x => x < w4.heap.size) (fun _ h => h))
    have HCw4 := Lib.hid (hcsw4.small (Q := fun x => x < w4.heap.size) (fun _ h => h))
    have HUOw4 := Lib.hid hUOw4
    have HAUw4 := Lib.hid hAUw4
    have HMw4 := Lib.hid hMw4
    clear husw4 hcsw4 hUOw4 hAUw4 hMw4
    have p0 := HP.out.1 0 _ rfl
    have p1 := HP.out.1 1 _ rfl
    have p2 := HP.out.1 2 _ rfl
    have p3 := HP.out.1 3 _ rfl
    have p4 := HP.out.1 4 _ rfl
    have p5 := HP.out.1 5 _ rfl
    have p6 := HP.out.1 6 _ rfl
    have pz := HP.out.2.2
    have x0 := HA.out.1 0 _ rfl
    have x1 := HA.out.1 1 _ rfl
    have x2 := HA.out.1 2 _ rfl
    have x3 := HA.out.1 3 _ rfl
    have x4 := HA.out.1 4 _ rfl
    have xz := HA.out.2.2
    go_upto_region 7 with fail
    clear p0 p1 p2 p3 p4 p5 p6 pz
    clear x0 x1 x2 x3 x4 xz
    have ow5_HP := HP.out.2.2
    have ow5_HA := HA.out.2.2
    obtain ⟨w5, hw5⟩ : ∃ X, X = w4.alloc (.cells #[.slice D us.length d, .int .i64 M, .slice C cs.length cc] 39) := ⟨_, rfl⟩
    have hbw5 : Below w4.heap.size w4 w5 := by rw [hw5]; exact (Below.refl _ _).alloc (Nat.le_refl _) _
    have HY := Lib.hid (show Bx w5 w4.heap.size [.slice D us.length d, .int .i64 M, .slice C cs.length cc] by rw [hw5]; exact Bx.new ..)
    have zw5 : w4.heap.size < w5.heap.size := HY.out.2.2
    rw [← hw5]
    have S_w5 : Below w4.heap.size w4 w5 := hbw5
    have HP := Lib.hid (HP.out.step S_w5)
    have BA := Lib.hid (BA.out.trans (S_w5.mono BA.out.size))
    have HA := Lib.hid (HA.out.step S_w5)
    have HMr := Lib.hid (HMr.out.step S_w5)
    have HUw4 := Lib.hid (HUw4.out.step S_w5)
    have HCw4 := Lib.hid (HCw4.out.step S_w5)
    have z_w5 := S_w5.size
    obtain ⟨Bw5, hBw5⟩ : ∃ x, x = w4.heap.size := ⟨_, rfl⟩
    rw [← hBw5] at HY zw5 HUw4 HCw4 ow5_HP ow5_HA ⊢
    clear hw5 hBw5
    have hBx := Lib.hid (hBO.out g2 Am cm _ BA.out HMr.out hll)
    have p0 := HP.out.1 0 _ rfl
    have p1 := HP.out.1 1 _ rfl
    have p2 := HP.out.1 2 _ rfl
    have p3 := HP.out.1 3 _ rfl
    have p4 := HP.out.1 4 _ rfl
    have p5 := HP.out.1 5 _ rfl
    have p6 := HP.out.1 6 _ rfl
    have pz := HP.out.2.2
    have x0 := HA.out.1 0 _ rfl
    have x1 := HA.out.1 1 _ rfl
    have x2 := HA.out.1 2 _ rfl
    have x3 := HA.out.1 3 _ rfl
    have x4 := HA.out.1 4 _ rfl
    have xz := HA.out.2.2
    have y0 := HY.out.1 0 _ rfl
    have y1 := HY.out.1 1 _ rfl
    have y2 := HY.out.1 2 _ rfl
    have yz := HY.out.2.2
    go_wp2_with fail
    clear p0 p1 p2 p3 p4 p5 p6 pz
    clear x0 x1 x2 x3 x4 xz
    clear y0 y1 y2 yz
    refine hBx.out.mono ?_
    rintro e w6 ⟨⟨us2, M2, cs2, D2, C2, d2, cc2, rfl, hUO2, hAU2, hM2, hul2, hus2, hcs2⟩, hbw6⟩
    have S_w6 : Below w5.heap.size w5 w6 := hbw6
    have HP := Lib.hid (HP.out.step S_w6)
    have BA := Lib.hid (BA.out.trans (S_w6.mono BA.out.size))
    have HA := Lib.hid (HA.out.step S_w6)
    have HMr := Lib.hid (HMr.out.step S_w6)
    have HUw4 := Lib.hid (HUw4.out.step S_w6)
    have HCw4 := Lib.hid (HCw4.out.step S_w6)
    have HY := Lib.hid (HY.out.step S_w6)
    have z_w6 := S_w6.size
    obtain ⟨r1, r2, r3⟩ := more_law HAUw4.out hAU2
    obtain ⟨r4, r5⟩ := audit_bd HAUw4.out
    obtain ⟨r6, r7⟩ := audit_bd hAU2
    have HR3 := Lib.hid r3
    have HM2 := Lib.hid hM2
    obtain ⟨gg, gga⟩ := asked_zero g2
    obtain ⟨_, _, hu1, hu4⟩ := good_credits gg
    have gx := good_at (gga ⟨ac, am, ag, ap, ak⟩ (by simp))
    have gx1 : 0 ≤ ak := gx.2.2.1
    have gx2 : ak ≤ 60 := gx.2.2.2.1
    obtain ⟨gm0, gm1⟩ := mul_bd gx1 gx2 hu1 hu4
    simp only at r2
    have q1 : decide (M2 ≤ M) = true := by simpa using r1
    have q2 : decide (M - M2 ≤ ak * p.uses) = true := by simpa using r2
    clear hUO2 hAU2 hM2 hus2 hcs2 r3 gga gg gx g1 g2 h0
    have p0 := HP.out.1 0 _ rfl
    have p1 := HP.out.1 1 _ rfl
    have p2 := HP.out.1 2 _ rfl
    have p3 := HP.out.1 3 _ rfl
    have p4 := HP.out.1 4 _ rfl
    have p5 := HP.out.1 5 _ rfl
    have p6 := HP.out.1 6 _ rfl
    have pz := HP.out.2.2
    have x0 := HA.out.1 0 _ rfl
    have x1 := HA.out.1 1 _ rfl
    have x2 := HA.out.1 2 _ rfl
    have x3 := HA.out.1 3 _ rfl
    have x4 := HA.out.1 4 _ rfl
    have xz := HA.out.2.2
    have y0 := HY.out.1 0 _ rfl
    have y1 := HY.out.1 1 _ rfl
    have y2 := HY.out.1 2 _ rfl
    have yz := HY.out.2.2
    go_upto_region 8 with fail
    clear p0 p1 p2 p3 p4 p5 p6 pz
    clear x0 x1 x2 x3 x4 xz
    clear y0 y1 y2 yz
    have ow7_HP := HP.out.2.2
    have ow7_HA := HA.out.2.2
    have ow7_HY := HY.out.2.2
    obtain ⟨w7, hw7⟩ : ∃ X, X = w6.alloc (.cells #[.slice D2 us2.length d2, .int .i64 M2, .slice C2 cs2.length cc2] 39) := ⟨_, rfl⟩
    have hbw7 : Below w6.heap.size w6 w7 := by rw [hw7]; exact (Below.refl _ _).alloc (Nat.le_refl _) _
    have HZ := Lib.hid (show Bx w7 w6.heap.size [.slice D2 us2.length d2, .int .i64 M2, .slice C2 cs2.length cc2] by rw [hw7]; exact Bx.new ..)
    have zw7 : w6.heap.size < w7.heap.size := HZ.out.2.2
    rw [← hw7]
    have S_w7 : Below w6.heap.size w6 w7 := hbw7
    have HP := Lib.hid (HP.out.step S_w7)
    have BA := Lib.hid (BA.out.trans (S_w7.mono BA.out.size))
    have HA := Lib.hid (HA.out.step S_w7)
    have HMr := Lib.hid (HMr.out.step S_w7)
    have HUw4 := Lib.hid (HUw4.out.step S_w7)
    have HCw4 := Lib.hid (HCw4.out.step S_w7)
    have HY := Lib.hid (HY.out.step S_w7)
    have z_w7 := S_w7.size
    obtain ⟨Bw7, hBw7⟩ : ∃ x, x = w6.heap.size := ⟨_, rfl⟩
    rw [← hBw7] at HZ zw7  ow7_HP ow7_HA ow7_HY ⊢
    clear hw7 hBw7
    have hAx := Lib.hid (hAl.out Am cm us D d _ BA.out HMr.out (everyT.of HUw4.out) hulw4 hll)
    rw [HR3.out] at hAx
    have p0 := HP.out.1 0 _ rfl
    have p1 := HP.out.1 1 _ rfl
    have p2 := HP.out.1 2 _ rfl
    have p3 := HP.out.1 3 _ rfl
    have p4 := HP.out.1 4 _ rfl
    have p5 := HP.out.1 5 _ rfl
    have p6 := HP.out.1 6 _ rfl
    have pz := HP.out.2.2
    have x0 := HA.out.1 0 _ rfl
    have x1 := HA.out.1 1 _ rfl
    have x2 := HA.out.1 2 _ rfl
    have x3 := HA.out.1 3 _ rfl
    have x4 := HA.out.1 4 _ rfl
    have xz := HA.out.2.2
    have y0 := HY.out.1 0 _ rfl
    have y1 := HY.out.1 1 _ rfl
    have y2 := HY.out.1 2 _ rfl
    have yz := HY.out.2.2
    have t0 := HZ.out.1 0 _ rfl
    have t1 := HZ.out.1 1 _ rfl
    have t2 := HZ.out.1 2 _ rfl
    have tz := HZ.out.2.2
    go_wp2_with fail
    clear p0 p1 p2 p3 p4 p5 p6 pz
    clear x0 x1 x2 x3 x4 xz
    clear y0 y1 y2 yz
    clear t0 t1 t2 tz
    refine hAx.out.mono ?_
    rintro e w8 ⟨rfl, hbw8⟩
    have S_w8 : Below w7.heap.size w7 w8 := hbw8
    have HP := Lib.hid (HP.out.step S_w8)
    have BA := Lib.hid (BA.out.trans (S_w8.mono BA.out.size))
    have HA := Lib.hid (HA.out.step S_w8)
    have HMr := Lib.hid (HMr.out.step S_w8)
    have HUw4 := Lib.hid (HUw4.out.step S_w8)
    have HCw4 := Lib.hid (HCw4.out.step S_w8)
    have HY := Lib.hid (HY.out.step S_w8)
    have HZ := Lib.hid (HZ.out.step S_w8)
    have z_w8 := S_w8.size
    have p0 := HP.out.1 0 _ rfl
    have p1 := HP.out.1 1 _ rfl
    have p2 := HP.out.1 2 _ rfl
    have p3 := HP.out.1 3 _ rfl
    have p4 := HP.out.1 4 _ rfl
    have p5 := HP.out.1 5 _ rfl
    have p6 := HP.out.1 6 _ rfl
    have pz := HP.out.2.2
    have x0 := HA.out.1 0 _ rfl
    have x1 := HA.out.1 1 _ rfl
    have x2 := HA.out.1 2 _ rfl
    have x3 := HA.out.1 3 _ rfl
    have x4 := HA.out.1 4 _ rfl
    have xz := HA.out.2.2
    have y0 := HY.out.1 0 _ rfl
    have y1 := HY.out.1 1 _ rfl
    have y2 := HY.out.1 2 _ rfl
    have yz := HY.out.2.2
    have t0 := HZ.out.1 0 _ rfl
    have t1 := HZ.out.1 1 _ rfl
    have t2 := HZ.out.1 2 _ rfl
    have tz := HZ.out.2.2
    go_wp2_with fail
    go_ret
    exact ⟨rfl, BA.out⟩
theorem ProofMore_any {w : World} (x : Pg × Sl) (hx : Rqs w everyT x.2 x.1.reqs ∧ x.1.mean.i64) (l : List At) (B : Option Addr) (b : Nat) (h1 : Reads w w.heap.size B 5 At.enc l) (q1 : ∀ y ∈ l, y.ok) (c1 : l.length ≤ b) (m1 : b ≤ maxLen) (n1 : B = none → b = 0) (y : At) (hy : y.ok) :
    Calls Try.prog 9 #[pgV x.1 x.2, .slice B l.length b, y.v] w fun e w' => e = .returned (.bool true) ∧ Below w.heap.size w w' :=
  ProofMore_walk x.1 x.2 l B b y.course y.term y.grade y.campus y.credits w hx.1 hx.2 (slr_of h1 c1 m1 n1)
end Go.Proofs.Ytgimpbcdgfkdmaa
