/- JournalSteps (printed by gen_jouL7.py) -/
import Derived.Test.YtgbkhmoplocmkaaJouLF
import Derived.Test.YtgbkhmoplocmkaaJouTU
import Derived.Test.YtgbkhmoplocmkaaJouL
import Derived.Test.YtgbkhmoplocmkaaJouM
import Derived.Test.YtgbkhmoplocmkaaJouO
import Derived.Test.YtgbkhmoplocmkaaJouS
import Derived.Test.YtgbkhmoplocmkaaRowB
import Derived.Test.YtgbkhmoplocmkaaDskO
import Derived.BigQuiet
import Derived.OpenShut
import Derived.Deep.RegionHeld3
import Derived.Deep.DeepCutAuto
namespace Go.Proofs.Ytgbkhmoplocmkaa
open Go.RowKit Go.Shelf
set_option linter.unusedSimpArgs false
set_option linter.unusedVariables false
set_option maxRecDepth 20000

theorem step_append_guarded {α : Type} {P : Program} {w : World} {en : α → List Value} {sz : Nat} {ops : Array Oper} {o : Oper} {a : Act} {K : Act → World → Prop} {Q : Exit → Act → World → Prop} {E : Prop} (hw : Region.wanted o (yielded ops a.tmps) = true) (s x : Operand) (t : TypeId)
    (ho : o.op = .call { callee := .builtin .append, args := #[s, x], argTypes := #[t, t] }) (hen : ∀ y, (en y).length = sz) (h1 : ∀ y, ∀ u ∈ en y, u.oneCell' = true)
    (base : Nat) (e : TypeId) (i : TypeInfo) (z : Value) (bytes : Nat) (ht : P.underlying t = some (.slice e)) (hi : P.info? e = some i) (hz : i.zero = some z)
    (hsize : i.size = sz) (hby : i.bytes = bytes) (hzs : z.cells.size = sz) (hsz : 0 < sz)
    (v : Value) (ys : List α) (hs : a.eval s = v) (hown : Owns w base e sz en v ys) (B : Nat) (A : Option Addr) (c : Nat) (xs : List α) (hx : a.eval x = .slice A xs.length c) (hr : Reads w B A sz en xs) (hnil : A = none → c = 0)
    (h63 : ys.length + xs.length ≤ maxLen) (hbytes : (ys.length + xs.length) * bytes ≤ 140737488355328) (hbase : base ≤ w.heap.size)
    (h : ∀ v' w', Owns w' base e sz en v' (ys ++ xs) → w.grownBy w' v.ownBlock → (v'.ownBlock = v.ownBlock ∨ v'.ownBlock = some w.heap.size) → K (a.put o.dst v') w') :
    if Region.wanted o (yielded ops a.tmps) = true then Oper.wp P o a w K Q else E := by
  rw [if_pos hw]
  obtain ⟨v', w', hrun, h2, h3, h4, h5⟩ := run_append_reads (P := P) w hen h1 base t o.type e i z bytes ht hi hz hsize hby hzs hsz v ys hown B A c xs hr hnil h63 hbytes hbase
  unfold Oper.wp execOp
  simp only [ho, resolve, invoke, builtin, Sem.run_bind, Sem.run_pure, Result.andThen_ok, List.map_toArray, List.map_cons, List.map_nil, hs, hx, hrun]
  exact h _ _ h2 h3 h4
theorem HS.append {W : World} {P : Nat → Prop} {vs us : List Sl} {ss ts : List (List Int)} (h : HS W P vs ss) (h2 : HS W P us ts) : HS W P (vs ++ us) (ss ++ ts) := by
  refine ⟨by simp [h.1, h2.1], fun i y cs hy hc => ?_⟩
  by_cases hi : i < vs.length
  · rw [List.getElem?_append_left hi] at hy
    rw [List.getElem?_append_left (by have := h.1; omega)] at hc
    exact h.2 i y cs hy hc
  · rw [List.getElem?_append_right (by omega)] at hy
    rw [List.getElem?_append_right (by have := h.1; omega)] at hc
    have e := h.1
    rw [← e] at hc
    exact h2.2 _ y cs hy hc

theorem merge {T G : Prop} (m : T → G) (p : T) : G := m p
theorem wpAnyH_relist {P : Program} {md : Region.Mode} {ops : Array Oper} {Q : Exit → Act → World → Prop} {S : World → Prop} {fuel : Nat} {l l' : Array Bool} {a : Act} {w : World} (h : l = l') (g : wpAnyH P md ops Q S fuel l' a w) : wpAnyH P md ops Q S fuel l a w := h ▸ g
theorem PL_swap (a b : Nat) : PL [a, b] = PL [b, a] := by
  funext x
  unfold PL
  simp only [List.mem_cons, List.not_mem_nil, or_false]
  exact propext ⟨fun h y hy => h y hy.symm, fun h y hy => h y hy.symm⟩
theorem StS.swap {W0 W : World} {a b : Nat} (h : StS W0 [a, b] W) : StS W0 [b, a] W := ⟨h.bw, fun x hx => h.hi x (by simp at hx ⊢; exact hx.symm)⟩

set_option maxRecDepth 100000 in
set_option maxHeartbeats 16000000 in
theorem Steps_walk (A : Option Addr) (c : Nat) (xs : List (List Int)) (A2 : Option Addr) (c2 : Nat) (ys : List (List Int)) (w : World) (hxs : Se w everyB ⟨A, xs.length, c⟩ xs) (hys : Se w everyB ⟨A2, ys.length, c2⟩ ys) (hnx : xs.length ≤ 1048576) (hny : ys.length ≤ 1048576) (hlx : ∀ b ∈ xs, b.length ≤ 1048576) (hly : ∀ b ∈ ys, b.length ≤ 1048576) :
    Calls Try.prog 8 #[.slice A xs.length c, .slice A2 ys.length c2] w fun e w' => e = .returned (.bool true) ∧ Below w.heap.size w w' := by
  have hbx : ∀ {s : Sl} {rs : List (List Int)}, Se w everyB s rs → (∀ b ∈ rs, b.length ≤ 1048576) → ∀ b ∈ rs, Byt b ∧ b.length ≤ 9223372036854775696 := fun {s rs} hs hl b hb => by
    obtain ⟨k, hk, rfl⟩ := List.getElem_of_mem hb
    obtain ⟨_, _, v, bs, _, _, e3, hby, _⟩ := hs.at_ hk
    rw [List.getElem?_eq_getElem hk] at e3
    cases e3
    exact ⟨hby.2, Nat.le_trans (hl _ hb) (by decide)⟩
  have hbX := hbx hxs hlx
  have hbY := hbx hys hly
  obtain ⟨AA, hAA⟩ : ∃ r, r = (addJ ⟨[], 40, 0⟩ xs).recs := ⟨_, rfl⟩
  obtain ⟨BB, hBB⟩ : ∃ r, r = (addJ (addJ ⟨[], 40, 0⟩ xs) ys).recs := ⟨_, rfl⟩
  obtain ⟨-, g1, g2, g3, g4, g5, g6, g7, C1, C2, C3, g8, g9, g10, g11, g12, g13⟩ := steps_law hbX hbY hAA hBB
  have HBX := Lib.hid hbX
  have HBY := Lib.hid hbY
  have HOP := Lib.hid g1
  have HJ0 := Lib.hid g2
  have HJA := Lib.hid g3
  have HJA2 := Lib.hid g4
  have HA1 := Lib.hid g5
  have HA2 := Lib.hid g6
  have HA3 := Lib.hid g7
  have HS1 := Lib.hid g8
  have HS2 := Lib.hid g9
  have HS3 := Lib.hid g10
  have HS4 := Lib.hid g11
  have HO1 := Lib.hid g12
  have HO2 := Lib.hid g13
  have HXS := Lib.hid hxs
  have HYS := Lib.hid hys
  have HNX := Lib.hid hnx
  have HNY := Lib.hid hny
  obtain ⟨bf, hbf⟩ : ∃ bf, bf = fewB (newK 40) (xs ++ ys) := ⟨_, rfl⟩
  have HBF := Lib.hid hbf
  clear hbx hbX hbY hAA hBB g1 g2 g3 g4 g5 g6 g7 g8 g9 g10 g11 g12 g13 hxs hys hlx hly hbf hnx hny
  go_enter Try.func8, Try.ntmps8
  go_wp2_with fail
  refine (sane_any _).mono ?_
  rintro e w1 ⟨rfl, hb1⟩
  have HB1 := Lib.hid hb1
  clear hb1
  go_wp2_with fail
  refine (New_any 40 (by decide) _).mono ?_
  rw [show newD 40 = (newK 40, 0) from newK_eq (n := 40) (by decide) (by decide)]
  unfold dkV
  rintro e w2 ⟨⟨sd, pd, rfl, hd2⟩, hb2⟩
  have hB2 := HB1.out.trans (hb2.mono HB1.out.size)
  have HB2 := Lib.hid hB2
  have HD2 := Lib.hid hd2
  clear hb2 hd2 hB2 HB1
  simp only
  go_upto_region 4 with fail
  obtain ⟨B, hB⟩ : ∃ B, B = w2.heap.size := ⟨_, rfl⟩
  obtain ⟨W3, hW3⟩ : ∃ X, X = (w2.alloc (.cells #[.slice sd.a sd.n sd.c, .slice pd.a pd.n pd.c, .int .i64 (newK 40).left, .bool (newK 40).stopped] 25)) := ⟨_, rfl⟩
  rw [← hW3, ← hB]
  have hb3 : Below w2.heap.size w2 W3 := by rw [hW3]; exact (Below.refl _ _).alloc (Nat.le_refl _) _
  have HX3 : Hid (Box4 W3 B (.slice sd.a sd.n sd.c) (.slice pd.a pd.n pd.c) (.int .i64 (newK 40).left) (.bool (newK 40).stopped)) := Lib.hid (by rw [hW3, hB]; exact Box4.new ..)
  have HD3 : Hid (Di W3 everyB sd pd (newK 40)) := Lib.hid ((HD2.out.mono (fun _ _ => trivial)).step hb3)
  have HB3 := Lib.hid (HB2.out.trans (hb3.mono HB2.out.size))
  clear hb3 hW3 hB HB2 HD2
  obtain ⟨i0, hinf, hz0, hz1, hz2⟩ := info_parts Try.infoSl
  have HI := Lib.hid hinf
  obtain ⟨vx, hvx, hvxl, hvxb⟩ := HXS.out
  obtain ⟨vy, hvy, hvyl, hvyb⟩ := HYS.out
  have HVX := Lib.hid (hvx.step HB3.out)
  have HVY := Lib.hid (hvy.step HB3.out)
  obtain ⟨zs, hzs⟩ : ∃ zs, zs = vx ++ vy := ⟨_, rfl⟩
  have HZS := Lib.hid hzs
  have HHS : Hid (HS W3 everyB zs (xs ++ ys)) := Lib.hid (by rw [hzs]; exact HS.append (HS.step ⟨hvxl, hvxb⟩ HB3.out) (HS.step ⟨hvyl, hvyb⟩ HB3.out))
  clear hinf hvx hvxb hvy hvyb hzs
  have SSS : Hid (∀ W, Below W3.heap.size W3 W → (fun W => W.cell? ⟨B, 0, none⟩ = some (.slice sd.a sd.n sd.c) ∧ W.cell? ⟨B, 1, none⟩ = some (.slice pd.a pd.n pd.c) ∧ W.cell? ⟨B, 2, none⟩ = some (.int .i64 (newK 40).left) ∧ W.cell? ⟨B, 3, none⟩ = some (.bool (newK 40).stopped)) W) := Lib.hid (fun W h => ⟨(HX3.out.step h).c0, (HX3.out.step h).c1, (HX3.out.step h).c2, (HX3.out.step h).c3⟩)
  have CF : Hid (∀ (W : World) (Av : Option Addr) (n cv : Nat), Below W3.heap.size W3 W → Owns W W3.heap.size 35 1 slE (.slice Av n cv) zs → Calls Try.prog 11 #[.agg #[.slice sd.a sd.n sd.c, .slice pd.a pd.n pd.c, .int .i64 (newK 40).left, .bool (newK 40).stopped], .slice Av n cv] W fun e w' => e = .returned (.bool bf) ∧ Below W.heap.size W w') := Lib.hid (fun W Av n cv h ho => by
    have h1 := few_any (P := everyB) (Q := everyB) (newK 40) sd pd ⟨Av, n, cv⟩ (xs ++ ys) W (HD3.out.step h) ⟨zs, (SlR.of_owns slE_len ho).mono (fun _ _ => trivial), HHS.out.1, fun i v bs a b => (HHS.out.2 i v bs a b).step h⟩
    rw [← HBF.out] at h1
    exact h1)
  go_cut [43] (fun t wx => t = .bool (!bf) ∧ Below W3.heap.size W3 wx)
  case first =>
    have hB4 : Below W3.heap.size W3 W3.drew := (Below.refl _ W3).drew
    refine wp_region_held_drew (S := (fun W => W.cell? ⟨B, 0, none⟩ = some (.slice sd.a sd.n sd.c) ∧ W.cell? ⟨B, 1, none⟩ = some (.slice pd.a pd.n pd.c) ∧ W.cell? ⟨B, 2, none⟩ = some (.int .i64 (newK 40).left) ∧ W.cell? ⟨B, 3, none⟩ = some (.bool (newK 40).stopped))) (by kernel_rfl) (SSS.out _ hB4) (fun hHeld => ?_)
    refine wpAnyH_take (i := 0) (v := ?_) rfl (by kernel_rfl) (by kernel_rfl) (by kernel_rfl) (fun _ _ _ h => h) (Or.inl ⟨by rfl, ?_⟩) (by assumption) ?_
    rotate_left
    · intro w hSw
      (try dsimp only at hSw)
      go_simp
      try with_reducible rfl
    simp only [Act.put, List.setIfInBounds_toArray, List.set_cons_zero, List.set_cons_succ]
    refine wpAnyH_take (i := 1) (v := ?_) rfl (by kernel_rfl) (by kernel_rfl) (by kernel_rfl) (fun _ _ _ h => h) (Or.inl ⟨by rfl, ?_⟩) (by assumption) ?_
    rotate_left
    · intro w hSw
      (try dsimp only at hSw)
      go_simp
      try with_reducible rfl
    simp only [Act.put, List.setIfInBounds_toArray, List.set_cons_zero, List.set_cons_succ]
    refine wpAnyH_take (i := 2) (v := ?_) rfl (by kernel_rfl) (by kernel_rfl) (by kernel_rfl) (fun _ _ _ h => h) (Or.inl ⟨by rfl, ?_⟩) (by assumption) ?_
    rotate_left
    · intro w hSw
      (try dsimp only at hSw)
      go_simp
      try with_reducible rfl
    simp only [Act.put, List.setIfInBounds_toArray, List.set_cons_zero, List.set_cons_succ]
    refine wpAnyH_take (i := 3) (v := ?_) rfl (by kernel_rfl) (by kernel_rfl) (by kernel_rfl) (fun _ _ _ h => h) (Or.inl ⟨by rfl, ?_⟩) (by assumption) ?_
    rotate_left
    · intro w hSw
      (try dsimp only at hSw)
      go_simp
      try with_reducible rfl
    simp only [Act.put, List.setIfInBounds_toArray, List.set_cons_zero, List.set_cons_succ]
    refine wpAnyH_take (i := 5) (v := ?_) rfl (by kernel_rfl) (by kernel_rfl) (by kernel_rfl) (fun _ _ _ h => h) (Or.inl ⟨by rfl, ?_⟩) (by assumption) ?_
    rotate_left
    · intro w hSw
      (try dsimp only at hSw)
      go_simp
      try with_reducible rfl
    simp only [Act.put, List.setIfInBounds_toArray, List.set_cons_zero, List.set_cons_succ]
    refine wpAnyH_take (i := 7) (v := ?_) rfl (by kernel_rfl) (by kernel_rfl) (by kernel_rfl) (fun _ _ _ h => h) (Or.inl ⟨by rfl, ?_⟩) (by assumption) ?_
    rotate_left
    · intro w hSw
      (try dsimp only at hSw)
      go_simp
      try with_reducible rfl
    simp only [Act.put, List.setIfInBounds_toArray, List.set_cons_zero, List.set_cons_succ]
    refine wpAnyH_ready (rs := [4]) (by kernel_rfl) (by simp) ?_
    refine AllReadyH.cons rfl (fun K hK => ?_) ?_
    · go_simp
      have OE : Owns (W3.drew.alloc (.cells #[] 35)) W3.heap.size 35 1 slE (.slice (some ⟨W3.heap.size, 0, none⟩) 0 0) [] := Owns.lit (w := W3.drew) (ys := ([] : List Sl)) slE_len rfl (Nat.le_refl _) (by simp)
      have hB5 : Below W3.heap.size W3 (W3.drew.alloc (.cells #[] 35)) := hB4.alloc (Nat.le_refl _) _
      refine hK.out _ _ (SSS.out _ hB5) (fun hHeld => ?_)
      clear hK
      refine wpAnyH_ready (rs := [6]) (by kernel_rfl) (by simp) ?_
      refine AllReadyH.cons rfl (fun K hK => ?_) ?_
      · refine step_append_guarded (en := slE) (sz := 1) (by rfl) _ _ _ (by rfl) slE_len slE_one W3.heap.size 35 i0 _ 24 Try.underlying22 HI.out hz0 hz1 hz2 rfl (by decide) (.slice (some ⟨W3.heap.size, 0, none⟩) 0 0) [] (by rfl) OE W3.heap.size A c vx (by rw [← hvxl]; rfl) (HVX.out.reads.below hB5) HVX.out.2.2.2.1 (by have := HNX.out; have := HNY.out; rw [hvxl]; simp [maxLen]; omega) (by have := HNX.out; have := HNY.out; rw [hvxl]; simp; omega) hB5.size ?_
        intro v6 w6 k1 k2 k3
        rw [List.nil_append] at k1
        obtain ⟨A6, c6, rfl, _, _⟩ := k1.shape
        have k0 := k1
        have hB6 : Below W3.heap.size W3 w6 := hB5.grown k2 hB5.size (fun q e => OE.base_le q e)
        clear k1 k2 k3
        refine hK.out _ _ (SSS.out _ hB6) (fun hHeld => ?_)
        clear hK
        refine wpAnyH_ready (rs := [8]) (by kernel_rfl) (by simp) ?_
        refine AllReadyH.cons rfl (fun K hK => ?_) ?_
        · refine step_append_guarded (en := slE) (sz := 1) (by rfl) _ _ _ (by rfl) slE_len slE_one W3.heap.size 35 i0 _ 24 Try.underlying22 HI.out hz0 hz1 hz2 rfl (by decide) (.slice A6 vx.length c6) vx (by rfl) k0 W3.heap.size A2 c2 vy (by rw [← hvyl]; rfl) (HVY.out.reads.below hB6) HVY.out.2.2.2.1 (by have := HNX.out; have := HNY.out; rw [hvxl, hvyl]; simp [maxLen]; omega) (by have := HNX.out; have := HNY.out; rw [hvxl, hvyl]; simp; omega) hB6.size ?_
          intro v7 w7 k1 k2 k3
          rw [← HZS.out] at k1
          obtain ⟨A7, c7, rfl, _, _⟩ := k1.shape
          have m1 := k1
          have hB7 : Below W3.heap.size W3 w7 := hB6.grown k2 hB6.size (fun q e => k0.base_le q e)
          clear k1 k2 k3
          refine hK.out _ _ (SSS.out _ hB7) (fun hHeld => ?_)
          clear hK
          refine wpAnyH_ready (rs := [9]) (by kernel_rfl) (by simp) ?_
          refine AllReadyH.cons rfl (fun K hK => ?_) ?_
          · go_simp
            refine (CF.out _ _ _ _ hB7 m1).mono ?_
            rintro e w8 ⟨rfl, hb8⟩
            have hB8 := hB7.trans (hb8.mono hB7.size)
            refine hK.out _ _ (SSS.out _ hB8) (fun hHeld => ?_)
            clear hK
            refine wpAnyH_take (i := 10) (v := ?_) rfl (by kernel_rfl) (by kernel_rfl) (by kernel_rfl) (fun _ _ _ h => h) (Or.inl ⟨by rfl, ?_⟩) (by assumption) ?_
            rotate_left
            · intro w hSw
              (try dsimp only at hSw)
              go_simp
              try with_reducible rfl
            simp only [Act.put, List.setIfInBounds_toArray, List.set_cons_zero, List.set_cons_succ]
            refine wpAnyH_take (i := 11) (v := ?_) rfl (by kernel_rfl) (by kernel_rfl) (by kernel_rfl) (fun _ _ _ h => h) (Or.inl ⟨by rfl, ?_⟩) (by assumption) ?_
            rotate_left
            · intro w hSw
              (try dsimp only at hSw)
              go_simp
              try with_reducible rfl
            simp only [Act.put, List.setIfInBounds_toArray, List.set_cons_zero, List.set_cons_succ]
            refine wpAnyH_done (by kernel_rfl) ?_ _
            go_wp2_with fail
            go_meet
            exact ⟨rfl, hB8⟩
          exact AllReadyH.nil
        exact AllReadyH.nil
      exact AllReadyH.nil
    exact AllReadyH.nil
  case rest =>
    obtain ⟨W4, hwc⟩ : ∃ X, X = wc := ⟨_, rfl⟩
    subst hwc
    obtain ⟨rfl, hb4⟩ := hcut
    have HX4 := Lib.hid (HX3.out.step hb4)
    have HD4 := Lib.hid (HD3.out.step hb4)
    have HB4 := Lib.hid (HB3.out.trans (hb4.mono HB3.out.size))
    clear hb4 HX3 HD3 HB3 SSS CF HHS HVX HVY HI
    cases bf
    · go_wp2_with fail
      go_ret
      exact ⟨rfl, HB4.out⟩
    obtain ⟨d0, d1, d2, d3, df0, df1, df2, df3, dz⟩ := HX4.out
    go_wp2_with fail
    have hopn := Open_any (P := everyB) (newK 40) sd pd W4 HD4.out
    rw [HOP.out] at hopn
    unfold jlV dkV at hopn
    simp only at hopn
    refine hopn.mono ?_
    rintro e w5 ⟨⟨r, rfl, hr5⟩, hb5⟩
    have HX5 := Lib.hid (HX4.out.step hb5)
    have HD5 := Lib.hid (HD4.out.step hb5)
    have HB5 := Lib.hid (HB4.out.trans (hb5.mono HB4.out.size))
    have HR5 : Hid (Se w5 everyB r []) := Lib.hid (hr5.mono (fun _ _ => trivial))
    clear hopn hb5 hr5 d0 d1 d2 d3 df0 df1 df2 df3 dz HX4 HD4 HB4
    simp only
    go_upto_region 8 with fail
    obtain ⟨J, hJ⟩ : ∃ J, J = w5.heap.size := ⟨_, rfl⟩
    obtain ⟨W6, hW6⟩ : ∃ X, X = (w5.alloc (.cells #[.slice r.a r.n r.c, .int .i64 40, .int .i64 0] 29)) := ⟨_, rfl⟩
    rw [← hW6, ← hJ]
    have hb6 : Below w5.heap.size w5 W6 := by rw [hW6]; exact (Below.refl _ _).alloc (Nat.le_refl _) _
    have HX6 := Lib.hid (HX5.out.step hb6)
    have HD6 := Lib.hid (HD5.out.step hb6)
    have HB6 := Lib.hid (HB5.out.trans (hb6.mono HB5.out.size))
    have HR6 := Lib.hid (HR5.out.step hb6)
    have HJ6 : Hid (Box3 W6 J (.slice r.a r.n r.c) (.int .i64 40) (.int .i64 0)) := Lib.hid (by rw [hW6, hJ]; exact Box3.new ..)
    clear hb6 hW6 hJ HX5 HD5 HB5 HR5
    have HXW := Lib.hid (HXS.out.step HB6.out)
    have HYW := Lib.hid (HYS.out.step HB6.out)
    have CA : Hid (∀ (L : List Nat) (W : World), StS W6 L W → Calls Try.prog 28 #[.agg #[.slice r.a r.n r.c, .int .i64 40, .int .i64 0], .slice A xs.length c] W fun e w' => (∃ r2 : Sl, e = .returned (.agg #[.slice r2.a r2.n r2.c, .int .i64 40, .int .i64 0]) ∧ Se w' (PL L) r2 AA) ∧ Below W.heap.size W w') := Lib.hid (fun L W st => by
      have h := add_any (P := PL L) (Nat.le_refl 40) ⟨[], 40, 0⟩ xs r ⟨A, xs.length, c⟩ W (st.base HR6.out) (st.base HXW.out) HJ0.out HBX.out
      rw [HA1.out] at h
      unfold jlV at h
      simp only at h
      refine h.mono ?_
      rintro e w' ⟨⟨r2, rfl, h2⟩, hb⟩
      exact ⟨⟨r2, rfl, h2.mono (fun b hb => st.nw hb)⟩, hb⟩)
    have CB : Hid (∀ (L : List Nat) (W : World), StS W6 L W → ∀ r, Se W (PL L) r AA → Calls Try.prog 28 #[.agg #[.slice r.a r.n r.c, .int .i64 40, .int .i64 0], .slice A2 ys.length c2] W fun e w' => (∃ r2 : Sl, e = .returned (.agg #[.slice r2.a r2.n r2.c, .int .i64 40, .int .i64 0]) ∧ Se w' (PL L) r2 BB) ∧ Below W.heap.size W w') := Lib.hid (fun L W st r hr => by
      have h := add_any (P := PL L) (Nat.le_refl 40) ⟨AA, 40, 0⟩ ys r ⟨A2, ys.length, c2⟩ W hr (st.base HYW.out) HJA.out HBY.out
      rw [HA2.out] at h
      unfold jlV at h
      simp only at h
      refine h.mono ?_
      rintro e w' ⟨⟨r2, rfl, h2⟩, hb⟩
      exact ⟨⟨r2, rfl, h2.mono (fun b hb => st.nw hb)⟩, hb⟩)
    have CS : Hid (∀ (L : List Nat) (W : World), StS W6 L W → ∀ r, Se W (PL L) r BB → Calls Try.prog 21 #[.agg #[.slice r.a r.n r.c, .int .i64 40, .int .i64 0], .agg #[.slice sd.a sd.n sd.c, .slice pd.a pd.n pd.c, .int .i64 (newK 40).left, .bool (newK 40).stopped]] W fun e w' => (∃ r2 s2 p2 : Sl, e = .returned (.tuple #[.agg #[.slice r2.a r2.n r2.c, .int .i64 40, .int .i64 BB.length], .agg #[.slice s2.a s2.n s2.c, .slice p2.a p2.n p2.c, .int .i64 C1.left, .bool C1.stopped], .int .i64 0]) ∧ Se w' (PL L) r2 BB ∧ Di w' (PL L) s2 p2 C1) ∧ Below W.heap.size W w') := Lib.hid (fun L W st r hr => by
      have h := JSync_any (P := PL L) ⟨BB, 40, 0⟩ (newK 40) r sd pd W hr (st.baseD HD6.out)
      unfold SyncP at h
      rw [HS1.out] at h
      unfold jlV dkV at h
      simp only at h
      refine h.mono ?_
      rintro e w' ⟨⟨r2, s2, p2, rfl, h2, h3⟩, hb⟩
      exact ⟨⟨r2, s2, p2, rfl, h2.mono (fun b hb => st.nw hb), h3.mono (fun b hb => st.nw hb)⟩, hb⟩)
    go_upto_region 10 with fail
    have SSS : Hid (∀ W, Below W6.heap.size W6 W → (fun W => W.cell? ⟨J, 0, none⟩ = some (.slice r.a r.n r.c) ∧ W.cell? ⟨J, 1, none⟩ = some (.int .i64 40) ∧ W.cell? ⟨J, 2, none⟩ = some (.int .i64 0) ∧ W.cell? ⟨B, 0, none⟩ = some (.slice sd.a sd.n sd.c) ∧ W.cell? ⟨B, 1, none⟩ = some (.slice pd.a pd.n pd.c) ∧ W.cell? ⟨B, 2, none⟩ = some (.int .i64 (newK 40).left) ∧ W.cell? ⟨B, 3, none⟩ = some (.bool (newK 40).stopped)) W) := Lib.hid (fun W h => ⟨(HJ6.out.step h).c0, (HJ6.out.step h).c1, (HJ6.out.step h).c2, (HX6.out.step h).c0, (HX6.out.step h).c1, (HX6.out.step h).c2, (HX6.out.step h).c3⟩)
    have st0 := StS.first W6
    go_cut [10, 11, 12] (fun ta tb tc wx => ∃ (b3 b4 : Nat) (r s p : Sl), ta = .pointer (some ⟨b3, 0, none⟩) ∧ tb = .pointer (some ⟨b4, 0, none⟩) ∧ tc = .int .i64 0 ∧ Box3 wx b3 (.slice r.a r.n r.c) (.int .i64 40) (.int .i64 BB.length) ∧ Box4 wx b4 (.slice s.a s.n s.c) (.slice p.a p.n p.c) (.int .i64 C1.left) (.bool C1.stopped) ∧ Se wx everyB r BB ∧ Di wx everyB s p C1 ∧ Below W6.heap.size W6 wx)
    case first =>
      refine wp_region_held_drew (S := (fun W => W.cell? ⟨J, 0, none⟩ = some (.slice r.a r.n r.c) ∧ W.cell? ⟨J, 1, none⟩ = some (.int .i64 40) ∧ W.cell? ⟨J, 2, none⟩ = some (.int .i64 0) ∧ W.cell? ⟨B, 0, none⟩ = some (.slice sd.a sd.n sd.c) ∧ W.cell? ⟨B, 1, none⟩ = some (.slice pd.a pd.n pd.c) ∧ W.cell? ⟨B, 2, none⟩ = some (.int .i64 (newK 40).left) ∧ W.cell? ⟨B, 3, none⟩ = some (.bool (newK 40).stopped))) (by kernel_rfl) (SSS.out _ st0.bw) (fun hHeld => ?_)
      refine wpAnyH_take (i := 0) (v := ?_) rfl (by kernel_rfl) (by kernel_rfl) (by kernel_rfl) (fun _ _ _ h => h) (Or.inl ⟨by rfl, ?_⟩) (by assumption) ?_
      rotate_left
      · intro w hSw
        (try dsimp only at hSw)
        go_simp
        try with_reducible rfl
      simp only [Act.put, List.setIfInBounds_toArray, List.set_cons_zero, List.set_cons_succ]
      refine wpAnyH_take (i := 1) (v := ?_) rfl (by kernel_rfl) (by kernel_rfl) (by kernel_rfl) (fun _ _ _ h => h) (Or.inl ⟨by rfl, ?_⟩) (by assumption) ?_
      rotate_left
      · intro w hSw
        (try dsimp only at hSw)
        go_simp
        try with_reducible rfl
      simp only [Act.put, List.setIfInBounds_toArray, List.set_cons_zero, List.set_cons_succ]
      refine wpAnyH_take (i := 2) (v := ?_) rfl (by kernel_rfl) (by kernel_rfl) (by kernel_rfl) (fun _ _ _ h => h) (Or.inl ⟨by rfl, ?_⟩) (by assumption) ?_
      rotate_left
      · intro w hSw
        (try dsimp only at hSw)
        go_simp
        try with_reducible rfl
      simp only [Act.put, List.setIfInBounds_toArray, List.set_cons_zero, List.set_cons_succ]
      refine wpAnyH_take (i := 3) (v := ?_) rfl (by kernel_rfl) (by kernel_rfl) (by kernel_rfl) (fun _ _ _ h => h) (Or.inl ⟨by rfl, ?_⟩) (by assumption) ?_
      rotate_left
      · intro w hSw
        (try dsimp only at hSw)
        go_simp
        try with_reducible rfl
      simp only [Act.put, List.setIfInBounds_toArray, List.set_cons_zero, List.set_cons_succ]
      refine wpAnyH_take (i := 5) (v := ?_) rfl (by kernel_rfl) (by kernel_rfl) (by kernel_rfl) (fun _ _ _ h => h) (Or.inl ⟨by rfl, ?_⟩) (by assumption) ?_
      rotate_left
      · intro w hSw
        (try dsimp only at hSw)
        go_simp
        try with_reducible rfl
      simp only [Act.put, List.setIfInBounds_toArray, List.set_cons_zero, List.set_cons_succ]
      refine wpAnyH_take (i := 7) (v := ?_) rfl (by kernel_rfl) (by kernel_rfl) (by kernel_rfl) (fun _ _ _ h => h) (Or.inl ⟨by rfl, ?_⟩) (by assumption) ?_
      rotate_left
      · intro w hSw
        (try dsimp only at hSw)
        go_simp
        try with_reducible rfl
      simp only [Act.put, List.setIfInBounds_toArray, List.set_cons_zero, List.set_cons_succ]
      clear hHeld
      apply merge
      · intro k3JD
        apply merge
        · intro k2JD
          apply merge
          · intro k3J
            apply merge
            · intro k3D
              apply merge
              · intro k1JD
                apply merge
                · intro k2J
                  apply merge
                  · intro k2D
                    apply merge
                    · intro k3
                      apply merge
                      · intro k0JD
                        apply merge
                        · intro k1J
                          apply merge
                          · intro k1D
                            apply merge
                            · intro k2
                              apply merge
                              · intro k0J
                                apply merge
                                · intro k0D
                                  apply merge
                                  · intro k1
                                    obtain ⟨V, hW0⟩ : ∃ X, X = W6.drew := ⟨_, rfl⟩
                                    have st := st0
                                    rw [← hW0] at st ⊢
                                    clear hW0
                                    have hHeld := SSS.out _ st.bw
                                    refine wpAnyH_ready (rs := [4, 13, 14]) (by kernel_rfl) (by simp) ?_
                                    refine AllReadyH.cons rfl (fun K hK => ?_) ?_
                                    · go_simp
                                      refine (CA.out _ _ st).mono ?_
                                      rintro e0 V_ ⟨⟨r1, rfl, e_⟩, hb_⟩
                                      have st_ := st.call hb_
                                      clear hb_ st 
                                      refine hK.out _ _ (SSS.out _ st_.bw) (fun hHeld => ?_)
                                      clear hK
                                      obtain ⟨V, hV_⟩ : ∃ X, X = V_ := ⟨_, rfl⟩
                                      subst hV_
                                      have st := st_
                                      clear st_
                                      have e := e_
                                      clear e_
                                      refine wpAnyH_relist (l' := #[true, true, true, true, true, true, false, true, false, false, false, false, false, false, false, false, false, false]) (by kernel_rfl) ?_
                                      try simp only [Act.put, List.setIfInBounds_toArray, List.set_cons_zero, List.set_cons_succ]
                                      clear hHeld
                                      revert e
                                      revert st
                                      revert V
                                      revert r1
                                      exact k1
                                    refine AllReadyH.cons rfl (fun K hK => ?_) ?_
                                    · go_simp
                                      have st_ := st.alloc (.cells #[.slice none 0 0, .int .i64 0, .int .i64 0] 29)
                                      have n3_ := Box3.new V (.slice none 0 0) (.int .i64 0) (.int .i64 0) 29
                                      refine hK.out _ _ (SSS.out _ st_.bw) (fun hHeld => ?_)
                                      clear hK
                                      obtain ⟨V_, hW_⟩ : ∃ X, X = V.alloc (.cells #[.slice none 0 0, .int .i64 0, .int .i64 0] 29) := ⟨_, rfl⟩
                                      obtain ⟨b3, hq_⟩ : ∃ y, y = V.heap.size := ⟨_, rfl⟩
                                      rw [← hW_] at st_ n3_ hHeld ⊢
                                      rw [← hq_] at st_ n3_ ⊢
                                      clear hW_ hq_ st
                                      obtain ⟨V, hV_⟩ : ∃ X, X = V_ := ⟨_, rfl⟩
                                      subst hV_
                                      have st := st_
                                      clear st_
                                      have n3 := n3_
                                      clear n3_
                                      refine wpAnyH_relist (l' := #[true, true, true, true, false, true, false, true, false, false, false, false, false, true, false, false, false, false]) (by kernel_rfl) ?_
                                      try simp only [Act.put, List.setIfInBounds_toArray, List.set_cons_zero, List.set_cons_succ]
                                      clear hHeld
                                      revert n3
                                      revert st
                                      revert V
                                      revert b3
                                      exact k0J
                                    refine AllReadyH.cons rfl (fun K hK => ?_) ?_
                                    · go_simp
                                      have st_ := st.alloc (.cells #[.slice none 0 0, .slice none 0 0, .int .i64 0, .bool false] 25)
                                      have n4_ := Box4.new V (.slice none 0 0) (.slice none 0 0) (.int .i64 0) (.bool false) 25
                                      refine hK.out _ _ (SSS.out _ st_.bw) (fun hHeld => ?_)
                                      clear hK
                                      obtain ⟨V_, hW_⟩ : ∃ X, X = V.alloc (.cells #[.slice none 0 0, .slice none 0 0, .int .i64 0, .bool false] 25) := ⟨_, rfl⟩
                                      obtain ⟨b4, hq_⟩ : ∃ y, y = V.heap.size := ⟨_, rfl⟩
                                      rw [← hW_] at st_ n4_ hHeld ⊢
                                      rw [← hq_] at st_ n4_ ⊢
                                      clear hW_ hq_ st
                                      obtain ⟨V, hV_⟩ : ∃ X, X = V_ := ⟨_, rfl⟩
                                      subst hV_
                                      have st := st_
                                      clear st_
                                      have n4 := n4_
                                      clear n4_
                                      refine wpAnyH_relist (l' := #[true, true, true, true, false, true, false, true, false, false, false, false, false, false, true, false, false, false]) (by kernel_rfl) ?_
                                      try simp only [Act.put, List.setIfInBounds_toArray, List.set_cons_zero, List.set_cons_succ]
                                      clear hHeld
                                      revert n4
                                      revert st
                                      revert V
                                      revert b4
                                      exact k0D
                                    exact AllReadyH.nil
                                  · intro r1 V st e
                                    have hHeld := SSS.out _ st.bw
                                    refine wpAnyH_ready (rs := [6, 13, 14]) (by kernel_rfl) (by simp) ?_
                                    refine AllReadyH.cons rfl (fun K hK => ?_) ?_
                                    · go_simp
                                      refine (CB.out _ _ st _ e).mono ?_
                                      rintro e0 V_ ⟨⟨r2, rfl, e_⟩, hb_⟩
                                      have st_ := st.call hb_
                                      clear hb_ st e
                                      refine hK.out _ _ (SSS.out _ st_.bw) (fun hHeld => ?_)
                                      clear hK
                                      obtain ⟨V, hV_⟩ : ∃ X, X = V_ := ⟨_, rfl⟩
                                      subst hV_
                                      have st := st_
                                      clear st_
                                      have e := e_
                                      clear e_
                                      refine wpAnyH_relist (l' := #[true, true, true, true, true, true, true, true, false, false, false, false, false, false, false, false, false, false]) (by kernel_rfl) ?_
                                      try simp only [Act.put, List.setIfInBounds_toArray, List.set_cons_zero, List.set_cons_succ]
                                      clear hHeld
                                      revert e
                                      revert st
                                      revert V
                                      revert r2
                                      revert r1
                                      exact k2
                                    refine AllReadyH.cons rfl (fun K hK => ?_) ?_
                                    · go_simp
                                      have st_ := st.alloc (.cells #[.slice none 0 0, .int .i64 0, .int .i64 0] 29)
                                      have n3_ := Box3.new V (.slice none 0 0) (.int .i64 0) (.int .i64 0) 29
                                      have e_ := e.boxed (.cells #[.slice none 0 0, .int .i64 0, .int .i64 0] 29)
                                      refine hK.out _ _ (SSS.out _ st_.bw) (fun hHeld => ?_)
                                      clear hK
                                      obtain ⟨V_, hW_⟩ : ∃ X, X = V.alloc (.cells #[.slice none 0 0, .int .i64 0, .int .i64 0] 29) := ⟨_, rfl⟩
                                      obtain ⟨b3, hq_⟩ : ∃ y, y = V.heap.size := ⟨_, rfl⟩
                                      rw [← hW_] at st_ n3_ e_ hHeld ⊢
                                      rw [← hq_] at st_ n3_ e_ ⊢
                                      clear hW_ hq_ st e
                                      obtain ⟨V, hV_⟩ : ∃ X, X = V_ := ⟨_, rfl⟩
                                      subst hV_
                                      have st := st_
                                      clear st_
                                      have n3 := n3_
                                      clear n3_
                                      have e := e_
                                      clear e_
                                      refine wpAnyH_relist (l' := #[true, true, true, true, true, true, false, true, false, false, false, false, false, true, false, false, false, false]) (by kernel_rfl) ?_
                                      try simp only [Act.put, List.setIfInBounds_toArray, List.set_cons_zero, List.set_cons_succ]
                                      clear hHeld
                                      revert e
                                      revert n3
                                      revert st
                                      revert V
                                      revert b3
                                      revert r1
                                      exact k1J
                                    refine AllReadyH.cons rfl (fun K hK => ?_) ?_
                                    · go_simp
                                      have st_ := st.alloc (.cells #[.slice none 0 0, .slice none 0 0, .int .i64 0, .bool false] 25)
                                      have n4_ := Box4.new V (.slice none 0 0) (.slice none 0 0) (.int .i64 0) (.bool false) 25
                                      have e_ := e.boxed (.cells #[.slice none 0 0, .slice none 0 0, .int .i64 0, .bool false] 25)
                                      refine hK.out _ _ (SSS.out _ st_.bw) (fun hHeld => ?_)
                                      clear hK
                                      obtain ⟨V_, hW_⟩ : ∃ X, X = V.alloc (.cells #[.slice none 0 0, .slice none 0 0, .int .i64 0, .bool false] 25) := ⟨_, rfl⟩
                                      obtain ⟨b4, hq_⟩ : ∃ y, y = V.heap.size := ⟨_, rfl⟩
                                      rw [← hW_] at st_ n4_ e_ hHeld ⊢
                                      rw [← hq_] at st_ n4_ e_ ⊢
                                      clear hW_ hq_ st e
                                      obtain ⟨V, hV_⟩ : ∃ X, X = V_ := ⟨_, rfl⟩
                                      subst hV_
                                      have st := st_
                                      clear st_
                                      have n4 := n4_
                                      clear n4_
                                      have e := e_
                                      clear e_
                                      refine wpAnyH_relist (l' := #[true, true, true, true, true, true, false, true, false, false, false, false, false, false, true, false, false, false]) (by kernel_rfl) ?_
                                      try simp only [Act.put, List.setIfInBounds_toArray, List.set_cons_zero, List.set_cons_succ]
                                      clear hHeld
                                      revert e
                                      revert n4
                                      revert st
                                      revert V
                                      revert b4
                                      revert r1
                                      exact k1D
                                    exact AllReadyH.nil
                                · intro b4 V st n4
                                  have hHeld := SSS.out _ st.bw
                                  refine wpAnyH_ready (rs := [4, 13]) (by kernel_rfl) (by simp) ?_
                                  refine AllReadyH.cons rfl (fun K hK => ?_) ?_
                                  · go_simp
                                    refine (CA.out _ _ st).mono ?_
                                    rintro e0 V_ ⟨⟨r1, rfl, e_⟩, hb_⟩
                                    have st_ := st.call hb_
                                    have n4_ := n4.step hb_
                                    clear hb_ st n4
                                    refine hK.out _ _ (SSS.out _ st_.bw) (fun hHeld => ?_)
                                    clear hK
                                    obtain ⟨V, hV_⟩ : ∃ X, X = V_ := ⟨_, rfl⟩
                                    subst hV_
                                    have st := st_
                                    clear st_
                                    have n4 := n4_
                                    clear n4_
                                    have e := e_
                                    clear e_
                                    refine wpAnyH_relist (l' := #[true, true, true, true, true, true, false, true, false, false, false, false, false, false, true, false, false, false]) (by kernel_rfl) ?_
                                    try simp only [Act.put, List.setIfInBounds_toArray, List.set_cons_zero, List.set_cons_succ]
                                    clear hHeld
                                    revert e
                                    revert n4
                                    revert st
                                    revert V
                                    revert b4
                                    revert r1
                                    exact k1D
                                  refine AllReadyH.cons rfl (fun K hK => ?_) ?_
                                  · go_simp
                                    have st_ := st.alloc (.cells #[.slice none 0 0, .int .i64 0, .int .i64 0] 29)
                                    have n3_ := Box3.new V (.slice none 0 0) (.int .i64 0) (.int .i64 0) 29
                                    have n4_ := n4.step ((Below.refl _ _).alloc (Nat.le_refl _) (.cells #[.slice none 0 0, .int .i64 0, .int .i64 0] 29))
                                    have ne_ : V.heap.size ≠ b4 := Nat.ne_of_gt n4.z
                                    refine hK.out _ _ (SSS.out _ st_.bw) (fun hHeld => ?_)
                                    clear hK
                                    obtain ⟨V_, hW_⟩ : ∃ X, X = V.alloc (.cells #[.slice none 0 0, .int .i64 0, .int .i64 0] 29) := ⟨_, rfl⟩
                                    obtain ⟨b3, hq_⟩ : ∃ y, y = V.heap.size := ⟨_, rfl⟩
                                    rw [← hW_] at st_ n3_ n4_ hHeld ⊢
                                    rw [← hq_] at st_ n3_ ne_ ⊢
                                    clear hW_ hq_ st n4
                                    obtain ⟨V, hV_⟩ : ∃ X, X = V_ := ⟨_, rfl⟩
                                    subst hV_
                                    have st := st_
                                    clear st_
                                    have n3 := n3_
                                    clear n3_
                                    have n4 := n4_
                                    clear n4_
                                    have ne := ne_
                                    clear ne_
                                    refine wpAnyH_relist (l' := #[true, true, true, true, false, true, false, true, false, false, false, false, false, true, true, false, false, false]) (by kernel_rfl) ?_
                                    try simp only [Act.put, List.setIfInBounds_toArray, List.set_cons_zero, List.set_cons_succ]
                                    clear hHeld
                                    revert ne
                                    revert n4
                                    revert n3
                                    revert st
                                    revert V
                                    revert b4
                                    revert b3
                                    exact k0JD
                                  exact AllReadyH.nil
                              · intro b3 V st n3
                                have hHeld := SSS.out _ st.bw
                                refine wpAnyH_ready (rs := [4, 14]) (by kernel_rfl) (by simp) ?_
                                refine AllReadyH.cons rfl (fun K hK => ?_) ?_
                                · go_simp
                                  refine (CA.out _ _ st).mono ?_
                                  rintro e0 V_ ⟨⟨r1, rfl, e_⟩, hb_⟩
                                  have st_ := st.call hb_
                                  have n3_ := n3.step hb_
                                  clear hb_ st n3
                                  refine hK.out _ _ (SSS.out _ st_.bw) (fun hHeld => ?_)
                                  clear hK
                                  obtain ⟨V, hV_⟩ : ∃ X, X = V_ := ⟨_, rfl⟩
                                  subst hV_
                                  have st := st_
                                  clear st_
                                  have n3 := n3_
                                  clear n3_
                                  have e := e_
                                  clear e_
                                  refine wpAnyH_relist (l' := #[true, true, true, true, true, true, false, true, false, false, false, false, false, true, false, false, false, false]) (by kernel_rfl) ?_
                                  try simp only [Act.put, List.setIfInBounds_toArray, List.set_cons_zero, List.set_cons_succ]
                                  clear hHeld
                                  revert e
                                  revert n3
                                  revert st
                                  revert V
                                  revert b3
                                  revert r1
                                  exact k1J
                                refine AllReadyH.cons rfl (fun K hK => ?_) ?_
                                · go_simp
                                  have st_ := st.alloc (.cells #[.slice none 0 0, .slice none 0 0, .int .i64 0, .bool false] 25)
                                  have n4_ := Box4.new V (.slice none 0 0) (.slice none 0 0) (.int .i64 0) (.bool false) 25
                                  have n3_ := n3.step ((Below.refl _ _).alloc (Nat.le_refl _) (.cells #[.slice none 0 0, .slice none 0 0, .int .i64 0, .bool false] 25))
                                  have ne_ : b3 ≠ V.heap.size := Nat.ne_of_lt n3.z
                                  refine hK.out _ _ (SSS.out _ st_.bw) (fun hHeld => ?_)
                                  clear hK
                                  obtain ⟨V_, hW_⟩ : ∃ X, X = V.alloc (.cells #[.slice none 0 0, .slice none 0 0, .int .i64 0, .bool false] 25) := ⟨_, rfl⟩
                                  obtain ⟨b4, hq_⟩ : ∃ y, y = V.heap.size := ⟨_, rfl⟩
                                  rw [← hW_] at st_ n4_ n3_ hHeld ⊢
                                  rw [← hq_] at st_ n4_ ne_ ⊢
                                  clear hW_ hq_ st n3
                                  have st2_ := st_.swap
                                  clear st_
                                  have st_ := st2_
                                  clear st2_
                                  obtain ⟨V, hV_⟩ : ∃ X, X = V_ := ⟨_, rfl⟩
                                  subst hV_
                                  have st := st_
                                  clear st_
                                  have n3 := n3_
                                  clear n3_
                                  have n4 := n4_
                                  clear n4_
                                  have ne := ne_
                                  clear ne_
                                  refine wpAnyH_relist (l' := #[true, true, true, true, false, true, false, true, false, false, false, false, false, true, true, false, false, false]) (by kernel_rfl) ?_
                                  try simp only [Act.put, List.setIfInBounds_toArray, List.set_cons_zero, List.set_cons_succ]
                                  clear hHeld
                                  revert ne
                                  revert n4
                                  revert n3
                                  revert st
                                  revert V
                                  revert b4
                                  revert b3
                                  exact k0JD
                                exact AllReadyH.nil
                            · intro r1 r2 V st e
                              have hHeld := SSS.out _ st.bw
                              refine wpAnyH_ready (rs := [8, 13, 14]) (by kernel_rfl) (by simp) ?_
                              refine AllReadyH.cons rfl (fun K hK => ?_) ?_
                              · go_simp
                                refine (CS.out _ _ st _ e).mono ?_
                                rintro e0 V_ ⟨⟨r3, s, p, rfl, e_, f_⟩, hb_⟩
                                have st_ := st.call hb_
                                clear hb_ st e
                                refine hK.out _ _ (SSS.out _ st_.bw) (fun hHeld => ?_)
                                clear hK
                                obtain ⟨V, hV_⟩ : ∃ X, X = V_ := ⟨_, rfl⟩
                                subst hV_
                                have st := st_
                                clear st_
                                have e := e_
                                clear e_
                                have f := f_
                                clear f_
                                refine wpAnyH_take (i := 9) (v := ?_) rfl (by kernel_rfl) (by kernel_rfl) (by kernel_rfl) (fun _ _ _ h => h) (Or.inl ⟨by rfl, ?_⟩) (by assumption) ?_
                                rotate_left
                                · intro w hSw
                                  (try dsimp only at hSw)
                                  go_simp
                                  try with_reducible rfl
                                simp only [Act.put, List.setIfInBounds_toArray, List.set_cons_zero, List.set_cons_succ]
                                refine wpAnyH_take (i := 10) (v := ?_) rfl (by kernel_rfl) (by kernel_rfl) (by kernel_rfl) (fun _ _ _ h => h) (Or.inl ⟨by rfl, ?_⟩) (by assumption) ?_
                                rotate_left
                                · intro w hSw
                                  (try dsimp only at hSw)
                                  go_simp
                                  try with_reducible rfl
                                simp only [Act.put, List.setIfInBounds_toArray, List.set_cons_zero, List.set_cons_succ]
                                refine wpAnyH_take (i := 11) (v := ?_) rfl (by kernel_rfl) (by kernel_rfl) (by kernel_rfl) (fun _ _ _ h => h) (Or.inl ⟨by rfl, ?_⟩) (by assumption) ?_
                                rotate_left
                                · intro w hSw
                                  (try dsimp only at hSw)
                                  go_simp
                                  try with_reducible rfl
                                simp only [Act.put, List.setIfInBounds_toArray, List.set_cons_zero, List.set_cons_succ]
                                refine wpAnyH_take (i := 12) (v := ?_) rfl (by kernel_rfl) (by kernel_rfl) (by kernel_rfl) (fun _ _ _ h => h) (Or.inl ⟨by rfl, ?_⟩) (by assumption) ?_
                                rotate_left
                                · intro w hSw
                                  (try dsimp only at hSw)
                                  go_simp
                                  try with_reducible rfl
                                simp only [Act.put, List.setIfInBounds_toArray, List.set_cons_zero, List.set_cons_succ]
                                refine wpAnyH_relist (l' := #[true, true, true, true, true, true, true, true, true, true, true, true, true, false, false, false, false, false]) (by kernel_rfl) ?_
                                try simp only [Act.put, List.setIfInBounds_toArray, List.set_cons_zero, List.set_cons_succ]
                                clear hHeld
                                revert f
                                revert e
                                revert st
                                revert V
                                revert p
                                revert s
                                revert r3
                                revert r2
                                revert r1
                                exact k3
                              refine AllReadyH.cons rfl (fun K hK => ?_) ?_
                              · go_simp
                                have st_ := st.alloc (.cells #[.slice none 0 0, .int .i64 0, .int .i64 0] 29)
                                have n3_ := Box3.new V (.slice none 0 0) (.int .i64 0) (.int .i64 0) 29
                                have e_ := e.boxed (.cells #[.slice none 0 0, .int .i64 0, .int .i64 0] 29)
                                refine hK.out _ _ (SSS.out _ st_.bw) (fun hHeld => ?_)
                                clear hK
                                obtain ⟨V_, hW_⟩ : ∃ X, X = V.alloc (.cells #[.slice none 0 0, .int .i64 0, .int .i64 0] 29) := ⟨_, rfl⟩
                                obtain ⟨b3, hq_⟩ : ∃ y, y = V.heap.size := ⟨_, rfl⟩
                                rw [← hW_] at st_ n3_ e_ hHeld ⊢
                                rw [← hq_] at st_ n3_ e_ ⊢
                                clear hW_ hq_ st e
                                obtain ⟨V, hV_⟩ : ∃ X, X = V_ := ⟨_, rfl⟩
                                subst hV_
                                have st := st_
                                clear st_
                                have n3 := n3_
                                clear n3_
                                have e := e_
                                clear e_
                                refine wpAnyH_relist (l' := #[true, true, true, true, true, true, true, true, false, false, false, false, false, true, false, false, false, false]) (by kernel_rfl) ?_
                                try simp only [Act.put, List.setIfInBounds_toArray, List.set_cons_zero, List.set_cons_succ]
                                clear hHeld
                                revert e
                                revert n3
                                revert st
                                revert V
                                revert b3
                                revert r2
                                revert r1
                                exact k2J
                              refine AllReadyH.cons rfl (fun K hK => ?_) ?_
                              · go_simp
                                have st_ := st.alloc (.cells #[.slice none 0 0, .slice none 0 0, .int .i64 0, .bool false] 25)
                                have n4_ := Box4.new V (.slice none 0 0) (.slice none 0 0) (.int .i64 0) (.bool false) 25
                                have e_ := e.boxed (.cells #[.slice none 0 0, .slice none 0 0, .int .i64 0, .bool false] 25)
                                refine hK.out _ _ (SSS.out _ st_.bw) (fun hHeld => ?_)
                                clear hK
                                obtain ⟨V_, hW_⟩ : ∃ X, X = V.alloc (.cells #[.slice none 0 0, .slice none 0 0, .int .i64 0, .bool false] 25) := ⟨_, rfl⟩
                                obtain ⟨b4, hq_⟩ : ∃ y, y = V.heap.size := ⟨_, rfl⟩
                                rw [← hW_] at st_ n4_ e_ hHeld ⊢
                                rw [← hq_] at st_ n4_ e_ ⊢
                                clear hW_ hq_ st e
                                obtain ⟨V, hV_⟩ : ∃ X, X = V_ := ⟨_, rfl⟩
                                subst hV_
                                have st := st_
                                clear st_
                                have n4 := n4_
                                clear n4_
                                have e := e_
                                clear e_
                                refine wpAnyH_relist (l' := #[true, true, true, true, true, true, true, true, false, false, false, false, false, false, true, false, false, false]) (by kernel_rfl) ?_
                                try simp only [Act.put, List.setIfInBounds_toArray, List.set_cons_zero, List.set_cons_succ]
                                clear hHeld
                                revert e
                                revert n4
                                revert st
                                revert V
                                revert b4
                                revert r2
                                revert r1
                                exact k2D
                              exact AllReadyH.nil
                          · intro r1 b4 V st n4 e
                            have hHeld := SSS.out _ st.bw
                            refine wpAnyH_ready (rs := [6, 13]) (by kernel_rfl) (by simp) ?_
                            refine AllReadyH.cons rfl (fun K hK => ?_) ?_
                            · go_simp
                              refine (CB.out _ _ st _ e).mono ?_
                              rintro e0 V_ ⟨⟨r2, rfl, e_⟩, hb_⟩
                              have st_ := st.call hb_
                              have n4_ := n4.step hb_
                              clear hb_ st n4 e
                              refine hK.out _ _ (SSS.out _ st_.bw) (fun hHeld => ?_)
                              clear hK
                              obtain ⟨V, hV_⟩ : ∃ X, X = V_ := ⟨_, rfl⟩
                              subst hV_
                              have st := st_
                              clear st_
                              have n4 := n4_
                              clear n4_
                              have e := e_
                              clear e_
                              refine wpAnyH_relist (l' := #[true, true, true, true, true, true, true, true, false, false, false, false, false, false, true, false, false, false]) (by kernel_rfl) ?_
                              try simp only [Act.put, List.setIfInBounds_toArray, List.set_cons_zero, List.set_cons_succ]
                              clear hHeld
                              revert e
                              revert n4
                              revert st
                              revert V
                              revert b4
                              revert r2
                              revert r1
                              exact k2D
                            refine AllReadyH.cons rfl (fun K hK => ?_) ?_
                            · go_simp
                              have st_ := st.alloc (.cells #[.slice none 0 0, .int .i64 0, .int .i64 0] 29)
                              have n3_ := Box3.new V (.slice none 0 0) (.int .i64 0) (.int .i64 0) 29
                              have n4_ := n4.step ((Below.refl _ _).alloc (Nat.le_refl _) (.cells #[.slice none 0 0, .int .i64 0, .int .i64 0] 29))
                              have ne_ : V.heap.size ≠ b4 := Nat.ne_of_gt n4.z
                              have e_ := e.boxed (.cells #[.slice none 0 0, .int .i64 0, .int .i64 0] 29)
                              refine hK.out _ _ (SSS.out _ st_.bw) (fun hHeld => ?_)
                              clear hK
                              obtain ⟨V_, hW_⟩ : ∃ X, X = V.alloc (.cells #[.slice none 0 0, .int .i64 0, .int .i64 0] 29) := ⟨_, rfl⟩
                              obtain ⟨b3, hq_⟩ : ∃ y, y = V.heap.size := ⟨_, rfl⟩
                              rw [← hW_] at st_ n3_ n4_ e_ hHeld ⊢
                              rw [← hq_] at st_ n3_ ne_ e_ ⊢
                              clear hW_ hq_ st n4 e
                              obtain ⟨V, hV_⟩ : ∃ X, X = V_ := ⟨_, rfl⟩
                              subst hV_
                              have st := st_
                              clear st_
                              have n3 := n3_
                              clear n3_
                              have n4 := n4_
                              clear n4_
                              have ne := ne_
                              clear ne_
                              have e := e_
                              clear e_
                              refine wpAnyH_relist (l' := #[true, true, true, true, true, true, false, true, false, false, false, false, false, true, true, false, false, false]) (by kernel_rfl) ?_
                              try simp only [Act.put, List.setIfInBounds_toArray, List.set_cons_zero, List.set_cons_succ]
                              clear hHeld
                              revert e
                              revert ne
                              revert n4
                              revert n3
                              revert st
                              revert V
                              revert b4
                              revert b3
                              revert r1
                              exact k1JD
                            exact AllReadyH.nil
                        · intro r1 b3 V st n3 e
                          have hHeld := SSS.out _ st.bw
                          refine wpAnyH_ready (rs := [6, 14]) (by kernel_rfl) (by simp) ?_
                          refine AllReadyH.cons rfl (fun K hK => ?_) ?_
                          · go_simp
                            refine (CB.out _ _ st _ e).mono ?_
                            rintro e0 V_ ⟨⟨r2, rfl, e_⟩, hb_⟩
                            have st_ := st.call hb_
                            have n3_ := n3.step hb_
                            clear hb_ st n3 e
                            refine hK.out _ _ (SSS.out _ st_.bw) (fun hHeld => ?_)
                            clear hK
                            obtain ⟨V, hV_⟩ : ∃ X, X = V_ := ⟨_, rfl⟩
                            subst hV_
                            have st := st_
                            clear st_
                            have n3 := n3_
                            clear n3_
                            have e := e_
                            clear e_
                            refine wpAnyH_relist (l' := #[true, true, true, true, true, true, true, true, false, false, false, false, false, true, false, false, false, false]) (by kernel_rfl) ?_
                            try simp only [Act.put, List.setIfInBounds_toArray, List.set_cons_zero, List.set_cons_succ]
                            clear hHeld
                            revert e
                            revert n3
                            revert st
                            revert V
                            revert b3
                            revert r2
                            revert r1
                            exact k2J
                          refine AllReadyH.cons rfl (fun K hK => ?_) ?_
                          · go_simp
                            have st_ := st.alloc (.cells #[.slice none 0 0, .slice none 0 0, .int .i64 0, .bool false] 25)
                            have n4_ := Box4.new V (.slice none 0 0) (.slice none 0 0) (.int .i64 0) (.bool false) 25
                            have n3_ := n3.step ((Below.refl _ _).alloc (Nat.le_refl _) (.cells #[.slice none 0 0, .slice none 0 0, .int .i64 0, .bool false] 25))
                            have ne_ : b3 ≠ V.heap.size := Nat.ne_of_lt n3.z
                            have e_ := e.boxed (.cells #[.slice none 0 0, .slice none 0 0, .int .i64 0, .bool false] 25)
                            refine hK.out _ _ (SSS.out _ st_.bw) (fun hHeld => ?_)
                            clear hK
                            obtain ⟨V_, hW_⟩ : ∃ X, X = V.alloc (.cells #[.slice none 0 0, .slice none 0 0, .int .i64 0, .bool false] 25) := ⟨_, rfl⟩
                            obtain ⟨b4, hq_⟩ : ∃ y, y = V.heap.size := ⟨_, rfl⟩
                            rw [← hW_] at st_ n4_ n3_ e_ hHeld ⊢
                            rw [← hq_] at st_ n4_ ne_ e_ ⊢
                            clear hW_ hq_ st n3 e
                            have st2_ := st_.swap
                            clear st_
                            have st_ := st2_
                            clear st2_
                            rw [PL_swap] at e_
                            obtain ⟨V, hV_⟩ : ∃ X, X = V_ := ⟨_, rfl⟩
                            subst hV_
                            have st := st_
                            clear st_
                            have n3 := n3_
                            clear n3_
                            have n4 := n4_
                            clear n4_
                            have ne := ne_
                            clear ne_
                            have e := e_
                            clear e_
                            refine wpAnyH_relist (l' := #[true, true, true, true, true, true, false, true, false, false, false, false, false, true, true, false, false, false]) (by kernel_rfl) ?_
                            try simp only [Act.put, List.setIfInBounds_toArray, List.set_cons_zero, List.set_cons_succ]
                            clear hHeld
                            revert e
                            revert ne
                            revert n4
                            revert n3
                            revert st
                            revert V
                            revert b4
                            revert b3
                            revert r1
                            exact k1JD
                          exact AllReadyH.nil
                      · intro b3 b4 V st n3 n4 ne
                        have hHeld := SSS.out _ st.bw
                        refine wpAnyH_ready (rs := [4]) (by kernel_rfl) (by simp) ?_
                        refine AllReadyH.cons rfl (fun K hK => ?_) ?_
                        · go_simp
                          refine (CA.out _ _ st).mono ?_
                          rintro e0 V_ ⟨⟨r1, rfl, e_⟩, hb_⟩
                          have st_ := st.call hb_
                          have n3_ := n3.step hb_
                          have n4_ := n4.step hb_
                          clear hb_ st n3 n4
                          refine hK.out _ _ (SSS.out _ st_.bw) (fun hHeld => ?_)
                          clear hK
                          obtain ⟨V, hV_⟩ : ∃ X, X = V_ := ⟨_, rfl⟩
                          subst hV_
                          have st := st_
                          clear st_
                          have n3 := n3_
                          clear n3_
                          have n4 := n4_
                          clear n4_
                          have e := e_
                          clear e_
                          refine wpAnyH_relist (l' := #[true, true, true, true, true, true, false, true, false, false, false, false, false, true, true, false, false, false]) (by kernel_rfl) ?_
                          try simp only [Act.put, List.setIfInBounds_toArray, List.set_cons_zero, List.set_cons_succ]
                          clear hHeld
                          revert e
                          revert ne
                          revert n4
                          revert n3
                          revert st
                          revert V
                          revert b4
                          revert b3
                          revert r1
                          exact k1JD
                        exact AllReadyH.nil
                    · intro r1 r2 r3 s p V st e f
                      have hHeld := SSS.out _ st.bw
                      refine wpAnyH_ready (rs := [13, 14]) (by kernel_rfl) (by simp) ?_
                      refine AllReadyH.cons rfl (fun K hK => ?_) ?_
                      · go_simp
                        have st_ := st.alloc (.cells #[.slice none 0 0, .int .i64 0, .int .i64 0] 29)
                        have n3_ := Box3.new V (.slice none 0 0) (.int .i64 0) (.int .i64 0) 29
                        have e_ := e.boxed (.cells #[.slice none 0 0, .int .i64 0, .int .i64 0] 29)
                        have f_ := f.boxed (.cells #[.slice none 0 0, .int .i64 0, .int .i64 0] 29)
                        refine hK.out _ _ (SSS.out _ st_.bw) (fun hHeld => ?_)
                        clear hK
                        obtain ⟨V_, hW_⟩ : ∃ X, X = V.alloc (.cells #[.slice none 0 0, .int .i64 0, .int .i64 0] 29) := ⟨_, rfl⟩
                        obtain ⟨b3, hq_⟩ : ∃ y, y = V.heap.size := ⟨_, rfl⟩
                        rw [← hW_] at st_ n3_ e_ f_ hHeld ⊢
                        rw [← hq_] at st_ n3_ e_ f_ ⊢
                        clear hW_ hq_ st e f
                        obtain ⟨V, hV_⟩ : ∃ X, X = V_ := ⟨_, rfl⟩
                        subst hV_
                        have st := st_
                        clear st_
                        have n3 := n3_
                        clear n3_
                        have e := e_
                        clear e_
                        have f := f_
                        clear f_
                        refine wpAnyH_relist (l' := #[true, true, true, true, true, true, true, true, true, true, true, true, true, true, false, false, false, false]) (by kernel_rfl) ?_
                        try simp only [Act.put, List.setIfInBounds_toArray, List.set_cons_zero, List.set_cons_succ]
                        clear hHeld
                        revert f
                        revert e
                        revert n3
                        revert st
                        revert V
                        revert b3
                        revert p
                        revert s
                        revert r3
                        revert r2
                        revert r1
                        exact k3J
                      refine AllReadyH.cons rfl (fun K hK => ?_) ?_
                      · go_simp
                        have st_ := st.alloc (.cells #[.slice none 0 0, .slice none 0 0, .int .i64 0, .bool false] 25)
                        have n4_ := Box4.new V (.slice none 0 0) (.slice none 0 0) (.int .i64 0) (.bool false) 25
                        have e_ := e.boxed (.cells #[.slice none 0 0, .slice none 0 0, .int .i64 0, .bool false] 25)
                        have f_ := f.boxed (.cells #[.slice none 0 0, .slice none 0 0, .int .i64 0, .bool false] 25)
                        refine hK.out _ _ (SSS.out _ st_.bw) (fun hHeld => ?_)
                        clear hK
                        obtain ⟨V_, hW_⟩ : ∃ X, X = V.alloc (.cells #[.slice none 0 0, .slice none 0 0, .int .i64 0, .bool false] 25) := ⟨_, rfl⟩
                        obtain ⟨b4, hq_⟩ : ∃ y, y = V.heap.size := ⟨_, rfl⟩
                        rw [← hW_] at st_ n4_ e_ f_ hHeld ⊢
                        rw [← hq_] at st_ n4_ e_ f_ ⊢
                        clear hW_ hq_ st e f
                        obtain ⟨V, hV_⟩ : ∃ X, X = V_ := ⟨_, rfl⟩
                        subst hV_
                        have st := st_
                        clear st_
                        have n4 := n4_
                        clear n4_
                        have e := e_
                        clear e_
                        have f := f_
                        clear f_
                        refine wpAnyH_relist (l' := #[true, true, true, true, true, true, true, true, true, true, true, true, true, false, true, false, false, false]) (by kernel_rfl) ?_
                        try simp only [Act.put, List.setIfInBounds_toArray, List.set_cons_zero, List.set_cons_succ]
                        clear hHeld
                        revert f
                        revert e
                        revert n4
                        revert st
                        revert V
                        revert b4
                        revert p
                        revert s
                        revert r3
                        revert r2
                        revert r1
                        exact k3D
                      exact AllReadyH.nil
                  · intro r1 r2 b4 V st n4 e
                    have hHeld := SSS.out _ st.bw
                    refine wpAnyH_ready (rs := [8, 13]) (by kernel_rfl) (by simp) ?_
                    refine AllReadyH.cons rfl (fun K hK => ?_) ?_
                    · go_simp
                      refine (CS.out _ _ st _ e).mono ?_
                      rintro e0 V_ ⟨⟨r3, s, p, rfl, e_, f_⟩, hb_⟩
                      have st_ := st.call hb_
                      have n4_ := n4.step hb_
                      clear hb_ st n4 e
                      refine hK.out _ _ (SSS.out _ st_.bw) (fun hHeld => ?_)
                      clear hK
                      obtain ⟨V, hV_⟩ : ∃ X, X = V_ := ⟨_, rfl⟩
                      subst hV_
                      have st := st_
                      clear st_
                      have n4 := n4_
                      clear n4_
                      have e := e_
                      clear e_
                      have f := f_
                      clear f_
                      refine wpAnyH_take (i := 9) (v := ?_) rfl (by kernel_rfl) (by kernel_rfl) (by kernel_rfl) (fun _ _ _ h => h) (Or.inl ⟨by rfl, ?_⟩) (by assumption) ?_
                      rotate_left
                      · intro w hSw
                        (try dsimp only at hSw)
                        go_simp
                        try with_reducible rfl
                      simp only [Act.put, List.setIfInBounds_toArray, List.set_cons_zero, List.set_cons_succ]
                      refine wpAnyH_take (i := 10) (v := ?_) rfl (by kernel_rfl) (by kernel_rfl) (by kernel_rfl) (fun _ _ _ h => h) (Or.inl ⟨by rfl, ?_⟩) (by assumption) ?_
                      rotate_left
                      · intro w hSw
                        (try dsimp only at hSw)
                        go_simp
                        try with_reducible rfl
                      simp only [Act.put, List.setIfInBounds_toArray, List.set_cons_zero, List.set_cons_succ]
                      refine wpAnyH_take (i := 11) (v := ?_) rfl (by kernel_rfl) (by kernel_rfl) (by kernel_rfl) (fun _ _ _ h => h) (Or.inl ⟨by rfl, ?_⟩) (by assumption) ?_
                      rotate_left
                      · intro w hSw
                        (try dsimp only at hSw)
                        go_simp
                        try with_reducible rfl
                      simp only [Act.put, List.setIfInBounds_toArray, List.set_cons_zero, List.set_cons_succ]
                      refine wpAnyH_take (i := 12) (v := ?_) rfl (by kernel_rfl) (by kernel_rfl) (by kernel_rfl) (fun _ _ _ h => h) (Or.inl ⟨by rfl, ?_⟩) (by assumption) ?_
                      rotate_left
                      · intro w hSw
                        (try dsimp only at hSw)
                        go_simp
                        try with_reducible rfl
                      simp only [Act.put, List.setIfInBounds_toArray, List.set_cons_zero, List.set_cons_succ]
                      refine wpAnyH_relist (l' := #[true, true, true, true, true, true, true, true, true, true, true, true, true, false, true, false, false, false]) (by kernel_rfl) ?_
                      try simp only [Act.put, List.setIfInBounds_toArray, List.set_cons_zero, List.set_cons_succ]
                      clear hHeld
                      revert f
                      revert e
                      revert n4
                      revert st
                      revert V
                      revert b4
                      revert p
                      revert s
                      revert r3
                      revert r2
                      revert r1
                      exact k3D
                    refine AllReadyH.cons rfl (fun K hK => ?_) ?_
                    · go_simp
                      have st_ := st.alloc (.cells #[.slice none 0 0, .int .i64 0, .int .i64 0] 29)
                      have n3_ := Box3.new V (.slice none 0 0) (.int .i64 0) (.int .i64 0) 29
                      have n4_ := n4.step ((Below.refl _ _).alloc (Nat.le_refl _) (.cells #[.slice none 0 0, .int .i64 0, .int .i64 0] 29))
                      have ne_ : V.heap.size ≠ b4 := Nat.ne_of_gt n4.z
                      have e_ := e.boxed (.cells #[.slice none 0 0, .int .i64 0, .int .i64 0] 29)
                      refine hK.out _ _ (SSS.out _ st_.bw) (fun hHeld => ?_)
                      clear hK
                      obtain ⟨V_, hW_⟩ : ∃ X, X = V.alloc (.cells #[.slice none 0 0, .int .i64 0, .int .i64 0] 29) := ⟨_, rfl⟩
                      obtain ⟨b3, hq_⟩ : ∃ y, y = V.heap.size := ⟨_, rfl⟩
                      rw [← hW_] at st_ n3_ n4_ e_ hHeld ⊢
                      rw [← hq_] at st_ n3_ ne_ e_ ⊢
                      clear hW_ hq_ st n4 e
                      obtain ⟨V, hV_⟩ : ∃ X, X = V_ := ⟨_, rfl⟩
                      subst hV_
                      have st := st_
                      clear st_
                      have n3 := n3_
                      clear n3_
                      have n4 := n4_
                      clear n4_
                      have ne := ne_
                      clear ne_
                      have e := e_
                      clear e_
                      refine wpAnyH_relist (l' := #[true, true, true, true, true, true, true, true, false, false, false, false, false, true, true, false, false, false]) (by kernel_rfl) ?_
                      try simp only [Act.put, List.setIfInBounds_toArray, List.set_cons_zero, List.set_cons_succ]
                      clear hHeld
                      revert e
                      revert ne
                      revert n4
                      revert n3
                      revert st
                      revert V
                      revert b4
                      revert b3
                      revert r2
                      revert r1
                      exact k2JD
                    exact AllReadyH.nil
                · intro r1 r2 b3 V st n3 e
                  have hHeld := SSS.out _ st.bw
                  refine wpAnyH_ready (rs := [8, 14]) (by kernel_rfl) (by simp) ?_
                  refine AllReadyH.cons rfl (fun K hK => ?_) ?_
                  · go_simp
                    refine (CS.out _ _ st _ e).mono ?_
                    rintro e0 V_ ⟨⟨r3, s, p, rfl, e_, f_⟩, hb_⟩
                    have st_ := st.call hb_
                    have n3_ := n3.step hb_
                    clear hb_ st n3 e
                    refine hK.out _ _ (SSS.out _ st_.bw) (fun hHeld => ?_)
                    clear hK
                    obtain ⟨V, hV_⟩ : ∃ X, X = V_ := ⟨_, rfl⟩
                    subst hV_
                    have st := st_
                    clear st_
                    have n3 := n3_
                    clear n3_
                    have e := e_
                    clear e_
                    have f := f_
                    clear f_
                    refine wpAnyH_take (i := 9) (v := ?_) rfl (by kernel_rfl) (by kernel_rfl) (by kernel_rfl) (fun _ _ _ h => h) (Or.inl ⟨by rfl, ?_⟩) (by assumption) ?_
                    rotate_left
                    · intro w hSw
                      (try dsimp only at hSw)
                      go_simp
                      try with_reducible rfl
                    simp only [Act.put, List.setIfInBounds_toArray, List.set_cons_zero, List.set_cons_succ]
                    refine wpAnyH_take (i := 10) (v := ?_) rfl (by kernel_rfl) (by kernel_rfl) (by kernel_rfl) (fun _ _ _ h => h) (Or.inl ⟨by rfl, ?_⟩) (by assumption) ?_
                    rotate_left
                    · intro w hSw
                      (try dsimp only at hSw)
                      go_simp
                      try with_reducible rfl
                    simp only [Act.put, List.setIfInBounds_toArray, List.set_cons_zero, List.set_cons_succ]
                    refine wpAnyH_take (i := 11) (v := ?_) rfl (by kernel_rfl) (by kernel_rfl) (by kernel_rfl) (fun _ _ _ h => h) (Or.inl ⟨by rfl, ?_⟩) (by assumption) ?_
                    rotate_left
                    · intro w hSw
                      (try dsimp only at hSw)
                      go_simp
                      try with_reducible rfl
                    simp only [Act.put, List.setIfInBounds_toArray, List.set_cons_zero, List.set_cons_succ]
                    refine wpAnyH_take (i := 12) (v := ?_) rfl (by kernel_rfl) (by kernel_rfl) (by kernel_rfl) (fun _ _ _ h => h) (Or.inl ⟨by rfl, ?_⟩) (by assumption) ?_
                    rotate_left
                    · intro w hSw
                      (try dsimp only at hSw)
                      go_simp
                      try with_reducible rfl
                    simp only [Act.put, List.setIfInBounds_toArray, List.set_cons_zero, List.set_cons_succ]
                    refine wpAnyH_relist (l' := #[true, true, true, true, true, true, true, true, true, true, true, true, true, true, false, false, false, false]) (by kernel_rfl) ?_
                    try simp only [Act.put, List.setIfInBounds_toArray, List.set_cons_zero, List.set_cons_succ]
                    clear hHeld
                    revert f
                    revert e
                    revert n3
                    revert st
                    revert V
                    revert b3
                    revert p
                    revert s
                    revert r3
                    revert r2
                    revert r1
                    exact k3J
                  refine AllReadyH.cons rfl (fun K hK => ?_) ?_
                  · go_simp
                    have st_ := st.alloc (.cells #[.slice none 0 0, .slice none 0 0, .int .i64 0, .bool false] 25)
                    have n4_ := Box4.new V (.slice none 0 0) (.slice none 0 0) (.int .i64 0) (.bool false) 25
                    have n3_ := n3.step ((Below.refl _ _).alloc (Nat.le_refl _) (.cells #[.slice none 0 0, .slice none 0 0, .int .i64 0, .bool false] 25))
                    have ne_ : b3 ≠ V.heap.size := Nat.ne_of_lt n3.z
                    have e_ := e.boxed (.cells #[.slice none 0 0, .slice none 0 0, .int .i64 0, .bool false] 25)
                    refine hK.out _ _ (SSS.out _ st_.bw) (fun hHeld => ?_)
                    clear hK
                    obtain ⟨V_, hW_⟩ : ∃ X, X = V.alloc (.cells #[.slice none 0 0, .slice none 0 0, .int .i64 0, .bool false] 25) := ⟨_, rfl⟩
                    obtain ⟨b4, hq_⟩ : ∃ y, y = V.heap.size := ⟨_, rfl⟩
                    rw [← hW_] at st_ n4_ n3_ e_ hHeld ⊢
                    rw [← hq_] at st_ n4_ ne_ e_ ⊢
                    clear hW_ hq_ st n3 e
                    have st2_ := st_.swap
                    clear st_
                    have st_ := st2_
                    clear st2_
                    rw [PL_swap] at e_
                    obtain ⟨V, hV_⟩ : ∃ X, X = V_ := ⟨_, rfl⟩
                    subst hV_
                    have st := st_
                    clear st_
                    have n3 := n3_
                    clear n3_
                    have n4 := n4_
                    clear n4_
                    have ne := ne_
                    clear ne_
                    have e := e_
                    clear e_
                    refine wpAnyH_relist (l' := #[true, true, true, true, true, true, true, true, false, false, false, false, false, true, true, false, false, false]) (by kernel_rfl) ?_
                    try simp only [Act.put, List.setIfInBounds_toArray, List.set_cons_zero, List.set_cons_succ]
                    clear hHeld
                    revert e
                    revert ne
                    revert n4
                    revert n3
                    revert st
                    revert V
                    revert b4
                    revert b3
                    revert r2
                    revert r1
                    exact k2JD
                  exact AllReadyH.nil
              · intro r1 b3 b4 V st n3 n4 ne e
                have hHeld := SSS.out _ st.bw
                refine wpAnyH_ready (rs := [6]) (by kernel_rfl) (by simp) ?_
                refine AllReadyH.cons rfl (fun K hK => ?_) ?_
                · go_simp
                  refine (CB.out _ _ st _ e).mono ?_
                  rintro e0 V_ ⟨⟨r2, rfl, e_⟩, hb_⟩
                  have st_ := st.call hb_
                  have n3_ := n3.step hb_
                  have n4_ := n4.step hb_
                  clear hb_ st n3 n4 e
                  refine hK.out _ _ (SSS.out _ st_.bw) (fun hHeld => ?_)
                  clear hK
                  obtain ⟨V, hV_⟩ : ∃ X, X = V_ := ⟨_, rfl⟩
                  subst hV_
                  have st := st_
                  clear st_
                  have n3 := n3_
                  clear n3_
                  have n4 := n4_
                  clear n4_
                  have e := e_
                  clear e_
                  refine wpAnyH_relist (l' := #[true, true, true, true, true, true, true, true, false, false, false, false, false, true, true, false, false, false]) (by kernel_rfl) ?_
                  try simp only [Act.put, List.setIfInBounds_toArray, List.set_cons_zero, List.set_cons_succ]
                  clear hHeld
                  revert e
                  revert ne
                  revert n4
                  revert n3
                  revert st
                  revert V
                  revert b4
                  revert b3
                  revert r2
                  revert r1
                  exact k2JD
                exact AllReadyH.nil
            · intro r1 r2 r3 s p b4 V st n4 e f
              have hHeld := SSS.out _ st.bw
              refine wpAnyH_ready (rs := [13]) (by kernel_rfl) (by simp) ?_
              refine AllReadyH.cons rfl (fun K hK => ?_) ?_
              · go_simp
                have st_ := st.alloc (.cells #[.slice none 0 0, .int .i64 0, .int .i64 0] 29)
                have n3_ := Box3.new V (.slice none 0 0) (.int .i64 0) (.int .i64 0) 29
                have n4_ := n4.step ((Below.refl _ _).alloc (Nat.le_refl _) (.cells #[.slice none 0 0, .int .i64 0, .int .i64 0] 29))
                have ne_ : V.heap.size ≠ b4 := Nat.ne_of_gt n4.z
                have e_ := e.boxed (.cells #[.slice none 0 0, .int .i64 0, .int .i64 0] 29)
                have f_ := f.boxed (.cells #[.slice none 0 0, .int .i64 0, .int .i64 0] 29)
                refine hK.out _ _ (SSS.out _ st_.bw) (fun hHeld => ?_)
                clear hK
                obtain ⟨V_, hW_⟩ : ∃ X, X = V.alloc (.cells #[.slice none 0 0, .int .i64 0, .int .i64 0] 29) := ⟨_, rfl⟩
                obtain ⟨b3, hq_⟩ : ∃ y, y = V.heap.size := ⟨_, rfl⟩
                rw [← hW_] at st_ n3_ n4_ e_ f_ hHeld ⊢
                rw [← hq_] at st_ n3_ ne_ e_ f_ ⊢
                clear hW_ hq_ st n4 e f
                obtain ⟨V, hV_⟩ : ∃ X, X = V_ := ⟨_, rfl⟩
                subst hV_
                have st := st_
                clear st_
                have n3 := n3_
                clear n3_
                have n4 := n4_
                clear n4_
                have ne := ne_
                clear ne_
                have e := e_
                clear e_
                have f := f_
                clear f_
                refine wpAnyH_relist (l' := #[true, true, true, true, true, true, true, true, true, true, true, true, true, true, true, false, false, false]) (by kernel_rfl) ?_
                try simp only [Act.put, List.setIfInBounds_toArray, List.set_cons_zero, List.set_cons_succ]
                clear hHeld
                revert f
                revert e
                revert ne
                revert n4
                revert n3
                revert st
                revert V
                revert b4
                revert b3
                revert p
                revert s
                revert r3
                revert r2
                revert r1
                exact k3JD
              exact AllReadyH.nil
          · intro r1 r2 r3 s p b3 V st n3 e f
            have hHeld := SSS.out _ st.bw
            refine wpAnyH_ready (rs := [14]) (by kernel_rfl) (by simp) ?_
            refine AllReadyH.cons rfl (fun K hK => ?_) ?_
            · go_simp
              have st_ := st.alloc (.cells #[.slice none 0 0, .slice none 0 0, .int .i64 0, .bool false] 25)
              have n4_ := Box4.new V (.slice none 0 0) (.slice none 0 0) (.int .i64 0) (.bool false) 25
              have n3_ := n3.step ((Below.refl _ _).alloc (Nat.le_refl _) (.cells #[.slice none 0 0, .slice none 0 0, .int .i64 0, .bool false] 25))
              have ne_ : b3 ≠ V.heap.size := Nat.ne_of_lt n3.z
              have e_ := e.boxed (.cells #[.slice none 0 0, .slice none 0 0, .int .i64 0, .bool false] 25)
              have f_ := f.boxed (.cells #[.slice none 0 0, .slice none 0 0, .int .i64 0, .bool false] 25)
              refine hK.out _ _ (SSS.out _ st_.bw) (fun hHeld => ?_)
              clear hK
              obtain ⟨V_, hW_⟩ : ∃ X, X = V.alloc (.cells #[.slice none 0 0, .slice none 0 0, .int .i64 0, .bool false] 25) := ⟨_, rfl⟩
              obtain ⟨b4, hq_⟩ : ∃ y, y = V.heap.size := ⟨_, rfl⟩
              rw [← hW_] at st_ n4_ n3_ e_ f_ hHeld ⊢
              rw [← hq_] at st_ n4_ ne_ e_ f_ ⊢
              clear hW_ hq_ st n3 e f
              have st2_ := st_.swap
              clear st_
              have st_ := st2_
              clear st2_
              rw [PL_swap] at e_
              rw [PL_swap] at f_
              obtain ⟨V, hV_⟩ : ∃ X, X = V_ := ⟨_, rfl⟩
              subst hV_
              have st := st_
              clear st_
              have n3 := n3_
              clear n3_
              have n4 := n4_
              clear n4_
              have ne := ne_
              clear ne_
              have e := e_
              clear e_
              have f := f_
              clear f_
              refine wpAnyH_relist (l' := #[true, true, true, true, true, true, true, true, true, true, true, true, true, true, true, false, false, false]) (by kernel_rfl) ?_
              try simp only [Act.put, List.setIfInBounds_toArray, List.set_cons_zero, List.set_cons_succ]
              clear hHeld
              revert f
              revert e
              revert ne
              revert n4
              revert n3
              revert st
              revert V
              revert b4
              revert b3
              revert p
              revert s
              revert r3
              revert r2
              revert r1
              exact k3JD
            exact AllReadyH.nil
        · intro r1 r2 b3 b4 V st n3 n4 ne e
          have hHeld := SSS.out _ st.bw
          refine wpAnyH_ready (rs := [8]) (by kernel_rfl) (by simp) ?_
          refine AllReadyH.cons rfl (fun K hK => ?_) ?_
          · go_simp
            refine (CS.out _ _ st _ e).mono ?_
            rintro e0 V_ ⟨⟨r3, s, p, rfl, e_, f_⟩, hb_⟩
            have st_ := st.call hb_
            have n3_ := n3.step hb_
            have n4_ := n4.step hb_
            clear hb_ st n3 n4 e
            refine hK.out _ _ (SSS.out _ st_.bw) (fun hHeld => ?_)
            clear hK
            obtain ⟨V, hV_⟩ : ∃ X, X = V_ := ⟨_, rfl⟩
            subst hV_
            have st := st_
            clear st_
            have n3 := n3_
            clear n3_
            have n4 := n4_
            clear n4_
            have e := e_
            clear e_
            have f := f_
            clear f_
            refine wpAnyH_take (i := 9) (v := ?_) rfl (by kernel_rfl) (by kernel_rfl) (by kernel_rfl) (fun _ _ _ h => h) (Or.inl ⟨by rfl, ?_⟩) (by assumption) ?_
            rotate_left
            · intro w hSw
              (try dsimp only at hSw)
              go_simp
              try with_reducible rfl
            simp only [Act.put, List.setIfInBounds_toArray, List.set_cons_zero, List.set_cons_succ]
            refine wpAnyH_take (i := 10) (v := ?_) rfl (by kernel_rfl) (by kernel_rfl) (by kernel_rfl) (fun _ _ _ h => h) (Or.inl ⟨by rfl, ?_⟩) (by assumption) ?_
            rotate_left
            · intro w hSw
              (try dsimp only at hSw)
              go_simp
              try with_reducible rfl
            simp only [Act.put, List.setIfInBounds_toArray, List.set_cons_zero, List.set_cons_succ]
            refine wpAnyH_take (i := 11) (v := ?_) rfl (by kernel_rfl) (by kernel_rfl) (by kernel_rfl) (fun _ _ _ h => h) (Or.inl ⟨by rfl, ?_⟩) (by assumption) ?_
            rotate_left
            · intro w hSw
              (try dsimp only at hSw)
              go_simp
              try with_reducible rfl
            simp only [Act.put, List.setIfInBounds_toArray, List.set_cons_zero, List.set_cons_succ]
            refine wpAnyH_take (i := 12) (v := ?_) rfl (by kernel_rfl) (by kernel_rfl) (by kernel_rfl) (fun _ _ _ h => h) (Or.inl ⟨by rfl, ?_⟩) (by assumption) ?_
            rotate_left
            · intro w hSw
              (try dsimp only at hSw)
              go_simp
              try with_reducible rfl
            simp only [Act.put, List.setIfInBounds_toArray, List.set_cons_zero, List.set_cons_succ]
            refine wpAnyH_relist (l' := #[true, true, true, true, true, true, true, true, true, true, true, true, true, true, true, false, false, false]) (by kernel_rfl) ?_
            try simp only [Act.put, List.setIfInBounds_toArray, List.set_cons_zero, List.set_cons_succ]
            clear hHeld
            revert f
            revert e
            revert ne
            revert n4
            revert n3
            revert st
            revert V
            revert b4
            revert b3
            revert p
            revert s
            revert r3
            revert r2
            revert r1
            exact k3JD
          exact AllReadyH.nil
      · intro r1 r2 r3 s p b3 b4 V st n3 n4 ne e f
        have hHeld := SSS.out _ st.bw
        have hz := st.stored (b3 := b3) (b4 := b4) (by simp) (by simp) ne n3 n4 (.slice r3.a r3.n r3.c) (.int .i64 40) (.int .i64 BB.length) (.slice s.a s.n s.c) (.slice p.a p.n p.c) (.int .i64 C1.left) (.bool C1.stopped) e f
        have hy : Below W6.heap.size W6 (put3 V b3 (.slice r3.a r3.n r3.c) (.int .i64 40) (.int .i64 BB.length)) := put3_below st.bw (st.hi b3 (by simp)).1 _ _ _
        have hx : Box4 (put3 V b3 (.slice r3.a r3.n r3.c) (.int .i64 40) (.int .i64 BB.length)) b4 _ _ _ _ := n4.far (put3_keep _ _ _ _ _) (by simp only [ne_eq, Option.some.injEq]; exact ne)
        obtain ⟨x0, x1, x2, xf0, xf1, xf2, xz⟩ := n3
        refine wpAnyH_ready (rs := [15]) (by kernel_rfl) (by simp) ?_
        refine AllReadyH.cons rfl (fun K hK => ?_) ?_
        · go_simp
          obtain ⟨U1, hU⟩ : ∃ X, X = put3 V b3 (.slice r3.a r3.n r3.c) (.int .i64 40) (.int .i64 BB.length) := ⟨_, rfl⟩
          rw [← hU] at hz hy hx
          unfold put3 at hU
          rw [← hU]
          clear hU x0 x1 x2 xf0 xf1 xf2 xz
          refine hK.out _ _ (SSS.out _ hy) (fun hHeld => ?_)
          clear hK
          obtain ⟨x0, x1, x2, x3, xf0, xf1, xf2, xf3, xz⟩ := hx
          refine wpAnyH_ready (rs := [16]) (by kernel_rfl) (by simp) ?_
          refine AllReadyH.cons rfl (fun K hK => ?_) ?_
          · go_simp
            obtain ⟨Y1, hU⟩ : ∃ X, X = put4 U1 b4 (.slice s.a s.n s.c) (.slice p.a p.n p.c) (.int .i64 C1.left) (.bool C1.stopped) := ⟨_, rfl⟩
            rw [← hU] at hz
            unfold put4 at hU
            rw [← hU]
            clear hU x0 x1 x2 x3 xf0 xf1 xf2 xf3 xz
            refine hK.out _ _ (SSS.out _ hz.2.2.2.2) (fun hHeld => ?_)
            clear hK
            refine wpAnyH_ready (rs := [17]) (by kernel_rfl) (by simp) ?_
            refine AllReadyH.cons rfl (fun K hK => ?_) ?_
            · go_simp
              refine hK.out _ _ (SSS.out _ hz.2.2.2.2) (fun hHeld => ?_)
              clear hK
              refine wpAnyH_done (by kernel_rfl) ?_ _
              go_wp2_with fail
              go_meet
              exact ⟨b3, b4, r3, s, p, rfl, rfl, rfl, hz.1, hz.2.1, hz.2.2.1, hz.2.2.2.1, hz.2.2.2.2⟩
            exact AllReadyH.nil
          exact AllReadyH.nil
        exact AllReadyH.nil
    case rest =>
      obtain ⟨W7, hwc⟩ : ∃ X, X = wc := ⟨_, rfl⟩
      subst hwc
      obtain ⟨J1, E1, r1, s1, p1, rfl, rfl, rfl, hj1, he1, hr1, hd1, hb7⟩ := hcut
      have X1 := Lib.hid hj1
      have Y1 := Lib.hid he1
      have R1 := Lib.hid hr1
      have Q1 := Lib.hid hd1
      have HX7 := Lib.hid (HX6.out.step hb7)
      have HD7 := Lib.hid (HD6.out.step hb7)
      have HB7 := Lib.hid (HB6.out.trans (hb7.mono HB6.out.size))
      have HR7 := Lib.hid (HR6.out.step hb7)
      have HJ7 := Lib.hid (HJ6.out.step hb7)
      have HXW7 := Lib.hid (HXW.out.step hb7)
      have HYW7 := Lib.hid (HYW.out.step hb7)
      clear hj1 he1 hr1 hd1 hb7 HX6 HD6 HB6 HR6 HJ6 HXW HYW SSS CA CB CS st0
      have CA : Hid (∀ (L : List Nat) (W : World), StS W7 L W → Calls Try.prog 28 #[.agg #[.slice r.a r.n r.c, .int .i64 40, .int .i64 0], .slice A xs.length c] W fun e w' => (∃ r2 : Sl, e = .returned (.agg #[.slice r2.a r2.n r2.c, .int .i64 40, .int .i64 0]) ∧ Se w' (PL L) r2 AA) ∧ Below W.heap.size W w') := Lib.hid (fun L W st => by
        have h := add_any (P := PL L) (Nat.le_refl 40) ⟨[], 40, 0⟩ xs r ⟨A, xs.length, c⟩ W (st.base HR7.out) (st.base HXW7.out) HJ0.out HBX.out
        rw [HA1.out] at h
        unfold jlV at h
        simp only at h
        refine h.mono ?_
        rintro e w' ⟨⟨r2, rfl, h2⟩, hb⟩
        exact ⟨⟨r2, rfl, h2.mono (fun b hb => st.nw hb)⟩, hb⟩)
      have CS : Hid (∀ (L : List Nat) (W : World), StS W7 L W → ∀ r, Se W (PL L) r AA → Calls Try.prog 21 #[.agg #[.slice r.a r.n r.c, .int .i64 40, .int .i64 0], .agg #[.slice sd.a sd.n sd.c, .slice pd.a pd.n pd.c, .int .i64 (newK 40).left, .bool (newK 40).stopped]] W fun e w' => (∃ r2 s2 p2 : Sl, e = .returned (.tuple #[.agg #[.slice r2.a r2.n r2.c, .int .i64 40, .int .i64 AA.length], .agg #[.slice s2.a s2.n s2.c, .slice p2.a p2.n p2.c, .int .i64 C2.left, .bool C2.stopped], .int .i64 0]) ∧ Se w' (PL L) r2 AA ∧ Di w' (PL L) s2 p2 C2) ∧ Below W.heap.size W w') := Lib.hid (fun L W st r hr => by
        have h := JSync_any (P := PL L) ⟨AA, 40, 0⟩ (newK 40) r sd pd W hr (st.baseD HD7.out)
        unfold SyncP at h
        rw [HS2.out] at h
        unfold jlV dkV at h
        simp only at h
        refine h.mono ?_
        rintro e w' ⟨⟨r2, s2, p2, rfl, h2, h3⟩, hb⟩
        exact ⟨⟨r2, s2, p2, rfl, h2.mono (fun b hb => st.nw hb), h3.mono (fun b hb => st.nw hb)⟩, hb⟩)
      go_upto_region 11 with fail
      have SSS : Hid (∀ W, Below W7.heap.size W7 W → (fun W => W.cell? ⟨J, 0, none⟩ = some (.slice r.a r.n r.c) ∧ W.cell? ⟨J, 1, none⟩ = some (.int .i64 40) ∧ W.cell? ⟨J, 2, none⟩ = some (.int .i64 0) ∧ W.cell? ⟨B, 0, none⟩ = some (.slice sd.a sd.n sd.c) ∧ W.cell? ⟨B, 1, none⟩ = some (.slice pd.a pd.n pd.c) ∧ W.cell? ⟨B, 2, none⟩ = some (.int .i64 (newK 40).left) ∧ W.cell? ⟨B, 3, none⟩ = some (.bool (newK 40).stopped)) W) := Lib.hid (fun W h => ⟨(HJ7.out.step h).c0, (HJ7.out.step h).c1, (HJ7.out.step h).c2, (HX7.out.step h).c0, (HX7.out.step h).c1, (HX7.out.step h).c2, (HX7.out.step h).c3⟩)
      have st0 := StS.first W7
      go_cut [13, 14, 15] (fun ta tb tc wx => ∃ (b3 b4 : Nat) (r s p : Sl), ta = .pointer (some ⟨b3, 0, none⟩) ∧ tb = .pointer (some ⟨b4, 0, none⟩) ∧ tc = .int .i64 0 ∧ Box3 wx b3 (.slice r.a r.n r.c) (.int .i64 40) (.int .i64 AA.length) ∧ Box4 wx b4 (.slice s.a s.n s.c) (.slice p.a p.n p.c) (.int .i64 C2.left) (.bool C2.stopped) ∧ Se wx everyB r AA ∧ Di wx everyB s p C2 ∧ Below W7.heap.size W7 wx)
      case first =>
        refine wp_region_held_drew (S := (fun W => W.cell? ⟨J, 0, none⟩ = some (.slice r.a r.n r.c) ∧ W.cell? ⟨J, 1, none⟩ = some (.int .i64 40) ∧ W.cell? ⟨J, 2, none⟩ = some (.int .i64 0) ∧ W.cell? ⟨B, 0, none⟩ = some (.slice sd.a sd.n sd.c) ∧ W.cell? ⟨B, 1, none⟩ = some (.slice pd.a pd.n pd.c) ∧ W.cell? ⟨B, 2, none⟩ = some (.int .i64 (newK 40).left) ∧ W.cell? ⟨B, 3, none⟩ = some (.bool (newK 40).stopped))) (by kernel_rfl) (SSS.out _ st0.bw) (fun hHeld => ?_)
        refine wpAnyH_take (i := 0) (v := ?_) rfl (by kernel_rfl) (by kernel_rfl) (by kernel_rfl) (fun _ _ _ h => h) (Or.inl ⟨by rfl, ?_⟩) (by assumption) ?_
        rotate_left
        · intro w hSw
          (try dsimp only at hSw)
          go_simp
          try with_reducible rfl
        simp only [Act.put, List.setIfInBounds_toArray, List.set_cons_zero, List.set_cons_succ]
        refine wpAnyH_take (i := 1) (v := ?_) rfl (by kernel_rfl) (by kernel_rfl) (by kernel_rfl) (fun _ _ _ h => h) (Or.inl ⟨by rfl, ?_⟩) (by assumption) ?_
        rotate_left
        · intro w hSw
          (try dsimp only at hSw)
          go_simp
          try with_reducible rfl
        simp only [Act.put, List.setIfInBounds_toArray, List.set_cons_zero, List.set_cons_succ]
        refine wpAnyH_take (i := 2) (v := ?_) rfl (by kernel_rfl) (by kernel_rfl) (by kernel_rfl) (fun _ _ _ h => h) (Or.inl ⟨by rfl, ?_⟩) (by assumption) ?_
        rotate_left
        · intro w hSw
          (try dsimp only at hSw)
          go_simp
          try with_reducible rfl
        simp only [Act.put, List.setIfInBounds_toArray, List.set_cons_zero, List.set_cons_succ]
        refine wpAnyH_take (i := 4) (v := ?_) rfl (by kernel_rfl) (by kernel_rfl) (by kernel_rfl) (fun _ _ _ h => h) (Or.inl ⟨by rfl, ?_⟩) (by assumption) ?_
        rotate_left
        · intro w hSw
          (try dsimp only at hSw)
          go_simp
          try with_reducible rfl
        simp only [Act.put, List.setIfInBounds_toArray, List.set_cons_zero, List.set_cons_succ]
        clear hHeld
        apply merge
        · intro k2JD
          apply merge
          · intro k1JD
            apply merge
            · intro k2J
              apply merge
              · intro k2D
                apply merge
                · intro k0JD
                  apply merge
                  · intro k1J
                    apply merge
                    · intro k1D
                      apply merge
                      · intro k2
                        apply merge
                        · intro k0J
                          apply merge
                          · intro k0D
                            apply merge
                            · intro k1
                              obtain ⟨V, hW0⟩ : ∃ X, X = W7.drew := ⟨_, rfl⟩
                              have st := st0
                              rw [← hW0] at st ⊢
                              clear hW0
                              have hHeld := SSS.out _ st.bw
                              refine wpAnyH_ready (rs := [3, 10, 11]) (by kernel_rfl) (by simp) ?_
                              refine AllReadyH.cons rfl (fun K hK => ?_) ?_
                              · go_simp
                                refine (CA.out _ _ st).mono ?_
                                rintro e0 V_ ⟨⟨r1, rfl, e_⟩, hb_⟩
                                have st_ := st.call hb_
                                clear hb_ st 
                                refine hK.out _ _ (SSS.out _ st_.bw) (fun hHeld => ?_)
                                clear hK
                                obtain ⟨V, hV_⟩ : ∃ X, X = V_ := ⟨_, rfl⟩
                                subst hV_
                                have st := st_
                                clear st_
                                have e := e_
                                clear e_
                                refine wpAnyH_relist (l' := #[true, true, true, true, true, false, false, false, false, false, false, false, false, false, false]) (by kernel_rfl) ?_
                                try simp only [Act.put, List.setIfInBounds_toArray, List.set_cons_zero, List.set_cons_succ]
                                clear hHeld
                                revert e
                                revert st
                                revert V
                                revert r1
                                exact k1
                              refine AllReadyH.cons rfl (fun K hK => ?_) ?_
                              · go_simp
                                have st_ := st.alloc (.cells #[.slice none 0 0, .int .i64 0, .int .i64 0] 29)
                                have n3_ := Box3.new V (.slice none 0 0) (.int .i64 0) (.int .i64 0) 29
                                refine hK.out _ _ (SSS.out _ st_.bw) (fun hHeld => ?_)
                                clear hK
                                obtain ⟨V_, hW_⟩ : ∃ X, X = V.alloc (.cells #[.slice none 0 0, .int .i64 0, .int .i64 0] 29) := ⟨_, rfl⟩
                                obtain ⟨b3, hq_⟩ : ∃ y, y = V.heap.size := ⟨_, rfl⟩
                                rw [← hW_] at st_ n3_ hHeld ⊢
                                rw [← hq_] at st_ n3_ ⊢
                                clear hW_ hq_ st
                                obtain ⟨V, hV_⟩ : ∃ X, X = V_ := ⟨_, rfl⟩
                                subst hV_
                                have st := st_
                                clear st_
                                have n3 := n3_
                                clear n3_
                                refine wpAnyH_relist (l' := #[true, true, true, false, true, false, false, false, false, false, true, false, false, false, false]) (by kernel_rfl) ?_
                                try simp only [Act.put, List.setIfInBounds_toArray, List.set_cons_zero, List.set_cons_succ]
                                clear hHeld
                                revert n3
                                revert st
                                revert V
                                revert b3
                                exact k0J
                              refine AllReadyH.cons rfl (fun K hK => ?_) ?_
                              · go_simp
                                have st_ := st.alloc (.cells #[.slice none 0 0, .slice none 0 0, .int .i64 0, .bool false] 25)
                                have n4_ := Box4.new V (.slice none 0 0) (.slice none 0 0) (.int .i64 0) (.bool false) 25
                                refine hK.out _ _ (SSS.out _ st_.bw) (fun hHeld => ?_)
                                clear hK
                                obtain ⟨V_, hW_⟩ : ∃ X, X = V.alloc (.cells #[.slice none 0 0, .slice none 0 0, .int .i64 0, .bool false] 25) := ⟨_, rfl⟩
                                obtain ⟨b4, hq_⟩ : ∃ y, y = V.heap.size := ⟨_, rfl⟩
                                rw [← hW_] at st_ n4_ hHeld ⊢
                                rw [← hq_] at st_ n4_ ⊢
                                clear hW_ hq_ st
                                obtain ⟨V, hV_⟩ : ∃ X, X = V_ := ⟨_, rfl⟩
                                subst hV_
                                have st := st_
                                clear st_
                                have n4 := n4_
                                clear n4_
                                refine wpAnyH_relist (l' := #[true, true, true, false, true, false, false, false, false, false, false, true, false, false, false]) (by kernel_rfl) ?_
                                try simp only [Act.put, List.setIfInBounds_toArray, List.set_cons_zero, List.set_cons_succ]
                                clear hHeld
                                revert n4
                                revert st
                                revert V
                                revert b4
                                exact k0D
                              exact AllReadyH.nil
                            · intro r1 V st e
                              have hHeld := SSS.out _ st.bw
                              refine wpAnyH_ready (rs := [5, 10, 11]) (by kernel_rfl) (by simp) ?_
                              refine AllReadyH.cons rfl (fun K hK => ?_) ?_
                              · go_simp
                                refine (CS.out _ _ st _ e).mono ?_
                                rintro e0 V_ ⟨⟨r2, s, p, rfl, e_, f_⟩, hb_⟩
                                have st_ := st.call hb_
                                clear hb_ st e
                                refine hK.out _ _ (SSS.out _ st_.bw) (fun hHeld => ?_)
                                clear hK
                                obtain ⟨V, hV_⟩ : ∃ X, X = V_ := ⟨_, rfl⟩
                                subst hV_
                                have st := st_
                                clear st_
                                have e := e_
                                clear e_
                                have f := f_
                                clear f_
                                refine wpAnyH_take (i := 6) (v := ?_) rfl (by kernel_rfl) (by kernel_rfl) (by kernel_rfl) (fun _ _ _ h => h) (Or.inl ⟨by rfl, ?_⟩) (by assumption) ?_
                                rotate_left
                                · intro w hSw
                                  (try dsimp only at hSw)
                                  go_simp
                                  try with_reducible rfl
                                simp only [Act.put, List.setIfInBounds_toArray, List.set_cons_zero, List.set_cons_succ]
                                refine wpAnyH_take (i := 7) (v := ?_) rfl (by kernel_rfl) (by kernel_rfl) (by kernel_rfl) (fun _ _ _ h => h) (Or.inl ⟨by rfl, ?_⟩) (by assumption) ?_
                                rotate_left
                                · intro w hSw
                                  (try dsimp only at hSw)
                                  go_simp
                                  try with_reducible rfl
                                simp only [Act.put, List.setIfInBounds_toArray, List.set_cons_zero, List.set_cons_succ]
                                refine wpAnyH_take (i := 8) (v := ?_) rfl (by kernel_rfl) (by kernel_rfl) (by kernel_rfl) (fun _ _ _ h => h) (Or.inl ⟨by rfl, ?_⟩) (by assumption) ?_
                                rotate_left
                                · intro w hSw
                                  (try dsimp only at hSw)
                                  go_simp
                                  try with_reducible rfl
                                simp only [Act.put, List.setIfInBounds_toArray, List.set_cons_zero, List.set_cons_succ]
                                refine wpAnyH_take (i := 9) (v := ?_) rfl (by kernel_rfl) (by kernel_rfl) (by kernel_rfl) (fun _ _ _ h => h) (Or.inl ⟨by rfl, ?_⟩) (by assumption) ?_
                                rotate_left
                                · intro w hSw
                                  (try dsimp only at hSw)
                                  go_simp
                                  try with_reducible rfl
                                simp only [Act.put, List.setIfInBounds_toArray, List.set_cons_zero, List.set_cons_succ]
                                refine wpAnyH_relist (l' := #[true, true, true, true, true, true, true, true, true, true, false, false, false, false, false]) (by kernel_rfl) ?_
                                try simp only [Act.put, List.setIfInBounds_toArray, List.set_cons_zero, List.set_cons_succ]
                                clear hHeld
                                revert f
                                revert e
                                revert st
                                revert V
                                revert p
                                revert s
                                revert r2
                                revert r1
                                exact k2
                              refine AllReadyH.cons rfl (fun K hK => ?_) ?_
                              · go_simp
                                have st_ := st.alloc (.cells #[.slice none 0 0, .int .i64 0, .int .i64 0] 29)
                                have n3_ := Box3.new V (.slice none 0 0) (.int .i64 0) (.int .i64 0) 29
                                have e_ := e.boxed (.cells #[.slice none 0 0, .int .i64 0, .int .i64 0] 29)
                                refine hK.out _ _ (SSS.out _ st_.bw) (fun hHeld => ?_)
                                clear hK
                                obtain ⟨V_, hW_⟩ : ∃ X, X = V.alloc (.cells #[.slice none 0 0, .int .i64 0, .int .i64 0] 29) := ⟨_, rfl⟩
                                obtain ⟨b3, hq_⟩ : ∃ y, y = V.heap.size := ⟨_, rfl⟩
                                rw [← hW_] at st_ n3_ e_ hHeld ⊢
                                rw [← hq_] at st_ n3_ e_ ⊢
                                clear hW_ hq_ st e
                                obtain ⟨V, hV_⟩ : ∃ X, X = V_ := ⟨_, rfl⟩
                                subst hV_
                                have st := st_
                                clear st_
                                have n3 := n3_
                                clear n3_
                                have e := e_
                                clear e_
                                refine wpAnyH_relist (l' := #[true, true, true, true, true, false, false, false, false, false, true, false, false, false, false]) (by kernel_rfl) ?_
                                try simp only [Act.put, List.setIfInBounds_toArray, List.set_cons_zero, List.set_cons_succ]
                                clear hHeld
                                revert e
                                revert n3
                                revert st
                                revert V
                                revert b3
                                revert r1
                                exact k1J
                              refine AllReadyH.cons rfl (fun K hK => ?_) ?_
                              · go_simp
                                have st_ := st.alloc (.cells #[.slice none 0 0, .slice none 0 0, .int .i64 0, .bool false] 25)
                                have n4_ := Box4.new V (.slice none 0 0) (.slice none 0 0) (.int .i64 0) (.bool false) 25
                                have e_ := e.boxed (.cells #[.slice none 0 0, .slice none 0 0, .int .i64 0, .bool false] 25)
                                refine hK.out _ _ (SSS.out _ st_.bw) (fun hHeld => ?_)
                                clear hK
                                obtain ⟨V_, hW_⟩ : ∃ X, X = V.alloc (.cells #[.slice none 0 0, .slice none 0 0, .int .i64 0, .bool false] 25) := ⟨_, rfl⟩
                                obtain ⟨b4, hq_⟩ : ∃ y, y = V.heap.size := ⟨_, rfl⟩
                                rw [← hW_] at st_ n4_ e_ hHeld ⊢
                                rw [← hq_] at st_ n4_ e_ ⊢
                                clear hW_ hq_ st e
                                obtain ⟨V, hV_⟩ : ∃ X, X = V_ := ⟨_, rfl⟩
                                subst hV_
                                have st := st_
                                clear st_
                                have n4 := n4_
                                clear n4_
                                have e := e_
                                clear e_
                                refine wpAnyH_relist (l' := #[true, true, true, true, true, false, false, false, false, false, false, true, false, false, false]) (by kernel_rfl) ?_
                                try simp only [Act.put, List.setIfInBounds_toArray, List.set_cons_zero, List.set_cons_succ]
                                clear hHeld
                                revert e
                                revert n4
                                revert st
                                revert V
                                revert b4
                                revert r1
                                exact k1D
                              exact AllReadyH.nil
                          · intro b4 V st n4
                            have hHeld := SSS.out _ st.bw
                            refine wpAnyH_ready (rs := [3, 10]) (by kernel_rfl) (by simp) ?_
                            refine AllReadyH.cons rfl (fun K hK => ?_) ?_
                            · go_simp
                              refine (CA.out _ _ st).mono ?_
                              rintro e0 V_ ⟨⟨r1, rfl, e_⟩, hb_⟩
                              have st_ := st.call hb_
                              have n4_ := n4.step hb_
                              clear hb_ st n4
                              refine hK.out _ _ (SSS.out _ st_.bw) (fun hHeld => ?_)
                              clear hK
                              obtain ⟨V, hV_⟩ : ∃ X, X = V_ := ⟨_, rfl⟩
                              subst hV_
                              have st := st_
                              clear st_
                              have n4 := n4_
                              clear n4_
                              have e := e_
                              clear e_
                              refine wpAnyH_relist (l' := #[true, true, true, true, true, false, false, false, false, false, false, true, false, false, false]) (by kernel_rfl) ?_
                              try simp only [Act.put, List.setIfInBounds_toArray, List.set_cons_zero, List.set_cons_succ]
                              clear hHeld
                              revert e
                              revert n4
                              revert st
                              revert V
                              revert b4
                              revert r1
                              exact k1D
                            refine AllReadyH.cons rfl (fun K hK => ?_) ?_
                            · go_simp
                              have st_ := st.alloc (.cells #[.slice none 0 0, .int .i64 0, .int .i64 0] 29)
                              have n3_ := Box3.new V (.slice none 0 0) (.int .i64 0) (.int .i64 0) 29
                              have n4_ := n4.step ((Below.refl _ _).alloc (Nat.le_refl _) (.cells #[.slice none 0 0, .int .i64 0, .int .i64 0] 29))
                              have ne_ : V.heap.size ≠ b4 := Nat.ne_of_gt n4.z
                              refine hK.out _ _ (SSS.out _ st_.bw) (fun hHeld => ?_)
                              clear hK
                              obtain ⟨V_, hW_⟩ : ∃ X, X = V.alloc (.cells #[.slice none 0 0, .int .i64 0, .int .i64 0] 29) := ⟨_, rfl⟩
                              obtain ⟨b3, hq_⟩ : ∃ y, y = V.heap.size := ⟨_, rfl⟩
                              rw [← hW_] at st_ n3_ n4_ hHeld ⊢
                              rw [← hq_] at st_ n3_ ne_ ⊢
                              clear hW_ hq_ st n4
                              obtain ⟨V, hV_⟩ : ∃ X, X = V_ := ⟨_, rfl⟩
                              subst hV_
                              have st := st_
                              clear st_
                              have n3 := n3_
                              clear n3_
                              have n4 := n4_
                              clear n4_
                              have ne := ne_
                              clear ne_
                              refine wpAnyH_relist (l' := #[true, true, true, false, true, false, false, false, false, false, true, true, false, false, false]) (by kernel_rfl) ?_
                              try simp only [Act.put, List.setIfInBounds_toArray, List.set_cons_zero, List.set_cons_succ]
                              clear hHeld
                              revert ne
                              revert n4
                              revert n3
                              revert st
                              revert V
                              revert b4
                              revert b3
                              exact k0JD
                            exact AllReadyH.nil
                        · intro b3 V st n3
                          have hHeld := SSS.out _ st.bw
                          refine wpAnyH_ready (rs := [3, 11]) (by kernel_rfl) (by simp) ?_
                          refine AllReadyH.cons rfl (fun K hK => ?_) ?_
                          · go_simp
                            refine (CA.out _ _ st).mono ?_
                            rintro e0 V_ ⟨⟨r1, rfl, e_⟩, hb_⟩
                            have st_ := st.call hb_
                            have n3_ := n3.step hb_
                            clear hb_ st n3
                            refine hK.out _ _ (SSS.out _ st_.bw) (fun hHeld => ?_)
                            clear hK
                            obtain ⟨V, hV_⟩ : ∃ X, X = V_ := ⟨_, rfl⟩
                            subst hV_
                            have st := st_
                            clear st_
                            have n3 := n3_
                            clear n3_
                            have e := e_
                            clear e_
                            refine wpAnyH_relist (l' := #[true, true, true, true, true, false, false, false, false, false, true, false, false, false, false]) (by kernel_rfl) ?_
                            try simp only [Act.put, List.setIfInBounds_toArray, List.set_cons_zero, List.set_cons_succ]
                            clear hHeld
                            revert e
                            revert n3
                            revert st
                            revert V
                            revert b3
                            revert r1
                            exact k1J
                          refine AllReadyH.cons rfl (fun K hK => ?_) ?_
                          · go_simp
                            have st_ := st.alloc (.cells #[.slice none 0 0, .slice none 0 0, .int .i64 0, .bool false] 25)
                            have n4_ := Box4.new V (.slice none 0 0) (.slice none 0 0) (.int .i64 0) (.bool false) 25
                            have n3_ := n3.step ((Below.refl _ _).alloc (Nat.le_refl _) (.cells #[.slice none 0 0, .slice none 0 0, .int .i64 0, .bool false] 25))
                            have ne_ : b3 ≠ V.heap.size := Nat.ne_of_lt n3.z
                            refine hK.out _ _ (SSS.out _ st_.bw) (fun hHeld => ?_)
                            clear hK
                            obtain ⟨V_, hW_⟩ : ∃ X, X = V.alloc (.cells #[.slice none 0 0, .slice none 0 0, .int .i64 0, .bool false] 25) := ⟨_, rfl⟩
                            obtain ⟨b4, hq_⟩ : ∃ y, y = V.heap.size := ⟨_, rfl⟩
                            rw [← hW_] at st_ n4_ n3_ hHeld ⊢
                            rw [← hq_] at st_ n4_ ne_ ⊢
                            clear hW_ hq_ st n3
                            have st2_ := st_.swap
                            clear st_
                            have st_ := st2_
                            clear st2_
                            obtain ⟨V, hV_⟩ : ∃ X, X = V_ := ⟨_, rfl⟩
                            subst hV_
                            have st := st_
                            clear st_
                            have n3 := n3_
                            clear n3_
                            have n4 := n4_
                            clear n4_
                            have ne := ne_
                            clear ne_
                            refine wpAnyH_relist (l' := #[true, true, true, false, true, false, false, false, false, false, true, true, false, false, false]) (by kernel_rfl) ?_
                            try simp only [Act.put, List.setIfInBounds_toArray, List.set_cons_zero, List.set_cons_succ]
                            clear hHeld
                            revert ne
                            revert n4
                            revert n3
                            revert st
                            revert V
                            revert b4
                            revert b3
                            exact k0JD
                          exact AllReadyH.nil
                      · intro r1 r2 s p V st e f
                        have hHeld := SSS.out _ st.bw
                        refine wpAnyH_ready (rs := [10, 11]) (by kernel_rfl) (by simp) ?_
                        refine AllReadyH.cons rfl (fun K hK => ?_) ?_
                        · go_simp
                          have st_ := st.alloc (.cells #[.slice none 0 0, .int .i64 0, .int .i64 0] 29)
                          have n3_ := Box3.new V (.slice none 0 0) (.int .i64 0) (.int .i64 0) 29
                          have e_ := e.boxed (.cells #[.slice none 0 0, .int .i64 0, .int .i64 0] 29)
                          have f_ := f.boxed (.cells #[.slice none 0 0, .int .i64 0, .int .i64 0] 29)
                          refine hK.out _ _ (SSS.out _ st_.bw) (fun hHeld => ?_)
                          clear hK
                          obtain ⟨V_, hW_⟩ : ∃ X, X = V.alloc (.cells #[.slice none 0 0, .int .i64 0, .int .i64 0] 29) := ⟨_, rfl⟩
                          obtain ⟨b3, hq_⟩ : ∃ y, y = V.heap.size := ⟨_, rfl⟩
                          rw [← hW_] at st_ n3_ e_ f_ hHeld ⊢
                          rw [← hq_] at st_ n3_ e_ f_ ⊢
                          clear hW_ hq_ st e f
                          obtain ⟨V, hV_⟩ : ∃ X, X = V_ := ⟨_, rfl⟩
                          subst hV_
                          have st := st_
                          clear st_
                          have n3 := n3_
                          clear n3_
                          have e := e_
                          clear e_
                          have f := f_
                          clear f_
                          refine wpAnyH_relist (l' := #[true, true, true, true, true, true, true, true, true, true, true, false, false, false, false]) (by kernel_rfl) ?_
                          try simp only [Act.put, List.setIfInBounds_toArray, List.set_cons_zero, List.set_cons_succ]
                          clear hHeld
                          revert f
                          revert e
                          revert n3
                          revert st
                          revert V
                          revert b3
                          revert p
                          revert s
                          revert r2
                          revert r1
                          exact k2J
                        refine AllReadyH.cons rfl (fun K hK => ?_) ?_
                        · go_simp
                          have st_ := st.alloc (.cells #[.slice none 0 0, .slice none 0 0, .int .i64 0, .bool false] 25)
                          have n4_ := Box4.new V (.slice none 0 0) (.slice none 0 0) (.int .i64 0) (.bool false) 25
                          have e_ := e.boxed (.cells #[.slice none 0 0, .slice none 0 0, .int .i64 0, .bool false] 25)
                          have f_ := f.boxed (.cells #[.slice none 0 0, .slice none 0 0, .int .i64 0, .bool false] 25)
                          refine hK.out _ _ (SSS.out _ st_.bw) (fun hHeld => ?_)
                          clear hK
                          obtain ⟨V_, hW_⟩ : ∃ X, X = V.alloc (.cells #[.slice none 0 0, .slice none 0 0, .int .i64 0, .bool false] 25) := ⟨_, rfl⟩
                          obtain ⟨b4, hq_⟩ : ∃ y, y = V.heap.size := ⟨_, rfl⟩
                          rw [← hW_] at st_ n4_ e_ f_ hHeld ⊢
                          rw [← hq_] at st_ n4_ e_ f_ ⊢
                          clear hW_ hq_ st e f
                          obtain ⟨V, hV_⟩ : ∃ X, X = V_ := ⟨_, rfl⟩
                          subst hV_
                          have st := st_
                          clear st_
                          have n4 := n4_
                          clear n4_
                          have e := e_
                          clear e_
                          have f := f_
                          clear f_
                          refine wpAnyH_relist (l' := #[true, true, true, true, true, true, true, true, true, true, false, true, false, false, false]) (by kernel_rfl) ?_
                          try simp only [Act.put, List.setIfInBounds_toArray, List.set_cons_zero, List.set_cons_succ]
                          clear hHeld
                          revert f
                          revert e
                          revert n4
                          revert st
                          revert V
                          revert b4
                          revert p
                          revert s
                          revert r2
                          revert r1
                          exact k2D
                        exact AllReadyH.nil
                    · intro r1 b4 V st n4 e
                      have hHeld := SSS.out _ st.bw
                      refine wpAnyH_ready (rs := [5, 10]) (by kernel_rfl) (by simp) ?_
                      refine AllReadyH.cons rfl (fun K hK => ?_) ?_
                      · go_simp
                        refine (CS.out _ _ st _ e).mono ?_
                        rintro e0 V_ ⟨⟨r2, s, p, rfl, e_, f_⟩, hb_⟩
                        have st_ := st.call hb_
                        have n4_ := n4.step hb_
                        clear hb_ st n4 e
                        refine hK.out _ _ (SSS.out _ st_.bw) (fun hHeld => ?_)
                        clear hK
                        obtain ⟨V, hV_⟩ : ∃ X, X = V_ := ⟨_, rfl⟩
                        subst hV_
                        have st := st_
                        clear st_
                        have n4 := n4_
                        clear n4_
                        have e := e_
                        clear e_
                        have f := f_
                        clear f_
                        refine wpAnyH_take (i := 6) (v := ?_) rfl (by kernel_rfl) (by kernel_rfl) (by kernel_rfl) (fun _ _ _ h => h) (Or.inl ⟨by rfl, ?_⟩) (by assumption) ?_
                        rotate_left
                        · intro w hSw
                          (try dsimp only at hSw)
                          go_simp
                          try with_reducible rfl
                        simp only [Act.put, List.setIfInBounds_toArray, List.set_cons_zero, List.set_cons_succ]
                        refine wpAnyH_take (i := 7) (v := ?_) rfl (by kernel_rfl) (by kernel_rfl) (by kernel_rfl) (fun _ _ _ h => h) (Or.inl ⟨by rfl, ?_⟩) (by assumption) ?_
                        rotate_left
                        · intro w hSw
                          (try dsimp only at hSw)
                          go_simp
                          try with_reducible rfl
                        simp only [Act.put, List.setIfInBounds_toArray, List.set_cons_zero, List.set_cons_succ]
                        refine wpAnyH_take (i := 8) (v := ?_) rfl (by kernel_rfl) (by kernel_rfl) (by kernel_rfl) (fun _ _ _ h => h) (Or.inl ⟨by rfl, ?_⟩) (by assumption) ?_
                        rotate_left
                        · intro w hSw
                          (try dsimp only at hSw)
                          go_simp
                          try with_reducible rfl
                        simp only [Act.put, List.setIfInBounds_toArray, List.set_cons_zero, List.set_cons_succ]
                        refine wpAnyH_take (i := 9) (v := ?_) rfl (by kernel_rfl) (by kernel_rfl) (by kernel_rfl) (fun _ _ _ h => h) (Or.inl ⟨by rfl, ?_⟩) (by assumption) ?_
                        rotate_left
                        · intro w hSw
                          (try dsimp only at hSw)
                          go_simp
                          try with_reducible rfl
                        simp only [Act.put, List.setIfInBounds_toArray, List.set_cons_zero, List.set_cons_succ]
                        refine wpAnyH_relist (l' := #[true, true, true, true, true, true, true, true, true, true, false, true, false, false, false]) (by kernel_rfl) ?_
                        try simp only [Act.put, List.setIfInBounds_toArray, List.set_cons_zero, List.set_cons_succ]
                        clear hHeld
                        revert f
                        revert e
                        revert n4
                        revert st
                        revert V
                        revert b4
                        revert p
                        revert s
                        revert r2
                        revert r1
                        exact k2D
                      refine AllReadyH.cons rfl (fun K hK => ?_) ?_
                      · go_simp
                        have st_ := st.alloc (.cells #[.slice none 0 0, .int .i64 0, .int .i64 0] 29)
                        have n3_ := Box3.new V (.slice none 0 0) (.int .i64 0) (.int .i64 0) 29
                        have n4_ := n4.step ((Below.refl _ _).alloc (Nat.le_refl _) (.cells #[.slice none 0 0, .int .i64 0, .int .i64 0] 29))
                        have ne_ : V.heap.size ≠ b4 := Nat.ne_of_gt n4.z
                        have e_ := e.boxed (.cells #[.slice none 0 0, .int .i64 0, .int .i64 0] 29)
                        refine hK.out _ _ (SSS.out _ st_.bw) (fun hHeld => ?_)
                        clear hK
                        obtain ⟨V_, hW_⟩ : ∃ X, X = V.alloc (.cells #[.slice none 0 0, .int .i64 0, .int .i64 0] 29) := ⟨_, rfl⟩
                        obtain ⟨b3, hq_⟩ : ∃ y, y = V.heap.size := ⟨_, rfl⟩
                        rw [← hW_] at st_ n3_ n4_ e_ hHeld ⊢
                        rw [← hq_] at st_ n3_ ne_ e_ ⊢
                        clear hW_ hq_ st n4 e
                        obtain ⟨V, hV_⟩ : ∃ X, X = V_ := ⟨_, rfl⟩
                        subst hV_
                        have st := st_
                        clear st_
                        have n3 := n3_
                        clear n3_
                        have n4 := n4_
                        clear n4_
                        have ne := ne_
                        clear ne_
                        have e := e_
                        clear e_
                        refine wpAnyH_relist (l' := #[true, true, true, true, true, false, false, false, false, false, true, true, false, false, false]) (by kernel_rfl) ?_
                        try simp only [Act.put, List.setIfInBounds_toArray, List.set_cons_zero, List.set_cons_succ]
                        clear hHeld
                        revert e
                        revert ne
                        revert n4
                        revert n3
                        revert st
                        revert V
                        revert b4
                        revert b3
                        revert r1
                        exact k1JD
                      exact AllReadyH.nil
                  · intro r1 b3 V st n3 e
                    have hHeld := SSS.out _ st.bw
                    refine wpAnyH_ready (rs := [5, 11]) (by kernel_rfl) (by simp) ?_
                    refine AllReadyH.cons rfl (fun K hK => ?_) ?_
                    · go_simp
                      refine (CS.out _ _ st _ e).mono ?_
                      rintro e0 V_ ⟨⟨r2, s, p, rfl, e_, f_⟩, hb_⟩
                      have st_ := st.call hb_
                      have n3_ := n3.step hb_
                      clear hb_ st n3 e
                      refine hK.out _ _ (SSS.out _ st_.bw) (fun hHeld => ?_)
                      clear hK
                      obtain ⟨V, hV_⟩ : ∃ X, X = V_ := ⟨_, rfl⟩
                      subst hV_
                      have st := st_
                      clear st_
                      have n3 := n3_
                      clear n3_
                      have e := e_
                      clear e_
                      have f := f_
                      clear f_
                      refine wpAnyH_take (i := 6) (v := ?_) rfl (by kernel_rfl) (by kernel_rfl) (by kernel_rfl) (fun _ _ _ h => h) (Or.inl ⟨by rfl, ?_⟩) (by assumption) ?_
                      rotate_left
                      · intro w hSw
                        (try dsimp only at hSw)
                        go_simp
                        try with_reducible rfl
                      simp only [Act.put, List.setIfInBounds_toArray, List.set_cons_zero, List.set_cons_succ]
                      refine wpAnyH_take (i := 7) (v := ?_) rfl (by kernel_rfl) (by kernel_rfl) (by kernel_rfl) (fun _ _ _ h => h) (Or.inl ⟨by rfl, ?_⟩) (by assumption) ?_
                      rotate_left
                      · intro w hSw
                        (try dsimp only at hSw)
                        go_simp
                        try with_reducible rfl
                      simp only [Act.put, List.setIfInBounds_toArray, List.set_cons_zero, List.set_cons_succ]
                      refine wpAnyH_take (i := 8) (v := ?_) rfl (by kernel_rfl) (by kernel_rfl) (by kernel_rfl) (fun _ _ _ h => h) (Or.inl ⟨by rfl, ?_⟩) (by assumption) ?_
                      rotate_left
                      · intro w hSw
                        (try dsimp only at hSw)
                        go_simp
                        try with_reducible rfl
                      simp only [Act.put, List.setIfInBounds_toArray, List.set_cons_zero, List.set_cons_succ]
                      refine wpAnyH_take (i := 9) (v := ?_) rfl (by kernel_rfl) (by kernel_rfl) (by kernel_rfl) (fun _ _ _ h => h) (Or.inl ⟨by rfl, ?_⟩) (by assumption) ?_
                      rotate_left
                      · intro w hSw
                        (try dsimp only at hSw)
                        go_simp
                        try with_reducible rfl
                      simp only [Act.put, List.setIfInBounds_toArray, List.set_cons_zero, List.set_cons_succ]
                      refine wpAnyH_relist (l' := #[true, true, true, true, true, true, true, true, true, true, true, false, false, false, false]) (by kernel_rfl) ?_
                      try simp only [Act.put, List.setIfInBounds_toArray, List.set_cons_zero, List.set_cons_succ]
                      clear hHeld
                      revert f
                      revert e
                      revert n3
                      revert st
                      revert V
                      revert b3
                      revert p
                      revert s
                      revert r2
                      revert r1
                      exact k2J
                    refine AllReadyH.cons rfl (fun K hK => ?_) ?_
                    · go_simp
                      have st_ := st.alloc (.cells #[.slice none 0 0, .slice none 0 0, .int .i64 0, .bool false] 25)
                      have n4_ := Box4.new V (.slice none 0 0) (.slice none 0 0) (.int .i64 0) (.bool false) 25
                      have n3_ := n3.step ((Below.refl _ _).alloc (Nat.le_refl _) (.cells #[.slice none 0 0, .slice none 0 0, .int .i64 0, .bool false] 25))
                      have ne_ : b3 ≠ V.heap.size := Nat.ne_of_lt n3.z
                      have e_ := e.boxed (.cells #[.slice none 0 0, .slice none 0 0, .int .i64 0, .bool false] 25)
                      refine hK.out _ _ (SSS.out _ st_.bw) (fun hHeld => ?_)
                      clear hK
                      obtain ⟨V_, hW_⟩ : ∃ X, X = V.alloc (.cells #[.slice none 0 0, .slice none 0 0, .int .i64 0, .bool false] 25) := ⟨_, rfl⟩
                      obtain ⟨b4, hq_⟩ : ∃ y, y = V.heap.size := ⟨_, rfl⟩
                      rw [← hW_] at st_ n4_ n3_ e_ hHeld ⊢
                      rw [← hq_] at st_ n4_ ne_ e_ ⊢
                      clear hW_ hq_ st n3 e
                      have st2_ := st_.swap
                      clear st_
                      have st_ := st2_
                      clear st2_
                      rw [PL_swap] at e_
                      obtain ⟨V, hV_⟩ : ∃ X, X = V_ := ⟨_, rfl⟩
                      subst hV_
                      have st := st_
                      clear st_
                      have n3 := n3_
                      clear n3_
                      have n4 := n4_
                      clear n4_
                      have ne := ne_
                      clear ne_
                      have e := e_
                      clear e_
                      refine wpAnyH_relist (l' := #[true, true, true, true, true, false, false, false, false, false, true, true, false, false, false]) (by kernel_rfl) ?_
                      try simp only [Act.put, List.setIfInBounds_toArray, List.set_cons_zero, List.set_cons_succ]
                      clear hHeld
                      revert e
                      revert ne
                      revert n4
                      revert n3
                      revert st
                      revert V
                      revert b4
                      revert b3
                      revert r1
                      exact k1JD
                    exact AllReadyH.nil
                · intro b3 b4 V st n3 n4 ne
                  have hHeld := SSS.out _ st.bw
                  refine wpAnyH_ready (rs := [3]) (by kernel_rfl) (by simp) ?_
                  refine AllReadyH.cons rfl (fun K hK => ?_) ?_
                  · go_simp
                    refine (CA.out _ _ st).mono ?_
                    rintro e0 V_ ⟨⟨r1, rfl, e_⟩, hb_⟩
                    have st_ := st.call hb_
                    have n3_ := n3.step hb_
                    have n4_ := n4.step hb_
                    clear hb_ st n3 n4
                    refine hK.out _ _ (SSS.out _ st_.bw) (fun hHeld => ?_)
                    clear hK
                    obtain ⟨V, hV_⟩ : ∃ X, X = V_ := ⟨_, rfl⟩
                    subst hV_
                    have st := st_
                    clear st_
                    have n3 := n3_
                    clear n3_
                    have n4 := n4_
                    clear n4_
                    have e := e_
                    clear e_
                    refine wpAnyH_relist (l' := #[true, true, true, true, true, false, false, false, false, false, true, true, false, false, false]) (by kernel_rfl) ?_
                    try simp only [Act.put, List.setIfInBounds_toArray, List.set_cons_zero, List.set_cons_succ]
                    clear hHeld
                    revert e
                    revert ne
                    revert n4
                    revert n3
                    revert st
                    revert V
                    revert b4
                    revert b3
                    revert r1
                    exact k1JD
                  exact AllReadyH.nil
              · intro r1 r2 s p b4 V st n4 e f
                have hHeld := SSS.out _ st.bw
                refine wpAnyH_ready (rs := [10]) (by kernel_rfl) (by simp) ?_
                refine AllReadyH.cons rfl (fun K hK => ?_) ?_
                · go_simp
                  have st_ := st.alloc (.cells #[.slice none 0 0, .int .i64 0, .int .i64 0] 29)
                  have n3_ := Box3.new V (.slice none 0 0) (.int .i64 0) (.int .i64 0) 29
                  have n4_ := n4.step ((Below.refl _ _).alloc (Nat.le_refl _) (.cells #[.slice none 0 0, .int .i64 0, .int .i64 0] 29))
                  have ne_ : V.heap.size ≠ b4 := Nat.ne_of_gt n4.z
                  have e_ := e.boxed (.cells #[.slice none 0 0, .int .i64 0, .int .i64 0] 29)
                  have f_ := f.boxed (.cells #[.slice none 0 0, .int .i64 0, .int .i64 0] 29)
                  refine hK.out _ _ (SSS.out _ st_.bw) (fun hHeld => ?_)
                  clear hK
                  obtain ⟨V_, hW_⟩ : ∃ X, X = V.alloc (.cells #[.slice none 0 0, .int .i64 0, .int .i64 0] 29) := ⟨_, rfl⟩
                  obtain ⟨b3, hq_⟩ : ∃ y, y = V.heap.size := ⟨_, rfl⟩
                  rw [← hW_] at st_ n3_ n4_ e_ f_ hHeld ⊢
                  rw [← hq_] at st_ n3_ ne_ e_ f_ ⊢
                  clear hW_ hq_ st n4 e f
                  obtain ⟨V, hV_⟩ : ∃ X, X = V_ := ⟨_, rfl⟩
                  subst hV_
                  have st := st_
                  clear st_
                  have n3 := n3_
                  clear n3_
                  have n4 := n4_
                  clear n4_
                  have ne := ne_
                  clear ne_
                  have e := e_
                  clear e_
                  have f := f_
                  clear f_
                  refine wpAnyH_relist (l' := #[true, true, true, true, true, true, true, true, true, true, true, true, false, false, false]) (by kernel_rfl) ?_
                  try simp only [Act.put, List.setIfInBounds_toArray, List.set_cons_zero, List.set_cons_succ]
                  clear hHeld
                  revert f
                  revert e
                  revert ne
                  revert n4
                  revert n3
                  revert st
                  revert V
                  revert b4
                  revert b3
                  revert p
                  revert s
                  revert r2
                  revert r1
                  exact k2JD
                exact AllReadyH.nil
            · intro r1 r2 s p b3 V st n3 e f
              have hHeld := SSS.out _ st.bw
              refine wpAnyH_ready (rs := [11]) (by kernel_rfl) (by simp) ?_
              refine AllReadyH.cons rfl (fun K hK => ?_) ?_
              · go_simp
                have st_ := st.alloc (.cells #[.slice none 0 0, .slice none 0 0, .int .i64 0, .bool false] 25)
                have n4_ := Box4.new V (.slice none 0 0) (.slice none 0 0) (.int .i64 0) (.bool false) 25
                have n3_ := n3.step ((Below.refl _ _).alloc (Nat.le_refl _) (.cells #[.slice none 0 0, .slice none 0 0, .int .i64 0, .bool false] 25))
                have ne_ : b3 ≠ V.heap.size := Nat.ne_of_lt n3.z
                have e_ := e.boxed (.cells #[.slice none 0 0, .slice none 0 0, .int .i64 0, .bool false] 25)
                have f_ := f.boxed (.cells #[.slice none 0 0, .slice none 0 0, .int .i64 0, .bool false] 25)
                refine hK.out _ _ (SSS.out _ st_.bw) (fun hHeld => ?_)
                clear hK
                obtain ⟨V_, hW_⟩ : ∃ X, X = V.alloc (.cells #[.slice none 0 0, .slice none 0 0, .int .i64 0, .bool false] 25) := ⟨_, rfl⟩
                obtain ⟨b4, hq_⟩ : ∃ y, y = V.heap.size := ⟨_, rfl⟩
                rw [← hW_] at st_ n4_ n3_ e_ f_ hHeld ⊢
                rw [← hq_] at st_ n4_ ne_ e_ f_ ⊢
                clear hW_ hq_ st n3 e f
                have st2_ := st_.swap
                clear st_
                have st_ := st2_
                clear st2_
                rw [PL_swap] at e_
                rw [PL_swap] at f_
                obtain ⟨V, hV_⟩ : ∃ X, X = V_ := ⟨_, rfl⟩
                subst hV_
                have st := st_
                clear st_
                have n3 := n3_
                clear n3_
                have n4 := n4_
                clear n4_
                have ne := ne_
                clear ne_
                have e := e_
                clear e_
                have f := f_
                clear f_
                refine wpAnyH_relist (l' := #[true, true, true, true, true, true, true, true, true, true, true, true, false, false, false]) (by kernel_rfl) ?_
                try simp only [Act.put, List.setIfInBounds_toArray, List.set_cons_zero, List.set_cons_succ]
                clear hHeld
                revert f
                revert e
                revert ne
                revert n4
                revert n3
                revert st
                revert V
                revert b4
                revert b3
                revert p
                revert s
                revert r2
                revert r1
                exact k2JD
              exact AllReadyH.nil
          · intro r1 b3 b4 V st n3 n4 ne e
            have hHeld := SSS.out _ st.bw
            refine wpAnyH_ready (rs := [5]) (by kernel_rfl) (by simp) ?_
            refine AllReadyH.cons rfl (fun K hK => ?_) ?_
            · go_simp
              refine (CS.out _ _ st _ e).mono ?_
              rintro e0 V_ ⟨⟨r2, s, p, rfl, e_, f_⟩, hb_⟩
              have st_ := st.call hb_
              have n3_ := n3.step hb_
              have n4_ := n4.step hb_
              clear hb_ st n3 n4 e
              refine hK.out _ _ (SSS.out _ st_.bw) (fun hHeld => ?_)
              clear hK
              obtain ⟨V, hV_⟩ : ∃ X, X = V_ := ⟨_, rfl⟩
              subst hV_
              have st := st_
              clear st_
              have n3 := n3_
              clear n3_
              have n4 := n4_
              clear n4_
              have e := e_
              clear e_
              have f := f_
              clear f_
              refine wpAnyH_take (i := 6) (v := ?_) rfl (by kernel_rfl) (by kernel_rfl) (by kernel_rfl) (fun _ _ _ h => h) (Or.inl ⟨by rfl, ?_⟩) (by assumption) ?_
              rotate_left
              · intro w hSw
                (try dsimp only at hSw)
                go_simp
                try with_reducible rfl
              simp only [Act.put, List.setIfInBounds_toArray, List.set_cons_zero, List.set_cons_succ]
              refine wpAnyH_take (i := 7) (v := ?_) rfl (by kernel_rfl) (by kernel_rfl) (by kernel_rfl) (fun _ _ _ h => h) (Or.inl ⟨by rfl, ?_⟩) (by assumption) ?_
              rotate_left
              · intro w hSw
                (try dsimp only at hSw)
                go_simp
                try with_reducible rfl
              simp only [Act.put, List.setIfInBounds_toArray, List.set_cons_zero, List.set_cons_succ]
              refine wpAnyH_take (i := 8) (v := ?_) rfl (by kernel_rfl) (by kernel_rfl) (by kernel_rfl) (fun _ _ _ h => h) (Or.inl ⟨by rfl, ?_⟩) (by assumption) ?_
              rotate_left
              · intro w hSw
                (try dsimp only at hSw)
                go_simp
                try with_reducible rfl
              simp only [Act.put, List.setIfInBounds_toArray, List.set_cons_zero, List.set_cons_succ]
              refine wpAnyH_take (i := 9) (v := ?_) rfl (by kernel_rfl) (by kernel_rfl) (by kernel_rfl) (fun _ _ _ h => h) (Or.inl ⟨by rfl, ?_⟩) (by assumption) ?_
              rotate_left
              · intro w hSw
                (try dsimp only at hSw)
                go_simp
                try with_reducible rfl
              simp only [Act.put, List.setIfInBounds_toArray, List.set_cons_zero, List.set_cons_succ]
              refine wpAnyH_relist (l' := #[true, true, true, true, true, true, true, true, true, true, true, true, false, false, false]) (by kernel_rfl) ?_
              try simp only [Act.put, List.setIfInBounds_toArray, List.set_cons_zero, List.set_cons_succ]
              clear hHeld
              revert f
              revert e
              revert ne
              revert n4
              revert n3
              revert st
              revert V
              revert b4
              revert b3
              revert p
              revert s
              revert r2
              revert r1
              exact k2JD
            exact AllReadyH.nil
        · intro r1 r2 s p b3 b4 V st n3 n4 ne e f
          have hHeld := SSS.out _ st.bw
          have hz := st.stored (b3 := b3) (b4 := b4) (by simp) (by simp) ne n3 n4 (.slice r2.a r2.n r2.c) (.int .i64 40) (.int .i64 AA.length) (.slice s.a s.n s.c) (.slice p.a p.n p.c) (.int .i64 C2.left) (.bool C2.stopped) e f
          have hy : Below W7.heap.size W7 (put3 V b3 (.slice r2.a r2.n r2.c) (.int .i64 40) (.int .i64 AA.length)) := put3_below st.bw (st.hi b3 (by simp)).1 _ _ _
          have hx : Box4 (put3 V b3 (.slice r2.a r2.n r2.c) (.int .i64 40) (.int .i64 AA.length)) b4 _ _ _ _ := n4.far (put3_keep _ _ _ _ _) (by simp only [ne_eq, Option.some.injEq]; exact ne)
          obtain ⟨x0, x1, x2, xf0, xf1, xf2, xz⟩ := n3
          refine wpAnyH_ready (rs := [12]) (by kernel_rfl) (by simp) ?_
          refine AllReadyH.cons rfl (fun K hK => ?_) ?_
          · go_simp
            obtain ⟨U1, hU⟩ : ∃ X, X = put3 V b3 (.slice r2.a r2.n r2.c) (.int .i64 40) (.int .i64 AA.length) := ⟨_, rfl⟩
            rw [← hU] at hz hy hx
            unfold put3 at hU
            rw [← hU]
            clear hU x0 x1 x2 xf0 xf1 xf2 xz
            refine hK.out _ _ (SSS.out _ hy) (fun hHeld => ?_)
            clear hK
            obtain ⟨x0, x1, x2, x3, xf0, xf1, xf2, xf3, xz⟩ := hx
            refine wpAnyH_ready (rs := [13]) (by kernel_rfl) (by simp) ?_
            refine AllReadyH.cons rfl (fun K hK => ?_) ?_
            · go_simp
              obtain ⟨Y1, hU⟩ : ∃ X, X = put4 U1 b4 (.slice s.a s.n s.c) (.slice p.a p.n p.c) (.int .i64 C2.left) (.bool C2.stopped) := ⟨_, rfl⟩
              rw [← hU] at hz
              unfold put4 at hU
              rw [← hU]
              clear hU x0 x1 x2 x3 xf0 xf1 xf2 xf3 xz
              refine hK.out _ _ (SSS.out _ hz.2.2.2.2) (fun hHeld => ?_)
              clear hK
              refine wpAnyH_ready (rs := [14]) (by kernel_rfl) (by simp) ?_
              refine AllReadyH.cons rfl (fun K hK => ?_) ?_
              · go_simp
                refine hK.out _ _ (SSS.out _ hz.2.2.2.2) (fun hHeld => ?_)
                clear hK
                refine wpAnyH_done (by kernel_rfl) ?_ _
                go_wp2_with fail
                go_meet
                exact ⟨b3, b4, r2, s, p, rfl, rfl, rfl, hz.1, hz.2.1, hz.2.2.1, hz.2.2.2.1, hz.2.2.2.2⟩
              exact AllReadyH.nil
            exact AllReadyH.nil
          exact AllReadyH.nil
      case rest =>
        obtain ⟨W8, hwc⟩ : ∃ X, X = wc := ⟨_, rfl⟩
        subst hwc
        obtain ⟨J2, E2, r2, s2, p2, rfl, rfl, rfl, hj2, he2, hr2, hd2, hb8⟩ := hcut
        have X2 := Lib.hid hj2
        have Y2 := Lib.hid he2
        have R2 := Lib.hid hr2
        have Q2 := Lib.hid hd2
        have X1b := Lib.hid (X1.out.step hb8)
        have Y1b := Lib.hid (Y1.out.step hb8)
        have R1b := Lib.hid (R1.out.step hb8)
        have Q1b := Lib.hid (Q1.out.step hb8)
        have HB8 := Lib.hid (HB7.out.trans (hb8.mono HB7.out.size))
        have HYW8 := Lib.hid (HYW7.out.step hb8)
        clear hj2 he2 hr2 hd2 hb8 HX7 HD7 HB7 HR7 HJ7 HXW7 HYW7 SSS CA CS st0 X1 Y1 R1 Q1
        have CB : Hid (∀ (L : List Nat) (W : World), StS W8 L W → Calls Try.prog 28 #[.agg #[.slice r2.a r2.n r2.c, .int .i64 40, .int .i64 AA.length], .slice A2 ys.length c2] W fun e w' => (∃ r2 : Sl, e = .returned (.agg #[.slice r2.a r2.n r2.c, .int .i64 40, .int .i64 AA.length]) ∧ Se w' (PL L) r2 BB) ∧ Below W.heap.size W w') := Lib.hid (fun L W st => by
          have h := add_any (P := PL L) (Nat.le_refl 40) ⟨AA, 40, AA.length⟩ ys r2 ⟨A2, ys.length, c2⟩ W (st.base R2.out) (st.base HYW8.out) HJA2.out HBY.out
          rw [HA3.out] at h
          unfold jlV at h
          simp only at h
          refine h.mono ?_
          rintro e w' ⟨⟨r2, rfl, h2⟩, hb⟩
          exact ⟨⟨r2, rfl, h2.mono (fun b hb => st.nw hb)⟩, hb⟩)
        have CS : Hid (∀ (L : List Nat) (W : World), StS W8 L W → ∀ r, Se W (PL L) r BB → Calls Try.prog 21 #[.agg #[.slice r.a r.n r.c, .int .i64 40, .int .i64 AA.length], .agg #[.slice s2.a s2.n s2.c, .slice p2.a p2.n p2.c, .int .i64 C2.left, .bool C2.stopped]] W fun e w' => (∃ r2 s2 p2 : Sl, e = .returned (.tuple #[.agg #[.slice r2.a r2.n r2.c, .int .i64 40, .int .i64 BB.length], .agg #[.slice s2.a s2.n s2.c, .slice p2.a p2.n p2.c, .int .i64 C3.left, .bool C3.stopped], .int .i64 0]) ∧ Se w' (PL L) r2 BB ∧ Di w' (PL L) s2 p2 C3) ∧ Below W.heap.size W w') := Lib.hid (fun L W st r hr => by
          have h := JSync_any (P := PL L) ⟨BB, 40, AA.length⟩ C2 r s2 p2 W hr (st.baseD Q2.out)
          unfold SyncP at h
          rw [HS3.out] at h
          unfold jlV dkV at h
          simp only at h
          refine h.mono ?_
          rintro e w' ⟨⟨r2, s2, p2, rfl, h2, h3⟩, hb⟩
          exact ⟨⟨r2, s2, p2, rfl, h2.mono (fun b hb => st.nw hb), h3.mono (fun b hb => st.nw hb)⟩, hb⟩)
        go_upto_region 12 with fail
        have SSS : Hid (∀ W, Below W8.heap.size W8 W → (fun W => W.cell? ⟨J2, 0, none⟩ = some (.slice r2.a r2.n r2.c) ∧ W.cell? ⟨J2, 1, none⟩ = some (.int .i64 40) ∧ W.cell? ⟨J2, 2, none⟩ = some (.int .i64 AA.length) ∧ W.cell? ⟨E2, 0, none⟩ = some (.slice s2.a s2.n s2.c) ∧ W.cell? ⟨E2, 1, none⟩ = some (.slice p2.a p2.n p2.c) ∧ W.cell? ⟨E2, 2, none⟩ = some (.int .i64 C2.left) ∧ W.cell? ⟨E2, 3, none⟩ = some (.bool C2.stopped)) W) := Lib.hid (fun W h => ⟨(X2.out.step h).c0, (X2.out.step h).c1, (X2.out.step h).c2, (Y2.out.step h).c0, (Y2.out.step h).c1, (Y2.out.step h).c2, (Y2.out.step h).c3⟩)
        have st0 := StS.first W8
        go_cut [16, 17, 18] (fun ta tb tc wx => ∃ (b3 b4 : Nat) (r s p : Sl), ta = .pointer (some ⟨b3, 0, none⟩) ∧ tb = .pointer (some ⟨b4, 0, none⟩) ∧ tc = .int .i64 0 ∧ Box3 wx b3 (.slice r.a r.n r.c) (.int .i64 40) (.int .i64 BB.length) ∧ Box4 wx b4 (.slice s.a s.n s.c) (.slice p.a p.n p.c) (.int .i64 C3.left) (.bool C3.stopped) ∧ Se wx everyB r BB ∧ Di wx everyB s p C3 ∧ Below W8.heap.size W8 wx)
        case first =>
          refine wp_region_held_drew (S := (fun W => W.cell? ⟨J2, 0, none⟩ = some (.slice r2.a r2.n r2.c) ∧ W.cell? ⟨J2, 1, none⟩ = some (.int .i64 40) ∧ W.cell? ⟨J2, 2, none⟩ = some (.int .i64 AA.length) ∧ W.cell? ⟨E2, 0, none⟩ = some (.slice s2.a s2.n s2.c) ∧ W.cell? ⟨E2, 1, none⟩ = some (.slice p2.a p2.n p2.c) ∧ W.cell? ⟨E2, 2, none⟩ = some (.int .i64 C2.left) ∧ W.cell? ⟨E2, 3, none⟩ = some (.bool C2.stopped))) (by kernel_rfl) (SSS.out _ st0.bw) (fun hHeld => ?_)
          refine wpAnyH_take (i := 0) (v := ?_) rfl (by kernel_rfl) (by kernel_rfl) (by kernel_rfl) (fun _ _ _ h => h) (Or.inl ⟨by rfl, ?_⟩) (by assumption) ?_
          rotate_left
          · intro w hSw
            (try dsimp only at hSw)
            go_simp
            try with_reducible rfl
          simp only [Act.put, List.setIfInBounds_toArray, List.set_cons_zero, List.set_cons_succ]
          refine wpAnyH_take (i := 1) (v := ?_) rfl (by kernel_rfl) (by kernel_rfl) (by kernel_rfl) (fun _ _ _ h => h) (Or.inl ⟨by rfl, ?_⟩) (by assumption) ?_
          rotate_left
          · intro w hSw
            (try dsimp only at hSw)
            go_simp
            try with_reducible rfl
          simp only [Act.put, List.setIfInBounds_toArray, List.set_cons_zero, List.set_cons_succ]
          refine wpAnyH_take (i := 2) (v := ?_) rfl (by kernel_rfl) (by kernel_rfl) (by kernel_rfl) (fun _ _ _ h => h) (Or.inl ⟨by rfl, ?_⟩) (by assumption) ?_
          rotate_left
          · intro w hSw
            (try dsimp only at hSw)
            go_simp
            try with_reducible rfl
          simp only [Act.put, List.setIfInBounds_toArray, List.set_cons_zero, List.set_cons_succ]
          refine wpAnyH_take (i := 4) (v := ?_) rfl (by kernel_rfl) (by kernel_rfl) (by kernel_rfl) (fun _ _ _ h => h) (Or.inl ⟨by rfl, ?_⟩) (by assumption) ?_
          rotate_left
          · intro w hSw
            (try dsimp only at hSw)
            go_simp
            try with_reducible rfl
          simp only [Act.put, List.setIfInBounds_toArray, List.set_cons_zero, List.set_cons_succ]
          clear hHeld
          apply merge
          · intro k2JD
            apply merge
            · intro k1JD
              apply merge
              · intro k2J
                apply merge
                · intro k2D
                  apply merge
                  · intro k0JD
                    apply merge
                    · intro k1J
                      apply merge
                      · intro k1D
                        apply merge
                        · intro k2
                          apply merge
                          · intro k0J
                            apply merge
                            · intro k0D
                              apply merge
                              · intro k1
                                obtain ⟨V, hW0⟩ : ∃ X, X = W8.drew := ⟨_, rfl⟩
                                have st := st0
                                rw [← hW0] at st ⊢
                                clear hW0
                                have hHeld := SSS.out _ st.bw
                                refine wpAnyH_ready (rs := [3, 10, 11]) (by kernel_rfl) (by simp) ?_
                                refine AllReadyH.cons rfl (fun K hK => ?_) ?_
                                · go_simp
                                  refine (CB.out _ _ st).mono ?_
                                  rintro e0 V_ ⟨⟨r1, rfl, e_⟩, hb_⟩
                                  have st_ := st.call hb_
                                  clear hb_ st 
                                  refine hK.out _ _ (SSS.out _ st_.bw) (fun hHeld => ?_)
                                  clear hK
                                  obtain ⟨V, hV_⟩ : ∃ X, X = V_ := ⟨_, rfl⟩
                                  subst hV_
                                  have st := st_
                                  clear st_
                                  have e := e_
                                  clear e_
                                  refine wpAnyH_relist (l' := #[true, true, true, true, true, false, false, false, false, false, false, false, false, false, false]) (by kernel_rfl) ?_
                                  try simp only [Act.put, List.setIfInBounds_toArray, List.set_cons_zero, List.set_cons_succ]
                                  clear hHeld
                                  revert e
                                  revert st
                                  revert V
                                  revert r1
                                  exact k1
                                refine AllReadyH.cons rfl (fun K hK => ?_) ?_
                                · go_simp
                                  have st_ := st.alloc (.cells #[.slice none 0 0, .int .i64 0, .int .i64 0] 29)
                                  have n3_ := Box3.new V (.slice none 0 0) (.int .i64 0) (.int .i64 0) 29
                                  refine hK.out _ _ (SSS.out _ st_.bw) (fun hHeld => ?_)
                                  clear hK
                                  obtain ⟨V_, hW_⟩ : ∃ X, X = V.alloc (.cells #[.slice none 0 0, .int .i64 0, .int .i64 0] 29) := ⟨_, rfl⟩
                                  obtain ⟨b3, hq_⟩ : ∃ y, y = V.heap.size := ⟨_, rfl⟩
                                  rw [← hW_] at st_ n3_ hHeld ⊢
                                  rw [← hq_] at st_ n3_ ⊢
                                  clear hW_ hq_ st
                                  obtain ⟨V, hV_⟩ : ∃ X, X = V_ := ⟨_, rfl⟩
                                  subst hV_
                                  have st := st_
                                  clear st_
                                  have n3 := n3_
                                  clear n3_
                                  refine wpAnyH_relist (l' := #[true, true, true, false, true, false, false, false, false, false, true, false, false, false, false]) (by kernel_rfl) ?_
                                  try simp only [Act.put, List.setIfInBounds_toArray, List.set_cons_zero, List.set_cons_succ]
                                  clear hHeld
                                  revert n3
                                  revert st
                                  revert V
                                  revert b3
                                  exact k0J
                                refine AllReadyH.cons rfl (fun K hK => ?_) ?_
                                · go_simp
                                  have st_ := st.alloc (.cells #[.slice none 0 0, .slice none 0 0, .int .i64 0, .bool false] 25)
                                  have n4_ := Box4.new V (.slice none 0 0) (.slice none 0 0) (.int .i64 0) (.bool false) 25
                                  refine hK.out _ _ (SSS.out _ st_.bw) (fun hHeld => ?_)
                                  clear hK
                                  obtain ⟨V_, hW_⟩ : ∃ X, X = V.alloc (.cells #[.slice none 0 0, .slice none 0 0, .int .i64 0, .bool false] 25) := ⟨_, rfl⟩
                                  obtain ⟨b4, hq_⟩ : ∃ y, y = V.heap.size := ⟨_, rfl⟩
                                  rw [← hW_] at st_ n4_ hHeld ⊢
                                  rw [← hq_] at st_ n4_ ⊢
                                  clear hW_ hq_ st
                                  obtain ⟨V, hV_⟩ : ∃ X, X = V_ := ⟨_, rfl⟩
                                  subst hV_
                                  have st := st_
                                  clear st_
                                  have n4 := n4_
                                  clear n4_
                                  refine wpAnyH_relist (l' := #[true, true, true, false, true, false, false, false, false, false, false, true, false, false, false]) (by kernel_rfl) ?_
                                  try simp only [Act.put, List.setIfInBounds_toArray, List.set_cons_zero, List.set_cons_succ]
                                  clear hHeld
                                  revert n4
                                  revert st
                                  revert V
                                  revert b4
                                  exact k0D
                                exact AllReadyH.nil
                              · intro r1 V st e
                                have hHeld := SSS.out _ st.bw
                                refine wpAnyH_ready (rs := [5, 10, 11]) (by kernel_rfl) (by simp) ?_
                                refine AllReadyH.cons rfl (fun K hK => ?_) ?_
                                · go_simp
                                  refine (CS.out _ _ st _ e).mono ?_
                                  rintro e0 V_ ⟨⟨r2, s, p, rfl, e_, f_⟩, hb_⟩
                                  have st_ := st.call hb_
                                  clear hb_ st e
                                  refine hK.out _ _ (SSS.out _ st_.bw) (fun hHeld => ?_)
                                  clear hK
                                  obtain ⟨V, hV_⟩ : ∃ X, X = V_ := ⟨_, rfl⟩
                                  subst hV_
                                  have st := st_
                                  clear st_
                                  have e := e_
                                  clear e_
                                  have f := f_
                                  clear f_
                                  refine wpAnyH_take (i := 6) (v := ?_) rfl (by kernel_rfl) (by kernel_rfl) (by kernel_rfl) (fun _ _ _ h => h) (Or.inl ⟨by rfl, ?_⟩) (by assumption) ?_
                                  rotate_left
                                  · intro w hSw
                                    (try dsimp only at hSw)
                                    go_simp
                                    try with_reducible rfl
                                  simp only [Act.put, List.setIfInBounds_toArray, List.set_cons_zero, List.set_cons_succ]
                                  refine wpAnyH_take (i := 7) (v := ?_) rfl (by kernel_rfl) (by kernel_rfl) (by kernel_rfl) (fun _ _ _ h => h) (Or.inl ⟨by rfl, ?_⟩) (by assumption) ?_
                                  rotate_left
                                  · intro w hSw
                                    (try dsimp only at hSw)
                                    go_simp
                                    try with_reducible rfl
                                  simp only [Act.put, List.setIfInBounds_toArray, List.set_cons_zero, List.set_cons_succ]
                                  refine wpAnyH_take (i := 8) (v := ?_) rfl (by kernel_rfl) (by kernel_rfl) (by kernel_rfl) (fun _ _ _ h => h) (Or.inl ⟨by rfl, ?_⟩) (by assumption) ?_
                                  rotate_left
                                  · intro w hSw
                                    (try dsimp only at hSw)
                                    go_simp
                                    try with_reducible rfl
                                  simp only [Act.put, List.setIfInBounds_toArray, List.set_cons_zero, List.set_cons_succ]
                                  refine wpAnyH_take (i := 9) (v := ?_) rfl (by kernel_rfl) (by kernel_rfl) (by kernel_rfl) (fun _ _ _ h => h) (Or.inl ⟨by rfl, ?_⟩) (by assumption) ?_
                                  rotate_left
                                  · intro w hSw
                                    (try dsimp only at hSw)
                                    go_simp
                                    try with_reducible rfl
                                  simp only [Act.put, List.setIfInBounds_toArray, List.set_cons_zero, List.set_cons_succ]
                                  refine wpAnyH_relist (l' := #[true, true, true, true, true, true, true, true, true, true, false, false, false, false, false]) (by kernel_rfl) ?_
                                  try simp only [Act.put, List.setIfInBounds_toArray, List.set_cons_zero, List.set_cons_succ]
                                  clear hHeld
                                  revert f
                                  revert e
                                  revert st
                                  revert V
                                  revert p
                                  revert s
                                  revert r2
                                  revert r1
                                  exact k2
                                refine AllReadyH.cons rfl (fun K hK => ?_) ?_
                                · go_simp
                                  have st_ := st.alloc (.cells #[.slice none 0 0, .int .i64 0, .int .i64 0] 29)
                                  have n3_ := Box3.new V (.slice none 0 0) (.int .i64 0) (.int .i64 0) 29
                                  have e_ := e.boxed (.cells #[.slice none 0 0, .int .i64 0, .int .i64 0] 29)
                                  refine hK.out _ _ (SSS.out _ st_.bw) (fun hHeld => ?_)
                                  clear hK
                                  obtain ⟨V_, hW_⟩ : ∃ X, X = V.alloc (.cells #[.slice none 0 0, .int .i64 0, .int .i64 0] 29) := ⟨_, rfl⟩
                                  obtain ⟨b3, hq_⟩ : ∃ y, y = V.heap.size := ⟨_, rfl⟩
                                  rw [← hW_] at st_ n3_ e_ hHeld ⊢
                                  rw [← hq_] at st_ n3_ e_ ⊢
                                  clear hW_ hq_ st e
                                  obtain ⟨V, hV_⟩ : ∃ X, X = V_ := ⟨_, rfl⟩
                                  subst hV_
                                  have st := st_
                                  clear st_
                                  have n3 := n3_
                                  clear n3_
                                  have e := e_
                                  clear e_
                                  refine wpAnyH_relist (l' := #[true, true, true, true, true, false, false, false, false, false, true, false, false, false, false]) (by kernel_rfl) ?_
                                  try simp only [Act.put, List.setIfInBounds_toArray, List.set_cons_zero, List.set_cons_succ]
                                  clear hHeld
                                  revert e
                                  revert n3
                                  revert st
                                  revert V
                                  revert b3
                                  revert r1
                                  exact k1J
                                refine AllReadyH.cons rfl (fun K hK => ?_) ?_
                                · go_simp
                                  have st_ := st.alloc (.cells #[.slice none 0 0, .slice none 0 0, .int .i64 0, .bool false] 25)
                                  have n4_ := Box4.new V (.slice none 0 0) (.slice none 0 0) (.int .i64 0) (.bool false) 25
                                  have e_ := e.boxed (.cells #[.slice none 0 0, .slice none 0 0, .int .i64 0, .bool false] 25)
                                  refine hK.out _ _ (SSS.out _ st_.bw) (fun hHeld => ?_)
                                  clear hK
                                  obtain ⟨V_, hW_⟩ : ∃ X, X = V.alloc (.cells #[.slice none 0 0, .slice none 0 0, .int .i64 0, .bool false] 25) := ⟨_, rfl⟩
                                  obtain ⟨b4, hq_⟩ : ∃ y, y = V.heap.size := ⟨_, rfl⟩
                                  rw [← hW_] at st_ n4_ e_ hHeld ⊢
                                  rw [← hq_] at st_ n4_ e_ ⊢
                                  clear hW_ hq_ st e
                                  obtain ⟨V, hV_⟩ : ∃ X, X = V_ := ⟨_, rfl⟩
                                  subst hV_
                                  have st := st_
                                  clear st_
                                  have n4 := n4_
                                  clear n4_
                                  have e := e_
                                  clear e_
                                  refine wpAnyH_relist (l' := #[true, true, true, true, true, false, false, false, false, false, false, true, false, false, false]) (by kernel_rfl) ?_
                                  try simp only [Act.put, List.setIfInBounds_toArray, List.set_cons_zero, List.set_cons_succ]
                                  clear hHeld
                                  revert e
                                  revert n4
                                  revert st
                                  revert V
                                  revert b4
                                  revert r1
                                  exact k1D
                                exact AllReadyH.nil
                            · intro b4 V st n4
                              have hHeld := SSS.out _ st.bw
                              refine wpAnyH_ready (rs := [3, 10]) (by kernel_rfl) (by simp) ?_
                              refine AllReadyH.cons rfl (fun K hK => ?_) ?_
                              · go_simp
                                refine (CB.out _ _ st).mono ?_
                                rintro e0 V_ ⟨⟨r1, rfl, e_⟩, hb_⟩
                                have st_ := st.call hb_
                                have n4_ := n4.step hb_
                                clear hb_ st n4
                                refine hK.out _ _ (SSS.out _ st_.bw) (fun hHeld => ?_)
                                clear hK
                                obtain ⟨V, hV_⟩ : ∃ X, X = V_ := ⟨_, rfl⟩
                                subst hV_
                                have st := st_
                                clear st_
                                have n4 := n4_
                                clear n4_
                                have e := e_
                                clear e_
                                refine wpAnyH_relist (l' := #[true, true, true, true, true, false, false, false, false, false, false, true, false, false, false]) (by kernel_rfl) ?_
                                try simp only [Act.put, List.setIfInBounds_toArray, List.set_cons_zero, List.set_cons_succ]
                                clear hHeld
                                revert e
                                revert n4
                                revert st
                                revert V
                                revert b4
                                revert r1
                                exact k1D
                              refine AllReadyH.cons rfl (fun K hK => ?_) ?_
                              · go_simp
                                have st_ := st.alloc (.cells #[.slice none 0 0, .int .i64 0, .int .i64 0] 29)
                                have n3_ := Box3.new V (.slice none 0 0) (.int .i64 0) (.int .i64 0) 29
                                have n4_ := n4.step ((Below.refl _ _).alloc (Nat.le_refl _) (.cells #[.slice none 0 0, .int .i64 0, .int .i64 0] 29))
                                have ne_ : V.heap.size ≠ b4 := Nat.ne_of_gt n4.z
                                refine hK.out _ _ (SSS.out _ st_.bw) (fun hHeld => ?_)
                                clear hK
                                obtain ⟨V_, hW_⟩ : ∃ X, X = V.alloc (.cells #[.slice none 0 0, .int .i64 0, .int .i64 0] 29) := ⟨_, rfl⟩
                                obtain ⟨b3, hq_⟩ : ∃ y, y = V.heap.size := ⟨_, rfl⟩
                                rw [← hW_] at st_ n3_ n4_ hHeld ⊢
                                rw [← hq_] at st_ n3_ ne_ ⊢
                                clear hW_ hq_ st n4
                                obtain ⟨V, hV_⟩ : ∃ X, X = V_ := ⟨_, rfl⟩
                                subst hV_
                                have st := st_
                                clear st_
                                have n3 := n3_
                                clear n3_
                                have n4 := n4_
                                clear n4_
                                have ne := ne_
                                clear ne_
                                refine wpAnyH_relist (l' := #[true, true, true, false, true, false, false, false, false, false, true, true, false, false, false]) (by kernel_rfl) ?_
                                try simp only [Act.put, List.setIfInBounds_toArray, List.set_cons_zero, List.set_cons_succ]
                                clear hHeld
                                revert ne
                                revert n4
                                revert n3
                                revert st
                                revert V
                                revert b4
                                revert b3
                                exact k0JD
                              exact AllReadyH.nil
                          · intro b3 V st n3
                            have hHeld := SSS.out _ st.bw
                            refine wpAnyH_ready (rs := [3, 11]) (by kernel_rfl) (by simp) ?_
                            refine AllReadyH.cons rfl (fun K hK => ?_) ?_
                            · go_simp
                              refine (CB.out _ _ st).mono ?_
                              rintro e0 V_ ⟨⟨r1, rfl, e_⟩, hb_⟩
                              have st_ := st.call hb_
                              have n3_ := n3.step hb_
                              clear hb_ st n3
                              refine hK.out _ _ (SSS.out _ st_.bw) (fun hHeld => ?_)
                              clear hK
                              obtain ⟨V, hV_⟩ : ∃ X, X = V_ := ⟨_, rfl⟩
                              subst hV_
                              have st := st_
                              clear st_
                              have n3 := n3_
                              clear n3_
                              have e := e_
                              clear e_
                              refine wpAnyH_relist (l' := #[true, true, true, true, true, false, false, false, false, false, true, false, false, false, false]) (by kernel_rfl) ?_
                              try simp only [Act.put, List.setIfInBounds_toArray, List.set_cons_zero, List.set_cons_succ]
                              clear hHeld
                              revert e
                              revert n3
                              revert st
                              revert V
                              revert b3
                              revert r1
                              exact k1J
                            refine AllReadyH.cons rfl (fun K hK => ?_) ?_
                            · go_simp
                              have st_ := st.alloc (.cells #[.slice none 0 0, .slice none 0 0, .int .i64 0, .bool false] 25)
                              have n4_ := Box4.new V (.slice none 0 0) (.slice none 0 0) (.int .i64 0) (.bool false) 25
                              have n3_ := n3.step ((Below.refl _ _).alloc (Nat.le_refl _) (.cells #[.slice none 0 0, .slice none 0 0, .int .i64 0, .bool false] 25))
                              have ne_ : b3 ≠ V.heap.size := Nat.ne_of_lt n3.z
                              refine hK.out _ _ (SSS.out _ st_.bw) (fun hHeld => ?_)
                              clear hK
                              obtain ⟨V_, hW_⟩ : ∃ X, X = V.alloc (.cells #[.slice none 0 0, .slice none 0 0, .int .i64 0, .bool false] 25) := ⟨_, rfl⟩
                              obtain ⟨b4, hq_⟩ : ∃ y, y = V.heap.size := ⟨_, rfl⟩
                              rw [← hW_] at st_ n4_ n3_ hHeld ⊢
                              rw [← hq_] at st_ n4_ ne_ ⊢
                              clear hW_ hq_ st n3
                              have st2_ := st_.swap
                              clear st_
                              have st_ := st2_
                              clear st2_
                              obtain ⟨V, hV_⟩ : ∃ X, X = V_ := ⟨_, rfl⟩
                              subst hV_
                              have st := st_
                              clear st_
                              have n3 := n3_
                              clear n3_
                              have n4 := n4_
                              clear n4_
                              have ne := ne_
                              clear ne_
                              refine wpAnyH_relist (l' := #[true, true, true, false, true, false, false, false, false, false, true, true, false, false, false]) (by kernel_rfl) ?_
                              try simp only [Act.put, List.setIfInBounds_toArray, List.set_cons_zero, List.set_cons_succ]
                              clear hHeld
                              revert ne
                              revert n4
                              revert n3
                              revert st
                              revert V
                              revert b4
                              revert b3
                              exact k0JD
                            exact AllReadyH.nil
                        · intro r1 r2 s p V st e f
                          have hHeld := SSS.out _ st.bw
                          refine wpAnyH_ready (rs := [10, 11]) (by kernel_rfl) (by simp) ?_
                          refine AllReadyH.cons rfl (fun K hK => ?_) ?_
                          · go_simp
                            have st_ := st.alloc (.cells #[.slice none 0 0, .int .i64 0, .int .i64 0] 29)
                            have n3_ := Box3.new V (.slice none 0 0) (.int .i64 0) (.int .i64 0) 29
                            have e_ := e.boxed (.cells #[.slice none 0 0, .int .i64 0, .int .i64 0] 29)
                            have f_ := f.boxed (.cells #[.slice none 0 0, .int .i64 0, .int .i64 0] 29)
                            refine hK.out _ _ (SSS.out _ st_.bw) (fun hHeld => ?_)
                            clear hK
                            obtain ⟨V_, hW_⟩ : ∃ X, X = V.alloc (.cells #[.slice none 0 0, .int .i64 0, .int .i64 0] 29) := ⟨_, rfl⟩
                            obtain ⟨b3, hq_⟩ : ∃ y, y = V.heap.size := ⟨_, rfl⟩
                            rw [← hW_] at st_ n3_ e_ f_ hHeld ⊢
                            rw [← hq_] at st_ n3_ e_ f_ ⊢
                            clear hW_ hq_ st e f
                            obtain ⟨V, hV_⟩ : ∃ X, X = V_ := ⟨_, rfl⟩
                            subst hV_
                            have st := st_
                            clear st_
                            have n3 := n3_
                            clear n3_
                            have e := e_
                            clear e_
                            have f := f_
                            clear f_
                            refine wpAnyH_relist (l' := #[true, true, true, true, true, true, true, true, true, true, true, false, false, false, false]) (by kernel_rfl) ?_
                            try simp only [Act.put, List.setIfInBounds_toArray, List.set_cons_zero, List.set_cons_succ]
                            clear hHeld
                            revert f
                            revert e
                            revert n3
                            revert st
                            revert V
                            revert b3
                            revert p
                            revert s
                            revert r2
                            revert r1
                            exact k2J
                          refine AllReadyH.cons rfl (fun K hK => ?_) ?_
                          · go_simp
                            have st_ := st.alloc (.cells #[.slice none 0 0, .slice none 0 0, .int .i64 0, .bool false] 25)
                            have n4_ := Box4.new V (.slice none 0 0) (.slice none 0 0) (.int .i64 0) (.bool false) 25
                            have e_ := e.boxed (.cells #[.slice none 0 0, .slice none 0 0, .int .i64 0, .bool false] 25)
                            have f_ := f.boxed (.cells #[.slice none 0 0, .slice none 0 0, .int .i64 0, .bool false] 25)
                            refine hK.out _ _ (SSS.out _ st_.bw) (fun hHeld => ?_)
                            clear hK
                            obtain ⟨V_, hW_⟩ : ∃ X, X = V.alloc (.cells #[.slice none 0 0, .slice none 0 0, .int .i64 0, .bool false] 25) := ⟨_, rfl⟩
                            obtain ⟨b4, hq_⟩ : ∃ y, y = V.heap.size := ⟨_, rfl⟩
                            rw [← hW_] at st_ n4_ e_ f_ hHeld ⊢
                            rw [← hq_] at st_ n4_ e_ f_ ⊢
                            clear hW_ hq_ st e f
                            obtain ⟨V, hV_⟩ : ∃ X, X = V_ := ⟨_, rfl⟩
                            subst hV_
                            have st := st_
                            clear st_
                            have n4 := n4_
                            clear n4_
                            have e := e_
                            clear e_
                            have f := f_
                            clear f_
                            refine wpAnyH_relist (l' := #[true, true, true, true, true, true, true, true, true, true, false, true, false, false, false]) (by kernel_rfl) ?_
                            try simp only [Act.put, List.setIfInBounds_toArray, List.set_cons_zero, List.set_cons_succ]
                            clear hHeld
                            revert f
                            revert e
                            revert n4
                            revert st
                            revert V
                            revert b4
                            revert p
                            revert s
                            revert r2
                            revert r1
                            exact k2D
                          exact AllReadyH.nil
                      · intro r1 b4 V st n4 e
                        have hHeld := SSS.out _ st.bw
                        refine wpAnyH_ready (rs := [5, 10]) (by kernel_rfl) (by simp) ?_
                        refine AllReadyH.cons rfl (fun K hK => ?_) ?_
                        · go_simp
                          refine (CS.out _ _ st _ e).mono ?_
                          rintro e0 V_ ⟨⟨r2, s, p, rfl, e_, f_⟩, hb_⟩
                          have st_ := st.call hb_
                          have n4_ := n4.step hb_
                          clear hb_ st n4 e
                          refine hK.out _ _ (SSS.out _ st_.bw) (fun hHeld => ?_)
                          clear hK
                          obtain ⟨V, hV_⟩ : ∃ X, X = V_ := ⟨_, rfl⟩
                          subst hV_
                          have st := st_
                          clear st_
                          have n4 := n4_
                          clear n4_
                          have e := e_
                          clear e_
                          have f := f_
                          clear f_
                          refine wpAnyH_take (i := 6) (v := ?_) rfl (by kernel_rfl) (by kernel_rfl) (by kernel_rfl) (fun _ _ _ h => h) (Or.inl ⟨by rfl, ?_⟩) (by assumption) ?_
                          rotate_left
                          · intro w hSw
                            (try dsimp only at hSw)
                            go_simp
                            try with_reducible rfl
                          simp only [Act.put, List.setIfInBounds_toArray, List.set_cons_zero, List.set_cons_succ]
                          refine wpAnyH_take (i := 7) (v := ?_) rfl (by kernel_rfl) (by kernel_rfl) (by kernel_rfl) (fun _ _ _ h => h) (Or.inl ⟨by rfl, ?_⟩) (by assumption) ?_
                          rotate_left
                          · intro w hSw
                            (try dsimp only at hSw)
                            go_simp
                            try with_reducible rfl
                          simp only [Act.put, List.setIfInBounds_toArray, List.set_cons_zero, List.set_cons_succ]
                          refine wpAnyH_take (i := 8) (v := ?_) rfl (by kernel_rfl) (by kernel_rfl) (by kernel_rfl) (fun _ _ _ h => h) (Or.inl ⟨by rfl, ?_⟩) (by assumption) ?_
                          rotate_left
                          · intro w hSw
                            (try dsimp only at hSw)
                            go_simp
                            try with_reducible rfl
                          simp only [Act.put, List.setIfInBounds_toArray, List.set_cons_zero, List.set_cons_succ]
                          refine wpAnyH_take (i := 9) (v := ?_) rfl (by kernel_rfl) (by kernel_rfl) (by kernel_rfl) (fun _ _ _ h => h) (Or.inl ⟨by rfl, ?_⟩) (by assumption) ?_
                          rotate_left
                          · intro w hSw
                            (try dsimp only at hSw)
                            go_simp
                            try with_reducible rfl
                          simp only [Act.put, List.setIfInBounds_toArray, List.set_cons_zero, List.set_cons_succ]
                          refine wpAnyH_relist (l' := #[true, true, true, true, true, true, true, true, true, true, false, true, false, false, false]) (by kernel_rfl) ?_
                          try simp only [Act.put, List.setIfInBounds_toArray, List.set_cons_zero, List.set_cons_succ]
                          clear hHeld
                          revert f
                          revert e
                          revert n4
                          revert st
                          revert V
                          revert b4
                          revert p
                          revert s
                          revert r2
                          revert r1
                          exact k2D
                        refine AllReadyH.cons rfl (fun K hK => ?_) ?_
                        · go_simp
                          have st_ := st.alloc (.cells #[.slice none 0 0, .int .i64 0, .int .i64 0] 29)
                          have n3_ := Box3.new V (.slice none 0 0) (.int .i64 0) (.int .i64 0) 29
                          have n4_ := n4.step ((Below.refl _ _).alloc (Nat.le_refl _) (.cells #[.slice none 0 0, .int .i64 0, .int .i64 0] 29))
                          have ne_ : V.heap.size ≠ b4 := Nat.ne_of_gt n4.z
                          have e_ := e.boxed (.cells #[.slice none 0 0, .int .i64 0, .int .i64 0] 29)
                          refine hK.out _ _ (SSS.out _ st_.bw) (fun hHeld => ?_)
                          clear hK
                          obtain ⟨V_, hW_⟩ : ∃ X, X = V.alloc (.cells #[.slice none 0 0, .int .i64 0, .int .i64 0] 29) := ⟨_, rfl⟩
                          obtain ⟨b3, hq_⟩ : ∃ y, y = V.heap.size := ⟨_, rfl⟩
                          rw [← hW_] at st_ n3_ n4_ e_ hHeld ⊢
                          rw [← hq_] at st_ n3_ ne_ e_ ⊢
                          clear hW_ hq_ st n4 e
                          obtain ⟨V, hV_⟩ : ∃ X, X = V_ := ⟨_, rfl⟩
                          subst hV_
                          have st := st_
                          clear st_
                          have n3 := n3_
                          clear n3_
                          have n4 := n4_
                          clear n4_
                          have ne := ne_
                          clear ne_
                          have e := e_
                          clear e_
                          refine wpAnyH_relist (l' := #[true, true, true, true, true, false, false, false, false, false, true, true, false, false, false]) (by kernel_rfl) ?_
                          try simp only [Act.put, List.setIfInBounds_toArray, List.set_cons_zero, List.set_cons_succ]
                          clear hHeld
                          revert e
                          revert ne
                          revert n4
                          revert n3
                          revert st
                          revert V
                          revert b4
                          revert b3
                          revert r1
                          exact k1JD
                        exact AllReadyH.nil
                    · intro r1 b3 V st n3 e
                      have hHeld := SSS.out _ st.bw
                      refine wpAnyH_ready (rs := [5, 11]) (by kernel_rfl) (by simp) ?_
                      refine AllReadyH.cons rfl (fun K hK => ?_) ?_
                      · go_simp
                        refine (CS.out _ _ st _ e).mono ?_
                        rintro e0 V_ ⟨⟨r2, s, p, rfl, e_, f_⟩, hb_⟩
                        have st_ := st.call hb_
                        have n3_ := n3.step hb_
                        clear hb_ st n3 e
                        refine hK.out _ _ (SSS.out _ st_.bw) (fun hHeld => ?_)
                        clear hK
                        obtain ⟨V, hV_⟩ : ∃ X, X = V_ := ⟨_, rfl⟩
                        subst hV_
                        have st := st_
                        clear st_
                        have n3 := n3_
                        clear n3_
                        have e := e_
                        clear e_
                        have f := f_
                        clear f_
                        refine wpAnyH_take (i := 6) (v := ?_) rfl (by kernel_rfl) (by kernel_rfl) (by kernel_rfl) (fun _ _ _ h => h) (Or.inl ⟨by rfl, ?_⟩) (by assumption) ?_
                        rotate_left
                        · intro w hSw
                          (try dsimp only at hSw)
                          go_simp
                          try with_reducible rfl
                        simp only [Act.put, List.setIfInBounds_toArray, List.set_cons_zero, List.set_cons_succ]
                        refine wpAnyH_take (i := 7) (v := ?_) rfl (by kernel_rfl) (by kernel_rfl) (by kernel_rfl) (fun _ _ _ h => h) (Or.inl ⟨by rfl, ?_⟩) (by assumption) ?_
                        rotate_left
                        · intro w hSw
                          (try dsimp only at hSw)
                          go_simp
                          try with_reducible rfl
                        simp only [Act.put, List.setIfInBounds_toArray, List.set_cons_zero, List.set_cons_succ]
                        refine wpAnyH_take (i := 8) (v := ?_) rfl (by kernel_rfl) (by kernel_rfl) (by kernel_rfl) (fun _ _ _ h => h) (Or.inl ⟨by rfl, ?_⟩) (by assumption) ?_
                        rotate_left
                        · intro w hSw
                          (try dsimp only at hSw)
                          go_simp
                          try with_reducible rfl
                        simp only [Act.put, List.setIfInBounds_toArray, List.set_cons_zero, List.set_cons_succ]
                        refine wpAnyH_take (i := 9) (v := ?_) rfl (by kernel_rfl) (by kernel_rfl) (by kernel_rfl) (fun _ _ _ h => h) (Or.inl ⟨by rfl, ?_⟩) (by assumption) ?_
                        rotate_left
                        · intro w hSw
                          (try dsimp only at hSw)
                          go_simp
                          try with_reducible rfl
                        simp only [Act.put, List.setIfInBounds_toArray, List.set_cons_zero, List.set_cons_succ]
                        refine wpAnyH_relist (l' := #[true, true, true, true, true, true, true, true, true, true, true, false, false, false, false]) (by kernel_rfl) ?_
                        try simp only [Act.put, List.setIfInBounds_toArray, List.set_cons_zero, List.set_cons_succ]
                        clear hHeld
                        revert f
                        revert e
                        revert n3
                        revert st
                        revert V
                        revert b3
                        revert p
                        revert s
                        revert r2
                        revert r1
                        exact k2J
                      refine AllReadyH.cons rfl (fun K hK => ?_) ?_
                      · go_simp
                        have st_ := st.alloc (.cells #[.slice none 0 0, .slice none 0 0, .int .i64 0, .bool false] 25)
                        have n4_ := Box4.new V (.slice none 0 0) (.slice none 0 0) (.int .i64 0) (.bool false) 25
                        have n3_ := n3.step ((Below.refl _ _).alloc (Nat.le_refl _) (.cells #[.slice none 0 0, .slice none 0 0, .int .i64 0, .bool false] 25))
                        have ne_ : b3 ≠ V.heap.size := Nat.ne_of_lt n3.z
                        have e_ := e.boxed (.cells #[.slice none 0 0, .slice none 0 0, .int .i64 0, .bool false] 25)
                        refine hK.out _ _ (SSS.out _ st_.bw) (fun hHeld => ?_)
                        clear hK
                        obtain ⟨V_, hW_⟩ : ∃ X, X = V.alloc (.cells #[.slice none 0 0, .slice none 0 0, .int .i64 0, .bool false] 25) := ⟨_, rfl⟩
                        obtain ⟨b4, hq_⟩ : ∃ y, y = V.heap.size := ⟨_, rfl⟩
                        rw [← hW_] at st_ n4_ n3_ e_ hHeld ⊢
                        rw [← hq_] at st_ n4_ ne_ e_ ⊢
                        clear hW_ hq_ st n3 e
                        have st2_ := st_.swap
                        clear st_
                        have st_ := st2_
                        clear st2_
                        rw [PL_swap] at e_
                        obtain ⟨V, hV_⟩ : ∃ X, X = V_ := ⟨_, rfl⟩
                        subst hV_
                        have st := st_
                        clear st_
                        have n3 := n3_
                        clear n3_
                        have n4 := n4_
                        clear n4_
                        have ne := ne_
                        clear ne_
                        have e := e_
                        clear e_
                        refine wpAnyH_relist (l' := #[true, true, true, true, true, false, false, false, false, false, true, true, false, false, false]) (by kernel_rfl) ?_
                        try simp only [Act.put, List.setIfInBounds_toArray, List.set_cons_zero, List.set_cons_succ]
                        clear hHeld
                        revert e
                        revert ne
                        revert n4
                        revert n3
                        revert st
                        revert V
                        revert b4
                        revert b3
                        revert r1
                        exact k1JD
                      exact AllReadyH.nil
                  · intro b3 b4 V st n3 n4 ne
                    have hHeld := SSS.out _ st.bw
                    refine wpAnyH_ready (rs := [3]) (by kernel_rfl) (by simp) ?_
                    refine AllReadyH.cons rfl (fun K hK => ?_) ?_
                    · go_simp
                      refine (CB.out _ _ st).mono ?_
                      rintro e0 V_ ⟨⟨r1, rfl, e_⟩, hb_⟩
                      have st_ := st.call hb_
                      have n3_ := n3.step hb_
                      have n4_ := n4.step hb_
                      clear hb_ st n3 n4
                      refine hK.out _ _ (SSS.out _ st_.bw) (fun hHeld => ?_)
                      clear hK
                      obtain ⟨V, hV_⟩ : ∃ X, X = V_ := ⟨_, rfl⟩
                      subst hV_
                      have st := st_
                      clear st_
                      have n3 := n3_
                      clear n3_
                      have n4 := n4_
                      clear n4_
                      have e := e_
                      clear e_
                      refine wpAnyH_relist (l' := #[true, true, true, true, true, false, false, false, false, false, true, true, false, false, false]) (by kernel_rfl) ?_
                      try simp only [Act.put, List.setIfInBounds_toArray, List.set_cons_zero, List.set_cons_succ]
                      clear hHeld
                      revert e
                      revert ne
                      revert n4
                      revert n3
                      revert st
                      revert V
                      revert b4
                      revert b3
                      revert r1
                      exact k1JD
                    exact AllReadyH.nil
                · intro r1 r2 s p b4 V st n4 e f
                  have hHeld := SSS.out _ st.bw
                  refine wpAnyH_ready (rs := [10]) (by kernel_rfl) (by simp) ?_
                  refine AllReadyH.cons rfl (fun K hK => ?_) ?_
                  · go_simp
                    have st_ := st.alloc (.cells #[.slice none 0 0, .int .i64 0, .int .i64 0] 29)
                    have n3_ := Box3.new V (.slice none 0 0) (.int .i64 0) (.int .i64 0) 29
                    have n4_ := n4.step ((Below.refl _ _).alloc (Nat.le_refl _) (.cells #[.slice none 0 0, .int .i64 0, .int .i64 0] 29))
                    have ne_ : V.heap.size ≠ b4 := Nat.ne_of_gt n4.z
                    have e_ := e.boxed (.cells #[.slice none 0 0, .int .i64 0, .int .i64 0] 29)
                    have f_ := f.boxed (.cells #[.slice none 0 0, .int .i64 0, .int .i64 0] 29)
                    refine hK.out _ _ (SSS.out _ st_.bw) (fun hHeld => ?_)
                    clear hK
                    obtain ⟨V_, hW_⟩ : ∃ X, X = V.alloc (.cells #[.slice none 0 0, .int .i64 0, .int .i64 0] 29) := ⟨_, rfl⟩
                    obtain ⟨b3, hq_⟩ : ∃ y, y = V.heap.size := ⟨_, rfl⟩
                    rw [← hW_] at st_ n3_ n4_ e_ f_ hHeld ⊢
                    rw [← hq_] at st_ n3_ ne_ e_ f_ ⊢
                    clear hW_ hq_ st n4 e f
                    obtain ⟨V, hV_⟩ : ∃ X, X = V_ := ⟨_, rfl⟩
                    subst hV_
                    have st := st_
                    clear st_
                    have n3 := n3_
                    clear n3_
                    have n4 := n4_
                    clear n4_
                    have ne := ne_
                    clear ne_
                    have e := e_
                    clear e_
                    have f := f_
                    clear f_
                    refine wpAnyH_relist (l' := #[true, true, true, true, true, true, true, true, true, true, true, true, false, false, false]) (by kernel_rfl) ?_
                    try simp only [Act.put, List.setIfInBounds_toArray, List.set_cons_zero, List.set_cons_succ]
                    clear hHeld
                    revert f
                    revert e
                    revert ne
                    revert n4
                    revert n3
                    revert st
                    revert V
                    revert b4
                    revert b3
                    revert p
                    revert s
                    revert r2
                    revert r1
                    exact k2JD
                  exact AllReadyH.nil
              · intro r1 r2 s p b3 V st n3 e f
                have hHeld := SSS.out _ st.bw
                refine wpAnyH_ready (rs := [11]) (by kernel_rfl) (by simp) ?_
                refine AllReadyH.cons rfl (fun K hK => ?_) ?_
                · go_simp
                  have st_ := st.alloc (.cells #[.slice none 0 0, .slice none 0 0, .int .i64 0, .bool false] 25)
                  have n4_ := Box4.new V (.slice none 0 0) (.slice none 0 0) (.int .i64 0) (.bool false) 25
                  have n3_ := n3.step ((Below.refl _ _).alloc (Nat.le_refl _) (.cells #[.slice none 0 0, .slice none 0 0, .int .i64 0, .bool false] 25))
                  have ne_ : b3 ≠ V.heap.size := Nat.ne_of_lt n3.z
                  have e_ := e.boxed (.cells #[.slice none 0 0, .slice none 0 0, .int .i64 0, .bool false] 25)
                  have f_ := f.boxed (.cells #[.slice none 0 0, .slice none 0 0, .int .i64 0, .bool false] 25)
                  refine hK.out _ _ (SSS.out _ st_.bw) (fun hHeld => ?_)
                  clear hK
                  obtain ⟨V_, hW_⟩ : ∃ X, X = V.alloc (.cells #[.slice none 0 0, .slice none 0 0, .int .i64 0, .bool false] 25) := ⟨_, rfl⟩
                  obtain ⟨b4, hq_⟩ : ∃ y, y = V.heap.size := ⟨_, rfl⟩
                  rw [← hW_] at st_ n4_ n3_ e_ f_ hHeld ⊢
                  rw [← hq_] at st_ n4_ ne_ e_ f_ ⊢
                  clear hW_ hq_ st n3 e f
                  have st2_ := st_.swap
                  clear st_
                  have st_ := st2_
                  clear st2_
                  rw [PL_swap] at e_
                  rw [PL_swap] at f_
                  obtain ⟨V, hV_⟩ : ∃ X, X = V_ := ⟨_, rfl⟩
                  subst hV_
                  have st := st_
                  clear st_
                  have n3 := n3_
                  clear n3_
                  have n4 := n4_
                  clear n4_
                  have ne := ne_
                  clear ne_
                  have e := e_
                  clear e_
                  have f := f_
                  clear f_
                  refine wpAnyH_relist (l' := #[true, true, true, true, true, true, true, true, true, true, true, true, false, false, false]) (by kernel_rfl) ?_
                  try simp only [Act.put, List.setIfInBounds_toArray, List.set_cons_zero, List.set_cons_succ]
                  clear hHeld
                  revert f
                  revert e
                  revert ne
                  revert n4
                  revert n3
                  revert st
                  revert V
                  revert b4
                  revert b3
                  revert p
                  revert s
                  revert r2
                  revert r1
                  exact k2JD
                exact AllReadyH.nil
            · intro r1 b3 b4 V st n3 n4 ne e
              have hHeld := SSS.out _ st.bw
              refine wpAnyH_ready (rs := [5]) (by kernel_rfl) (by simp) ?_
              refine AllReadyH.cons rfl (fun K hK => ?_) ?_
              · go_simp
                refine (CS.out _ _ st _ e).mono ?_
                rintro e0 V_ ⟨⟨r2, s, p, rfl, e_, f_⟩, hb_⟩
                have st_ := st.call hb_
                have n3_ := n3.step hb_
                have n4_ := n4.step hb_
                clear hb_ st n3 n4 e
                refine hK.out _ _ (SSS.out _ st_.bw) (fun hHeld => ?_)
                clear hK
                obtain ⟨V, hV_⟩ : ∃ X, X = V_ := ⟨_, rfl⟩
                subst hV_
                have st := st_
                clear st_
                have n3 := n3_
                clear n3_
                have n4 := n4_
                clear n4_
                have e := e_
                clear e_
                have f := f_
                clear f_
                refine wpAnyH_take (i := 6) (v := ?_) rfl (by kernel_rfl) (by kernel_rfl) (by kernel_rfl) (fun _ _ _ h => h) (Or.inl ⟨by rfl, ?_⟩) (by assumption) ?_
                rotate_left
                · intro w hSw
                  (try dsimp only at hSw)
                  go_simp
                  try with_reducible rfl
                simp only [Act.put, List.setIfInBounds_toArray, List.set_cons_zero, List.set_cons_succ]
                refine wpAnyH_take (i := 7) (v := ?_) rfl (by kernel_rfl) (by kernel_rfl) (by kernel_rfl) (fun _ _ _ h => h) (Or.inl ⟨by rfl, ?_⟩) (by assumption) ?_
                rotate_left
                · intro w hSw
                  (try dsimp only at hSw)
                  go_simp
                  try with_reducible rfl
                simp only [Act.put, List.setIfInBounds_toArray, List.set_cons_zero, List.set_cons_succ]
                refine wpAnyH_take (i := 8) (v := ?_) rfl (by kernel_rfl) (by kernel_rfl) (by kernel_rfl) (fun _ _ _ h => h) (Or.inl ⟨by rfl, ?_⟩) (by assumption) ?_
                rotate_left
                · intro w hSw
                  (try dsimp only at hSw)
                  go_simp
                  try with_reducible rfl
                simp only [Act.put, List.setIfInBounds_toArray, List.set_cons_zero, List.set_cons_succ]
                refine wpAnyH_take (i := 9) (v := ?_) rfl (by kernel_rfl) (by kernel_rfl) (by kernel_rfl) (fun _ _ _ h => h) (Or.inl ⟨by rfl, ?_⟩) (by assumption) ?_
                rotate_left
                · intro w hSw
                  (try dsimp only at hSw)
                  go_simp
                  try with_reducible rfl
                simp only [Act.put, List.setIfInBounds_toArray, List.set_cons_zero, List.set_cons_succ]
                refine wpAnyH_relist (l' := #[true, true, true, true, true, true, true, true, true, true, true, true, false, false, false]) (by kernel_rfl) ?_
                try simp only [Act.put, List.setIfInBounds_toArray, List.set_cons_zero, List.set_cons_succ]
                clear hHeld
                revert f
                revert e
                revert ne
                revert n4
                revert n3
                revert st
                revert V
                revert b4
                revert b3
                revert p
                revert s
                revert r2
                revert r1
                exact k2JD
              exact AllReadyH.nil
          · intro r1 r2 s p b3 b4 V st n3 n4 ne e f
            have hHeld := SSS.out _ st.bw
            have hz := st.stored (b3 := b3) (b4 := b4) (by simp) (by simp) ne n3 n4 (.slice r2.a r2.n r2.c) (.int .i64 40) (.int .i64 BB.length) (.slice s.a s.n s.c) (.slice p.a p.n p.c) (.int .i64 C3.left) (.bool C3.stopped) e f
            have hy : Below W8.heap.size W8 (put3 V b3 (.slice r2.a r2.n r2.c) (.int .i64 40) (.int .i64 BB.length)) := put3_below st.bw (st.hi b3 (by simp)).1 _ _ _
            have hx : Box4 (put3 V b3 (.slice r2.a r2.n r2.c) (.int .i64 40) (.int .i64 BB.length)) b4 _ _ _ _ := n4.far (put3_keep _ _ _ _ _) (by simp only [ne_eq, Option.some.injEq]; exact ne)
            obtain ⟨x0, x1, x2, xf0, xf1, xf2, xz⟩ := n3
            refine wpAnyH_ready (rs := [12]) (by kernel_rfl) (by simp) ?_
            refine AllReadyH.cons rfl (fun K hK => ?_) ?_
            · go_simp
              obtain ⟨U1, hU⟩ : ∃ X, X = put3 V b3 (.slice r2.a r2.n r2.c) (.int .i64 40) (.int .i64 BB.length) := ⟨_, rfl⟩
              rw [← hU] at hz hy hx
              unfold put3 at hU
              rw [← hU]
              clear hU x0 x1 x2 xf0 xf1 xf2 xz
              refine hK.out _ _ (SSS.out _ hy) (fun hHeld => ?_)
              clear hK
              obtain ⟨x0, x1, x2, x3, xf0, xf1, xf2, xf3, xz⟩ := hx
              refine wpAnyH_ready (rs := [13]) (by kernel_rfl) (by simp) ?_
              refine AllReadyH.cons rfl (fun K hK => ?_) ?_
              · go_simp
                obtain ⟨Y1, hU⟩ : ∃ X, X = put4 U1 b4 (.slice s.a s.n s.c) (.slice p.a p.n p.c) (.int .i64 C3.left) (.bool C3.stopped) := ⟨_, rfl⟩
                rw [← hU] at hz
                unfold put4 at hU
                rw [← hU]
                clear hU x0 x1 x2 x3 xf0 xf1 xf2 xf3 xz
                refine hK.out _ _ (SSS.out _ hz.2.2.2.2) (fun hHeld => ?_)
                clear hK
                refine wpAnyH_ready (rs := [14]) (by kernel_rfl) (by simp) ?_
                refine AllReadyH.cons rfl (fun K hK => ?_) ?_
                · go_simp
                  refine hK.out _ _ (SSS.out _ hz.2.2.2.2) (fun hHeld => ?_)
                  clear hK
                  refine wpAnyH_done (by kernel_rfl) ?_ _
                  go_wp2_with fail
                  go_meet
                  exact ⟨b3, b4, r2, s, p, rfl, rfl, rfl, hz.1, hz.2.1, hz.2.2.1, hz.2.2.2.1, hz.2.2.2.2⟩
                exact AllReadyH.nil
              exact AllReadyH.nil
            exact AllReadyH.nil
        case rest =>
          obtain ⟨W9, hwc⟩ : ∃ X, X = wc := ⟨_, rfl⟩
          subst hwc
          obtain ⟨J3, E3, r3, s3, p3, rfl, rfl, rfl, hj3, he3, hr3, hd3, hb9⟩ := hcut
          have X1 := Lib.hid (X1b.out.step hb9)
          have Y1 := Lib.hid (Y1b.out.step hb9)
          have R1 := Lib.hid (R1b.out.step hb9)
          have Q1 := Lib.hid (Q1b.out.step hb9)
          have X3 := Lib.hid hj3
          have Y3 := Lib.hid he3
          have R3 := Lib.hid hr3
          have Q3 := Lib.hid hd3
          have HB := Lib.hid (HB8.out.trans (hb9.mono HB8.out.size))
          clear hj3 he3 hr3 hd3 hb9 SSS CB CS st0 X1b Y1b R1b Q1b X2 Y2 R2 Q2 HB8 HYW8
          obtain ⟨X3_0, X3_1, X3_2, X3_f0, X3_f1, X3_f2, X3_z⟩ := X3.out
          obtain ⟨Y3_0, Y3_1, Y3_2, Y3_3, Y3_f0, Y3_f1, Y3_f2, Y3_f3, Y3_z⟩ := Y3.out
          go_wp2_with fail
          have hs := JSync_any (P := everyB) ⟨BB, 40, BB.length⟩ C3 r3 s3 p3 W9 R3.out Q3.out
          unfold SyncP at hs
          rw [HS4.out] at hs
          unfold jlV dkV at hs
          simp only at hs
          refine hs.mono ?_
          rintro e W10 ⟨⟨r4, s4, p4, rfl, hr4, hd4⟩, hb10⟩
          clear hs
          clear X3_0 X3_1 X3_2 X3_f0 X3_f1 X3_f2 X3_z
          clear Y3_0 Y3_1 Y3_2 Y3_3 Y3_f0 Y3_f1 Y3_f2 Y3_f3 Y3_z
          have X1 := Lib.hid (X1.out.step hb10)
          have Y1 := Lib.hid (Y1.out.step hb10)
          have R1 := Lib.hid (R1.out.step hb10)
          have Q1 := Lib.hid (Q1.out.step hb10)
          have X3 := Lib.hid (X3.out.step hb10)
          have Y3 := Lib.hid (Y3.out.step hb10)
          have R3 := Lib.hid (R3.out.step hb10)
          have Q3 := Lib.hid (Q3.out.step hb10)
          have HB := Lib.hid (HB.out.trans (hb10.mono HB.out.size))
          have R4 : Hid (Se W10 everyB r4 BB) := Lib.hid (hr4.mono (fun _ _ => trivial))
          have Q4 : Hid (Di W10 everyB s4 p4 C3) := Lib.hid (hd4.mono (fun _ _ => trivial))
          clear hr4 hd4 hb10
          go_upto_region 14 with fail
          obtain ⟨W11, hW11⟩ : ∃ X, X = ((W10.alloc (.cells #[.slice r4.a r4.n r4.c, .int .i64 40, .int .i64 BB.length] 29)).alloc (.cells #[.slice s4.a s4.n s4.c, .slice p4.a p4.n p4.c, .int .i64 C3.left, .bool C3.stopped] 25)) := ⟨_, rfl⟩
          rw [← hW11]
          have hb11 : Below W10.heap.size W10 W11 := by rw [hW11]; exact ((Below.refl _ _).alloc (Nat.le_refl _) _).alloc (by simp) _
          have X1 := Lib.hid (X1.out.step hb11)
          have Y1 := Lib.hid (Y1.out.step hb11)
          have R1 := Lib.hid (R1.out.step hb11)
          have Q1 := Lib.hid (Q1.out.step hb11)
          have X3 := Lib.hid (X3.out.step hb11)
          have Y3 := Lib.hid (Y3.out.step hb11)
          have R3 := Lib.hid (R3.out.step hb11)
          have Q3 := Lib.hid (Q3.out.step hb11)
          have HB := Lib.hid (HB.out.trans (hb11.mono HB.out.size))
          have R4 := Lib.hid (R4.out.step hb11)
          have Q4 := Lib.hid (Q4.out.step hb11)
          have X4 : Hid (Box3 W11 W10.heap.size (.slice r4.a r4.n r4.c) (.int .i64 40) (.int .i64 BB.length)) := Lib.hid (by rw [hW11]; exact (Box3.new ..).step ((Below.refl _ _).alloc (Nat.le_refl _) _))
          have Y4 : Hid (Box4 W11 (W10.heap.size + 1) (.slice s4.a s4.n s4.c) (.slice p4.a p4.n p4.c) (.int .i64 C3.left) (.bool C3.stopped)) := Lib.hid (by rw [hW11]; exact Box4.at_ _ _ _ _ _ _ _ (by simp))
          clear hb11 hW11
          obtain ⟨Y1_0, Y1_1, Y1_2, Y1_3, Y1_f0, Y1_f1, Y1_f2, Y1_f3, Y1_z⟩ := Y1.out
          go_wp2_with fail
          have hopn := Open_any (P := everyB) C1 s1 p1 W11 Q1.out
          rw [HO1.out] at hopn
          unfold jlV dkV at hopn
          simp only at hopn
          refine hopn.mono ?_
          rintro e W12 ⟨⟨r5, rfl, hrr⟩, hbb⟩
          clear hopn
          clear Y1_0 Y1_1 Y1_2 Y1_3 Y1_f0 Y1_f1 Y1_f2 Y1_f3 Y1_z
          have X1 := Lib.hid (X1.out.step hbb)
          have Y1 := Lib.hid (Y1.out.step hbb)
          have R1 := Lib.hid (R1.out.step hbb)
          have Q1 := Lib.hid (Q1.out.step hbb)
          have X3 := Lib.hid (X3.out.step hbb)
          have Y3 := Lib.hid (Y3.out.step hbb)
          have R3 := Lib.hid (R3.out.step hbb)
          have Q3 := Lib.hid (Q3.out.step hbb)
          have HB := Lib.hid (HB.out.trans (hbb.mono HB.out.size))
          have R4 := Lib.hid (R4.out.step hbb)
          have Q4 := Lib.hid (Q4.out.step hbb)
          have X4 := Lib.hid (X4.out.step hbb)
          have Y4 := Lib.hid (Y4.out.step hbb)
          have R5 : Hid (Se W12 everyB r5 BB) := Lib.hid (hrr.mono (fun _ _ => trivial))
          clear hrr hbb
          simp only
          go_upto_region 15 with fail
          obtain ⟨W13, hWW⟩ : ∃ X, X = (W12.alloc (.cells #[.slice r5.a r5.n r5.c, .int .i64 40, .int .i64 BB.length] 29)) := ⟨_, rfl⟩
          rw [← hWW]
          have hbb : Below W12.heap.size W12 W13 := by rw [hWW]; exact (Below.refl _ _).alloc (Nat.le_refl _) _
          have X1 := Lib.hid (X1.out.step hbb)
          have Y1 := Lib.hid (Y1.out.step hbb)
          have R1 := Lib.hid (R1.out.step hbb)
          have Q1 := Lib.hid (Q1.out.step hbb)
          have X3 := Lib.hid (X3.out.step hbb)
          have Y3 := Lib.hid (Y3.out.step hbb)
          have R3 := Lib.hid (R3.out.step hbb)
          have Q3 := Lib.hid (Q3.out.step hbb)
          have HB := Lib.hid (HB.out.trans (hbb.mono HB.out.size))
          have R4 := Lib.hid (R4.out.step hbb)
          have Q4 := Lib.hid (Q4.out.step hbb)
          have X4 := Lib.hid (X4.out.step hbb)
          have Y4 := Lib.hid (Y4.out.step hbb)
          have R5 := Lib.hid (R5.out.step hbb)
          have X5 : Hid (Box3 W13 W12.heap.size (.slice r5.a r5.n r5.c) (.int .i64 40) (.int .i64 BB.length)) := Lib.hid (by rw [hWW]; exact Box3.new ..)
          clear hbb hWW
          obtain ⟨Y4_0, Y4_1, Y4_2, Y4_3, Y4_f0, Y4_f1, Y4_f2, Y4_f3, Y4_z⟩ := Y4.out
          go_wp2_with fail
          have hopn := Open_any (P := everyB) C3 s4 p4 W13 Q4.out
          rw [HO2.out] at hopn
          unfold jlV dkV at hopn
          simp only at hopn
          refine hopn.mono ?_
          rintro e W14 ⟨⟨r6, rfl, hrr⟩, hbb⟩
          clear hopn
          clear Y4_0 Y4_1 Y4_2 Y4_3 Y4_f0 Y4_f1 Y4_f2 Y4_f3 Y4_z
          have X1 := Lib.hid (X1.out.step hbb)
          have Y1 := Lib.hid (Y1.out.step hbb)
          have R1 := Lib.hid (R1.out.step hbb)
          have Q1 := Lib.hid (Q1.out.step hbb)
          have X3 := Lib.hid (X3.out.step hbb)
          have Y3 := Lib.hid (Y3.out.step hbb)
          have R3 := Lib.hid (R3.out.step hbb)
          have Q3 := Lib.hid (Q3.out.step hbb)
          have HB := Lib.hid (HB.out.trans (hbb.mono HB.out.size))
          have R4 := Lib.hid (R4.out.step hbb)
          have Q4 := Lib.hid (Q4.out.step hbb)
          have X4 := Lib.hid (X4.out.step hbb)
          have Y4 := Lib.hid (Y4.out.step hbb)
          have R5 := Lib.hid (R5.out.step hbb)
          have X5 := Lib.hid (X5.out.step hbb)
          have R6 : Hid (Se W14 everyB r6 BB) := Lib.hid (hrr.mono (fun _ _ => trivial))
          clear hrr hbb
          simp only
          go_upto_region 16 with fail
          obtain ⟨W15, hWW⟩ : ∃ X, X = (W14.alloc (.cells #[.slice r6.a r6.n r6.c, .int .i64 40, .int .i64 BB.length] 29)) := ⟨_, rfl⟩
          rw [← hWW]
          have hbb : Below W14.heap.size W14 W15 := by rw [hWW]; exact (Below.refl _ _).alloc (Nat.le_refl _) _
          have X1 := Lib.hid (X1.out.step hbb)
          have Y1 := Lib.hid (Y1.out.step hbb)
          have R1 := Lib.hid (R1.out.step hbb)
          have Q1 := Lib.hid (Q1.out.step hbb)
          have X3 := Lib.hid (X3.out.step hbb)
          have Y3 := Lib.hid (Y3.out.step hbb)
          have R3 := Lib.hid (R3.out.step hbb)
          have Q3 := Lib.hid (Q3.out.step hbb)
          have HB := Lib.hid (HB.out.trans (hbb.mono HB.out.size))
          have R4 := Lib.hid (R4.out.step hbb)
          have Q4 := Lib.hid (Q4.out.step hbb)
          have X4 := Lib.hid (X4.out.step hbb)
          have Y4 := Lib.hid (Y4.out.step hbb)
          have R5 := Lib.hid (R5.out.step hbb)
          have X5 := Lib.hid (X5.out.step hbb)
          have R6 := Lib.hid (R6.out.step hbb)
          have X6 : Hid (Box3 W15 W14.heap.size (.slice r6.a r6.n r6.c) (.int .i64 40) (.int .i64 BB.length)) := Lib.hid (by rw [hWW]; exact Box3.new ..)
          clear hbb hWW
          obtain ⟨X1_0, X1_1, X1_2, X1_f0, X1_f1, X1_f2, X1_z⟩ := X1.out
          obtain ⟨X3_0, X3_1, X3_2, X3_f0, X3_f1, X3_f2, X3_z⟩ := X3.out
          go_wp2_with fail
          have hsm := JSame_any (P := everyB) (Q := everyB) ⟨BB, 40, BB.length⟩ ⟨BB, 40, BB.length⟩ r1 r3 W15 R1.out R3.out
          rw [sameJ_self] at hsm
          unfold jlV at hsm
          simp only at hsm
          refine hsm.mono ?_
          rintro e W16 ⟨rfl, hbb⟩
          clear hsm
          clear X1_0 X1_1 X1_2 X1_f0 X1_f1 X1_f2 X1_z
          clear X3_0 X3_1 X3_2 X3_f0 X3_f1 X3_f2 X3_z
          have X1 := Lib.hid (X1.out.step hbb)
          have Y1 := Lib.hid (Y1.out.step hbb)
          have R1 := Lib.hid (R1.out.step hbb)
          have Q1 := Lib.hid (Q1.out.step hbb)
          have X3 := Lib.hid (X3.out.step hbb)
          have Y3 := Lib.hid (Y3.out.step hbb)
          have R3 := Lib.hid (R3.out.step hbb)
          have Q3 := Lib.hid (Q3.out.step hbb)
          have HB := Lib.hid (HB.out.trans (hbb.mono HB.out.size))
          have R4 := Lib.hid (R4.out.step hbb)
          have Q4 := Lib.hid (Q4.out.step hbb)
          have X4 := Lib.hid (X4.out.step hbb)
          have Y4 := Lib.hid (Y4.out.step hbb)
          have R5 := Lib.hid (R5.out.step hbb)
          have X5 := Lib.hid (X5.out.step hbb)
          have R6 := Lib.hid (R6.out.step hbb)
          have X6 := Lib.hid (X6.out.step hbb)
          clear hbb
          obtain ⟨X4_0, X4_1, X4_2, X4_f0, X4_f1, X4_f2, X4_z⟩ := X4.out
          obtain ⟨X3_0, X3_1, X3_2, X3_f0, X3_f1, X3_f2, X3_z⟩ := X3.out
          go_wp2_with fail
          have hsm := JSame_any (P := everyB) (Q := everyB) ⟨BB, 40, BB.length⟩ ⟨BB, 40, BB.length⟩ r4 r3 W16 R4.out R3.out
          rw [sameJ_self] at hsm
          unfold jlV at hsm
          simp only at hsm
          refine hsm.mono ?_
          rintro e W17 ⟨rfl, hbb⟩
          clear hsm
          clear X4_0 X4_1 X4_2 X4_f0 X4_f1 X4_f2 X4_z
          clear X3_0 X3_1 X3_2 X3_f0 X3_f1 X3_f2 X3_z
          have X1 := Lib.hid (X1.out.step hbb)
          have Y1 := Lib.hid (Y1.out.step hbb)
          have R1 := Lib.hid (R1.out.step hbb)
          have Q1 := Lib.hid (Q1.out.step hbb)
          have X3 := Lib.hid (X3.out.step hbb)
          have Y3 := Lib.hid (Y3.out.step hbb)
          have R3 := Lib.hid (R3.out.step hbb)
          have Q3 := Lib.hid (Q3.out.step hbb)
          have HB := Lib.hid (HB.out.trans (hbb.mono HB.out.size))
          have R4 := Lib.hid (R4.out.step hbb)
          have Q4 := Lib.hid (Q4.out.step hbb)
          have X4 := Lib.hid (X4.out.step hbb)
          have Y4 := Lib.hid (Y4.out.step hbb)
          have R5 := Lib.hid (R5.out.step hbb)
          have X5 := Lib.hid (X5.out.step hbb)
          have R6 := Lib.hid (R6.out.step hbb)
          have X6 := Lib.hid (X6.out.step hbb)
          clear hbb
          obtain ⟨X5_0, X5_1, X5_2, X5_f0, X5_f1, X5_f2, X5_z⟩ := X5.out
          obtain ⟨X6_0, X6_1, X6_2, X6_f0, X6_f1, X6_f2, X6_z⟩ := X6.out
          go_wp2_with fail
          have hsm := SameRecords_any (P := everyB) (Q := everyB) BB BB r5 r6 W17 R5.out R6.out
          rw [decide_eq_true rfl] at hsm
          refine hsm.mono ?_
          rintro e W18 ⟨rfl, hbb⟩
          clear hsm
          clear X5_0 X5_1 X5_2 X5_f0 X5_f1 X5_f2 X5_z
          clear X6_0 X6_1 X6_2 X6_f0 X6_f1 X6_f2 X6_z
          have X1 := Lib.hid (X1.out.step hbb)
          have Y1 := Lib.hid (Y1.out.step hbb)
          have R1 := Lib.hid (R1.out.step hbb)
          have Q1 := Lib.hid (Q1.out.step hbb)
          have X3 := Lib.hid (X3.out.step hbb)
          have Y3 := Lib.hid (Y3.out.step hbb)
          have R3 := Lib.hid (R3.out.step hbb)
          have Q3 := Lib.hid (Q3.out.step hbb)
          have HB := Lib.hid (HB.out.trans (hbb.mono HB.out.size))
          have R4 := Lib.hid (R4.out.step hbb)
          have Q4 := Lib.hid (Q4.out.step hbb)
          have X4 := Lib.hid (X4.out.step hbb)
          have Y4 := Lib.hid (Y4.out.step hbb)
          have R5 := Lib.hid (R5.out.step hbb)
          have X5 := Lib.hid (X5.out.step hbb)
          have R6 := Lib.hid (R6.out.step hbb)
          have X6 := Lib.hid (X6.out.step hbb)
          clear hbb
          obtain ⟨X5_0, X5_1, X5_2, X5_f0, X5_f1, X5_f2, X5_z⟩ := X5.out
          obtain ⟨X1_0, X1_1, X1_2, X1_f0, X1_f1, X1_f2, X1_z⟩ := X1.out
          go_wp2_with fail
          have hsm := SameRecords_any (P := everyB) (Q := everyB) BB BB r5 r1 W18 R5.out R1.out
          rw [decide_eq_true rfl] at hsm
          refine hsm.mono ?_
          rintro e W19 ⟨rfl, hbb⟩
          clear hsm
          clear X5_0 X5_1 X5_2 X5_f0 X5_f1 X5_f2 X5_z
          clear X1_0 X1_1 X1_2 X1_f0 X1_f1 X1_f2 X1_z
          have X1 := Lib.hid (X1.out.step hbb)
          have Y1 := Lib.hid (Y1.out.step hbb)
          have R1 := Lib.hid (R1.out.step hbb)
          have Q1 := Lib.hid (Q1.out.step hbb)
          have X3 := Lib.hid (X3.out.step hbb)
          have Y3 := Lib.hid (Y3.out.step hbb)
          have R3 := Lib.hid (R3.out.step hbb)
          have Q3 := Lib.hid (Q3.out.step hbb)
          have HB := Lib.hid (HB.out.trans (hbb.mono HB.out.size))
          have R4 := Lib.hid (R4.out.step hbb)
          have Q4 := Lib.hid (Q4.out.step hbb)
          have X4 := Lib.hid (X4.out.step hbb)
          have Y4 := Lib.hid (Y4.out.step hbb)
          have R5 := Lib.hid (R5.out.step hbb)
          have X5 := Lib.hid (X5.out.step hbb)
          have R6 := Lib.hid (R6.out.step hbb)
          have X6 := Lib.hid (X6.out.step hbb)
          clear hbb
          obtain ⟨Y3_0, Y3_1, Y3_2, Y3_3, Y3_f0, Y3_f1, Y3_f2, Y3_f3, Y3_z⟩ := Y3.out
          obtain ⟨Y4_0, Y4_1, Y4_2, Y4_3, Y4_f0, Y4_f1, Y4_f2, Y4_f3, Y4_z⟩ := Y4.out
          go_wp2_with fail
          have hsm := Same_any (P := everyB) (Q := everyB) C3 s3 p3 s4 p4 W19 Q3.out Q4.out
          unfold dkV at hsm
          refine hsm.mono ?_
          rintro e W20 ⟨rfl, hbb⟩
          clear hsm
          clear Y3_0 Y3_1 Y3_2 Y3_3 Y3_f0 Y3_f1 Y3_f2 Y3_f3 Y3_z
          clear Y4_0 Y4_1 Y4_2 Y4_3 Y4_f0 Y4_f1 Y4_f2 Y4_f3 Y4_z
          have HE := Lib.hid (HB.out.trans (hbb.mono HB.out.size))
          clear hbb
          go_wp2_with fail
          go_ret
          exact ⟨rfl, HE.out⟩

theorem JournalSteps_upto {w : World} (x : Sl × List (List Int)) (hx : Se w everyB x.1 x.2 ∧ x.2.length ≤ 1048576 ∧ ∀ b ∈ x.2, b.length ≤ 1048576) (y : Sl × List (List Int)) (hy : Se w everyB y.1 y.2 ∧ y.2.length ≤ 1048576 ∧ ∀ b ∈ y.2, b.length ≤ 1048576) :
    Calls Try.prog 8 #[.slice x.1.a x.1.n x.1.c, .slice y.1.a y.1.n y.1.c] w fun e w' => e = .returned (.bool true) ∧ Below w.heap.size w w' := by
  obtain ⟨⟨A, m, c⟩, xs⟩ := x
  obtain ⟨⟨A2, m2, c2⟩, ys⟩ := y
  have hm := hx.1.len
  have hm2 := hy.1.len
  simp only at hm hm2
  subst hm hm2
  exact Steps_walk A c xs A2 c2 ys w hx.1 hy.1 hx.2.1 hy.2.1 hx.2.2 hy.2.2
end Go.Proofs.Ytgbkhmoplocmkaa
