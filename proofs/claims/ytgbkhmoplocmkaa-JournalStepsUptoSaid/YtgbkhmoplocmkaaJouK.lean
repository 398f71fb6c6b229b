/- Journals: Append, of the program and of the reference. (printed by gen_jouK.py) -/
import Derived.Test.YtgbkhmoplocmkaaJouJ
import Derived.Test.YtgbkhmoplocmkaaAppZ
namespace Go.Proofs.Ytgbkhmoplocmkaa
open Go.RowKit Go.Shelf
set_option linter.unusedSimpArgs false
set_option linter.unusedVariables false
set_option maxRecDepth 20000
attribute [local go_sem] Oper.semAt_some

def appendJ (l : Jl) (b : List Int) : Jl × Int := if validJ l then (if wrap64 (l.many - usedR l.recs) < sectN b.length then (Jl.zero, 2) else (⟨l.recs ++ [b], l.many, l.synced⟩, 0)) else (Jl.zero, 1)
theorem appendJ_bad {l : Jl} {b : List Int} (h : validJ l = false) : appendJ l b = (Jl.zero, 1) := by simp [appendJ, h]
theorem appendJ_full {l : Jl} {b : List Int} (h : validJ l = true) (h2 : wrap64 (l.many - usedR l.recs) < sectN b.length) : appendJ l b = (Jl.zero, 2) := by simp [appendJ, h, h2]
theorem appendJ_ok {l : Jl} {b : List Int} (h : validJ l = true) (h2 : ¬ wrap64 (l.many - usedR l.recs) < sectN b.length) : appendJ l b = (⟨l.recs ++ [b], l.many, l.synced⟩, 0) := by simp [appendJ, h, h2]
theorem clipS_any (xs : List Sl) (A : Option Addr) (c : Nat) (w : World) (h : xs.length ≤ c) (hc : c ≤ maxLen) :
    Calls Try.prog 37 #[.slice A xs.length c] w fun e w' => e = .returned (.slice A xs.length xs.length) ∧ w = w' := by
  obtain ⟨i0, hinf, hz0, hz1, hz2⟩ := info_parts Try.infoSl
  unfold maxLen at hc
  have hsl := fun W => run_slice_three (P := Try.prog) Try.underlying22 hinf A xs.length c .i64 .i64 (xs.length : Int) (xs.length : Int) (by omega) (by omega) (by omega) W
  simp only [Int.toNat_natCast] at hsl
  clear hinf hz0 hz1 hz2
  go_enter Try.func37, Try.ntmps37
  go_wp2_with fail
  go_ret
  exact ⟨rfl, rfl⟩
theorem Box3.at_ (w : World) (v0 v1 v2 : Value) (t : TypeId) (g : Nat) (hg : g = w.heap.size) : Box3 (w.alloc (.cells #[v0, v1, v2] t)) g v0 v1 v2 := by subst hg; exact Box3.new ..
theorem Box3.drew {W : World} {b : Nat} {v0 v1 v2 : Value} (h : Box3 W b v0 v1 v2) : Box3 W.drew b v0 v1 v2 := ⟨h.c0, h.c1, h.c2, h.f0, h.f1, h.f2, h.z⟩
/-- a box written whole -/
def put3 (W : World) (b : Nat) (v0 v1 v2 : Value) : World := ((W.setCell ⟨b, 0, none⟩ v0).setCell ⟨b, 1, none⟩ v1).setCell ⟨b, 2, none⟩ v2
theorem Box3.put {W : World} {b : Nat} {u0 u1 u2 : Value} (h : Box3 W b u0 u1 u2) (v0 v1 v2 : Value) : Box3 (put3 W b v0 v1 v2) b v0 v1 v2 := by
  obtain ⟨c0, c1, c2, f0, f1, f2, z⟩ := h
  refine ⟨?_, ?_, ?_, ?_, ?_, ?_, ?_⟩ <;> simp [put3, go_sem, c0, c1, c2, f0, f1, f2, z]
theorem put3_below {w W : World} {b B : Nat} (h : Below B w W) (hb : B ≤ b) (v0 v1 v2 : Value) : Below B w (put3 W b v0 v1 v2) := ((h.setCell (p := ⟨b, 0, none⟩) hb _).setCell (p := ⟨b, 1, none⟩) hb _).setCell (p := ⟨b, 2, none⟩) hb _
theorem put3_kp (P : Nat → Prop) (W : World) {b : Nat} (hb : ¬ P b) (v0 v1 v2 : Value) : Kp P W (put3 W b v0 v1 v2) :=
  (((Kp.of_below (Below.refl _ W)).setCell (a := ⟨b, 0, none⟩) hb _).setCell (a := ⟨b, 1, none⟩) hb _).setCell (a := ⟨b, 2, none⟩) hb _
theorem put3_keep (W : World) (b : Nat) (v0 v1 v2 : Value) : W.grownBy (put3 W b v0 v1 v2) (some b) :=
  ⟨rfl, rfl, rfl, by simp [put3, World.setCell], fun k hk hne => by
    have e := fun (X : World) (o : Nat) (v : Value) (hx : k < X.heap.size) => (grownBy_setCell' X ⟨b, o, none⟩ v).block k hx hne
    unfold put3
    rw [e _ 2 v2 (by simpa [World.setCell] using hk), e _ 1 v1 (by simpa [World.setCell] using hk), e _ 0 v0 hk]⟩


set_option maxRecDepth 100000 in
set_option maxHeartbeats 4000000 in
theorem JAppend_any {P : Nat → Prop} (l : Jl) (sv bv : Sl) (b : List Int) (w : World) (h : Se w P sv l.recs) (hb : By w P bv b) (hl : (l.recs.length + 1) * 24 ≤ 140737488355328) (hbl : (appendJ l b).2 = 0 → b.length ≤ 100000) :
    Calls Try.prog 15 #[jlV sv l, .slice bv.a bv.n bv.c] w fun e w' => (∃ rv : Sl, e = .returned (.tuple #[jlV rv (appendJ l b).1, .int .i64 (appendJ l b).2]) ∧ Se w' (Nw P w) rv (appendJ l b).1.recs) ∧ Below w.heap.size w w' := by
  have hln := h.len
  have hle := h.le
  have hbn := hb.1.1
  have hble := hb.le
  have HSE := Lib.hid h
  have HBY := Lib.hid hb
  have HL := Lib.hid hl
  obtain ⟨A, n, c⟩ := sv
  obtain ⟨X, nb, cb⟩ := bv
  simp only at hln hbn ⊢
  subst hln hbn
  clear h hb hl
  obtain ⟨W0, hW0⟩ : ∃ W0, ((w.alloc (.cells #[.slice A l.recs.length c, .int .i64 l.many, .int .i64 l.synced] 29)).alloc (.cells #[.slice none 0 0, .int .i64 0, .int .i64 0] 29)) = W0 := ⟨_, rfl⟩
  have hB1 : Box3 W0 w.heap.size (.slice A l.recs.length c) (.int .i64 l.many) (.int .i64 l.synced) := by rw [← hW0]; exact (Box3.new ..).step ((Below.refl _ _).alloc (Nat.le_refl _) _)
  have hB2 : Box3 W0 (w.heap.size + 1) (.slice none 0 0) (.int .i64 0) (.int .i64 0) := by rw [← hW0]; exact Box3.at_ _ _ _ _ _ _ (by simp)
  have hG0 : Below w.heap.size w W0 := by rw [← hW0]; exact ((Below.refl _ _).alloc (Nat.le_refl _) _).alloc (by simp) _
  have HB1 := Lib.hid hB1
  have HB2 := Lib.hid hB2
  have HG := Lib.hid hG0
  have HW0 := Lib.hid hW0
  clear hB1 hB2 hG0 hW0
  cases hv : validJ l
  · rw [appendJ_bad hv]
    have HC := Lib.hid (checkJ_no hv)
    clear hv hbl
    unfold jlV Jl.zero
    go_enter Try.func15, Try.ntmps15
    go_wp2_with fail
    rw [HW0.out]
    refine (JCheck_any l ⟨A, l.recs.length, c⟩ W0 (HSE.out.step HG.out)).mono ?_
    rw [HC.out]
    rintro e w1 ⟨rfl, hb1⟩
    obtain ⟨q0, q1, q2, q3, q4, q5, q6⟩ := HB2.out.step hb1
    have HG1 := Lib.hid (HG.out.trans (hb1.mono HG.out.size))
    clear hb1
    go_wp2_with fail
    exact bodyPost_ret (v := .tuple #[.agg #[.slice none 0 0, .int .i64 0, .int .i64 0], .int .i64 1]) (by simp [results, Try.results15, go_sem, q0, q1, q2]) rfl ⟨⟨⟨none, 0, 0⟩, rfl, Se.nil_ _ _⟩, put3_below (b := w.heap.size + 1) HG1.out (by omega) _ _ _⟩
  · have HC := Lib.hid (checkJ_yes hv)
    obtain ⟨N, hN⟩ : ∃ N, N = sectN b.length := ⟨_, rfl⟩
    obtain ⟨U, hU⟩ : ∃ U, U = usedR l.recs := ⟨_, rfl⟩
    have HSC : Hid (∀ WC : World, Calls Try.prog 35 #[.slice X b.length cb] WC fun e w' => e = .returned (.int .i64 N) ∧ WC = w') := Lib.hid (fun WC => by rw [hN]; exact sectors_any ⟨X, b.length, cb⟩ b.length WC rfl hble)
    have HUS : Hid (∀ WC, Below W0.heap.size W0 WC → Calls Try.prog 36 #[.slice A l.recs.length c] WC fun e w' => e = .returned (.int .i64 U) ∧ WC = w') := Lib.hid (fun WC hWC => by rw [hU]; exact used_any ⟨A, l.recs.length, c⟩ l.recs WC (HSE.out.step (HG.out.trans (hWC.mono HG.out.size))))
    cases hlt : decide (IntKind.i64.wrap (l.many - U) < N)
    · rw [appendJ_ok hv (by rw [← hN, ← hU, ← IntWalk.i64_left]; exact of_decide_eq_false hlt)] at hbl ⊢
      have hb100 := hbl rfl
      clear hv hbl hN hU hble
      unfold jlV
      simp only
      go_enter Try.func15, Try.ntmps15
      go_wp2_with fail
      rw [HW0.out]
      refine (JCheck_any l ⟨A, l.recs.length, c⟩ W0 (HSE.out.step HG.out)).mono ?_
      rw [HC.out]
      rintro e w1 ⟨rfl, hb1⟩
      have HR1 := Lib.hid (HB1.out.step hb1)
      have HR2 := Lib.hid (HB2.out.step hb1)
      have HG1 := Lib.hid (HG.out.trans (hb1.mono HG.out.size))
      have HF1 := Lib.hid hb1
      obtain ⟨r0, r1, r2, r3, r4, r5, r6⟩ := HR1.out
      obtain ⟨q0, q1, q2, q3, q4, q5, q6⟩ := HR2.out
      clear hb1
      go_wp2_with fail
      refine wp_region_below (by kernel_rfl) (by kernel_rfl) ?_
      repeat (first
        | go_big_quiet_skip
        | (go_big_quiet_want
           first
             | (apply quiet_val
                focus (
                  intro WC hWC
                  obtain ⟨hcc0, hff0⟩ := bcell hWC
                  go_simp
                  all_goals rfl
                  done)
                go_simp
                go_big_quiet_on)
             | (apply quiet_call
                focus (
                  intro WC hWC
                  go_simp
                  all_goals (first | rfl | exact ⟨rfl, rfl⟩)
                  done)
                focus (
                  intro WC hWC
                  ((with_reducible refine Calls.mono (HSC.out WC) ?_); exact fun e w' h => ⟨h.1, h.2 ▸ hWC⟩)
                  done)
                go_simp
                go_big_quiet_on)
             | (apply quiet_call
                focus (
                  intro WC hWC
                  go_simp
                  all_goals (first | rfl | exact ⟨rfl, rfl⟩)
                  done)
                focus (
                  intro WC hWC
                  ((with_reducible refine Calls.mono (HUS.out WC (HF1.out.trans (hWC.mono HF1.out.size))) ?_); exact fun e w' h => ⟨h.1, h.2 ▸ hWC⟩)
                  done)
                go_simp
                go_big_quiet_on)))
      refine wpQuiet_nil ?_
      intro w2 hw2
      have HR3 := Lib.hid (HR1.out.step hw2)
      have HR4 := Lib.hid (HR2.out.step hw2)
      have HG2 := Lib.hid (HG1.out.trans (hw2.mono HG1.out.size))
      clear hw2 r0 r1 r2 r3 r4 r5 r6 q0 q1 q2 q3 q4 q5 q6
      obtain ⟨r0, r1, r2, r3, r4, r5, r6⟩ := HR3.out
      obtain ⟨q0, q1, q2, q3, q4, q5, q6⟩ := HR4.out
      obtain ⟨us, hus, hush⟩ := HS.of_se HSE.out
      have hul : us.length = l.recs.length := hush.1
      have HUS1 := Lib.hid hus
      have HUS2 := Lib.hid hush
      obtain ⟨i0, hinf, hz0, hz1, hz2⟩ := info_parts Try.infoSl
      have HI := Lib.hid hinf
      have hcc := hus.2.1
      have hcm := hus.2.2.1
      have hn1 := hus.nil_cap
      have hn2 := hus.2.2.2.1
      simp only at hcc hcm hn1 hn2
      clear hus hush hinf
      go_wp2_with fail
      have hcl := clipS_any us A c w2 (by rw [hul]; omega) hcm
      rw [hul] at hcl
      refine hcl.mono ?_
      rintro e w3 ⟨rfl, rfl⟩
      clear hcl
      go_wp2_with fail
      refine (cloneB_any b ⟨X, b.length, cb⟩ w2 (HBY.out.step HG2.out).1 hb100).mono ?_
      rintro e w4 ⟨⟨A4, n4, c4, rfl, ho4⟩, hb4⟩
      obtain ⟨A4', c4', hsh4, hnil4, hmx4⟩ := ho4.shape
      simp only [Value.slice.injEq] at hsh4
      obtain ⟨rfl, rfl, rfl⟩ := hsh4
      have HO4 := Lib.hid ho4
      have HG4 := Lib.hid (HG2.out.trans (hb4.mono HG2.out.size))
      have HF4 := Lib.hid hb4
      have HR5 := Lib.hid ((HR3.out.step hb4).step ((Below.refl w4.heap.size w4).alloc (Nat.le_refl _) (.cells #[.slice A4 b.length c4] 35)))
      have HR6q := Lib.hid ((HR4.out.step hb4).step ((Below.refl w4.heap.size w4).alloc (Nat.le_refl _) (.cells #[.slice A4 b.length c4] 35)))
      have HG5 : Hid (Below w.heap.size w (w4.alloc (.cells #[.slice A4 b.length c4] 35))) := Lib.hid (HG4.out.alloc HG4.out.size _)
      have HU5 : Hid (SlR (w4.alloc (.cells #[.slice A4 b.length c4] 35)) P 1 slE ⟨A, l.recs.length, c⟩ us) := Lib.hid (HUS1.out.step HG5.out)
      have hz4 := hb4.size
      have hz5 := HR3.out.z
      clear hb4 ho4
      go_wp2_with (at_builtin; refine stop_mk ?_)
      refine stop_out (wpList_append_full _ rfl _ _ _ rfl slE_len slE_one 35 i0 _ 24 Try.underlying22 HI.out hz0 hz1 hz2 rfl (by omega) A us (by rw [hul]; rfl) _ HU5.out.reads hn1 (some ⟨w4.heap.size, 0, none⟩) 1 [⟨A4, b.length, c4⟩] rfl (w4.heap.size + 1) (reads_one w4 slE ⟨A4, b.length, c4⟩ _ _ rfl 1 w4.heap.size rfl) (by simp) (by have := HL.out; simp [maxLen]; omega) (by have := HL.out; simp; omega) ?_)
      intro v6 w6 ho6 hg6
      obtain ⟨zs, hzs⟩ : ∃ zs, zs = us ++ [(⟨A4, b.length, c4⟩ : Sl)] := ⟨_, rfl⟩
      rw [← hzs] at ho6
      have hzl : zs.length = (l.recs ++ [b]).length := by rw [hzs]; simp [hul]
      obtain ⟨A6, c6, rfl, _, _⟩ := ho6.shape
      have HSS : Hid (Se w6 (fun k => (P k ∧ k < w.heap.size) ∨ w2.heap.size ≤ k) ⟨A6, zs.length, c6⟩ (l.recs ++ [b])) := Lib.hid (by
        refine Se.of_row hzl ho6 ?_ (fun k hk => .inr (Nat.le_trans (by simp; omega) hk))
        rw [hzs]
        refine HS.snoc (?_ : HS w6 _ us l.recs) ?_
        · exact (((HUS2.out.mono2 (Q := fun k => P k ∧ k < w.heap.size) (fun k hk hl => ⟨hk, hl⟩)).step HG5.out).keep (Kp.of_grown2 hg6 (fun k hk e => by cases e))).mono (fun k hk => .inl hk)
        · exact (((By.step (w := w4) (P := fun k => w2.heap.size ≤ k) ⟨SlR.of_owns byteE_len HO4.out, HBY.out.2⟩ ((Below.refl _ _).alloc (Nat.le_refl _) _)).keep (Kp.of_grown2 hg6 (fun k hk e => by cases e))).mono (fun k hk => .inr hk)))
      have HR6 := Lib.hid (HR5.out.far hg6 (by simp))
      have HR7 := Lib.hid (HR6q.out.far hg6 (by simp))
      have HG6 := Lib.hid (HG5.out.grown hg6 HG5.out.size (fun k e => by cases e))
      have HZL := Lib.hid hzl
      clear ho6 hg6 hzs hzl r0 r1 r2 r3 r4 r5 r6 q0 q1 q2 q3 q4 q5 q6
      obtain ⟨r0, r1, r2, r3, r4, r5, r6⟩ := HR6.out
      obtain ⟨q0, q1, q2, q3, q4, q5, q6⟩ := HR7.out
      have hzb := HR4.out.z
      go_wp2_with fail
      have hkp : Kp (fun k => (P k ∧ k < w.heap.size) ∨ w2.heap.size ≤ k) w6 (put3 (w6.setCell ⟨w.heap.size, 0, none⟩ (.slice A6 zs.length c6)) (w.heap.size + 1) (.slice A6 zs.length c6) (.int .i64 l.many) (.int .i64 l.synced)) := ((Kp.of_below (Below.refl _ w6)).setCell (a := ⟨w.heap.size, 0, none⟩) (by simp; omega) _).trans (put3_kp _ _ (by omega) _ _ _)
      unfold put3 at hkp
      exact bodyPost_ret (v := .tuple #[.agg #[.slice A6 zs.length c6, .int .i64 l.many, .int .i64 l.synced], .int .i64 0]) (by simp [results, Try.results15, go_sem, q0, q1, q2]) rfl
        ⟨⟨⟨A6, zs.length, c6⟩, rfl, (HSS.out.keep hkp).mono (fun k hk => hk.imp (·.1) (fun h => by omega))⟩, put3_below (b := w.heap.size + 1) (HG6.out.setCell (p := ⟨w.heap.size, 0, none⟩) (Nat.le_refl _) _) (by omega) _ _ _⟩

    · rw [appendJ_full hv (by rw [← hN, ← hU, ← IntWalk.i64_left]; exact of_decide_eq_true hlt)]
      clear hv hbl hN hU hble
      unfold jlV Jl.zero
      go_enter Try.func15, Try.ntmps15
      go_wp2_with fail
      rw [HW0.out]
      refine (JCheck_any l ⟨A, l.recs.length, c⟩ W0 (HSE.out.step HG.out)).mono ?_
      rw [HC.out]
      rintro e w1 ⟨rfl, hb1⟩
      have HR1 := Lib.hid (HB1.out.step hb1)
      have HR2 := Lib.hid (HB2.out.step hb1)
      have HG1 := Lib.hid (HG.out.trans (hb1.mono HG.out.size))
      have HF1 := Lib.hid hb1
      obtain ⟨r0, r1, r2, r3, r4, r5, r6⟩ := HR1.out
      obtain ⟨q0, q1, q2, q3, q4, q5, q6⟩ := HR2.out
      clear hb1
      go_wp2_with fail
      refine wp_region_below (by kernel_rfl) (by kernel_rfl) ?_
      repeat (first
        | go_big_quiet_skip
        | (go_big_quiet_want
           first
             | (apply quiet_val
                focus (
                  intro WC hWC
                  obtain ⟨hcc0, hff0⟩ := bcell hWC
                  go_simp
                  all_goals rfl
                  done)
                go_simp
                go_big_quiet_on)
             | (apply quiet_call
                focus (
                  intro WC hWC
                  go_simp
                  all_goals (first | rfl | exact ⟨rfl, rfl⟩)
                  done)
                focus (
                  intro WC hWC
                  ((with_reducible refine Calls.mono (HSC.out WC) ?_); exact fun e w' h => ⟨h.1, h.2 ▸ hWC⟩)
                  done)
                go_simp
                go_big_quiet_on)
             | (apply quiet_call
                focus (
                  intro WC hWC
                  go_simp
                  all_goals (first | rfl | exact ⟨rfl, rfl⟩)
                  done)
                focus (
                  intro WC hWC
                  ((with_reducible refine Calls.mono (HUS.out WC (HF1.out.trans (hWC.mono HF1.out.size))) ?_); exact fun e w' h => ⟨h.1, h.2 ▸ hWC⟩)
                  done)
                go_simp
                go_big_quiet_on)))
      refine wpQuiet_nil ?_
      intro w2 hw2
      have HR4 := Lib.hid (HR2.out.step hw2)
      have HG2 := Lib.hid (HG1.out.trans (hw2.mono HG1.out.size))
      clear hw2 r0 r1 r2 r3 r4 r5 r6 q0 q1 q2 q3 q4 q5 q6
      obtain ⟨q0, q1, q2, q3, q4, q5, q6⟩ := HR4.out
      go_wp2_with fail
      exact bodyPost_ret (v := .tuple #[.agg #[.slice none 0 0, .int .i64 0, .int .i64 0], .int .i64 2]) (by simp [results, Try.results15, go_sem, q0, q1, q2]) rfl ⟨⟨⟨none, 0, 0⟩, rfl, Se.nil_ _ _⟩, put3_below (b := w.heap.size + 1) HG2.out (by omega) _ _ _⟩


set_option maxRecDepth 100000 in
set_option maxHeartbeats 4000000 in
theorem RJAppend_any {P : Nat → Prop} (l : Jl) (sv bv : Sl) (b : List Int) (w : World) (h : Se w P sv l.recs) (hb : By w P bv b) (hl : (l.recs.length + 1) * 24 ≤ 140737488355328) (hbl : (appendJ l b).2 = 0 → b.length ≤ 100000) :
    Calls Try.prog 16 #[jlV sv l, .slice bv.a bv.n bv.c] w fun e w' => (∃ rv : Sl, e = .returned (.tuple #[jlV rv (appendJ l b).1, .int .i64 (appendJ l b).2]) ∧ Se w' (Nw P w) rv (appendJ l b).1.recs) ∧ Below w.heap.size w w' := by
  have hln := h.len
  have hle := h.le
  have hbn := hb.1.1
  have hble := hb.le
  have HSE := Lib.hid h
  have HBY := Lib.hid hb
  have HL := Lib.hid hl
  obtain ⟨A, n, c⟩ := sv
  obtain ⟨X, nb, cb⟩ := bv
  simp only at hln hbn ⊢
  subst hln hbn
  clear h hb hl
  obtain ⟨W0, hW0⟩ : ∃ W0, ((w.alloc (.cells #[.slice A l.recs.length c, .int .i64 l.many, .int .i64 l.synced] 29)).alloc (.cells #[.slice none 0 0, .int .i64 0, .int .i64 0] 29)) = W0 := ⟨_, rfl⟩
  have hB1 : Box3 W0 w.heap.size (.slice A l.recs.length c) (.int .i64 l.many) (.int .i64 l.synced) := by rw [← hW0]; exact (Box3.new ..).step ((Below.refl _ _).alloc (Nat.le_refl _) _)
  have hB2 : Box3 W0 (w.heap.size + 1) (.slice none 0 0) (.int .i64 0) (.int .i64 0) := by rw [← hW0]; exact Box3.at_ _ _ _ _ _ _ (by simp)
  have hG0 : Below w.heap.size w W0 := by rw [← hW0]; exact ((Below.refl _ _).alloc (Nat.le_refl _) _).alloc (by simp) _
  have HB1 := Lib.hid hB1
  have HB2 := Lib.hid hB2
  have HG := Lib.hid hG0
  have HW0 := Lib.hid hW0
  clear hB1 hB2 hG0 hW0
  cases hv : validJ l
  · rw [appendJ_bad hv]
    have HC := Lib.hid (checkJ_no hv)
    clear hv hbl
    unfold jlV Jl.zero
    go_enter Try.func16, Try.ntmps16
    go_wp2_with fail
    rw [HW0.out]
    refine (RJCheck_any l ⟨A, l.recs.length, c⟩ W0 (HSE.out.step HG.out)).mono ?_
    rw [HC.out]
    rintro e w1 ⟨rfl, hb1⟩
    obtain ⟨q0, q1, q2, q3, q4, q5, q6⟩ := HB2.out.step hb1
    have HG1 := Lib.hid (HG.out.trans (hb1.mono HG.out.size))
    clear hb1
    go_wp2_with fail
    exact bodyPost_ret (v := .tuple #[.agg #[.slice none 0 0, .int .i64 0, .int .i64 0], .int .i64 1]) (by simp [results, Try.results16, go_sem, q0, q1, q2]) rfl ⟨⟨⟨none, 0, 0⟩, rfl, Se.nil_ _ _⟩, put3_below (b := w.heap.size + 1) HG1.out (by omega) _ _ _⟩
  · have HC := Lib.hid (checkJ_yes hv)
    obtain ⟨N, hN⟩ : ∃ N, N = sectN b.length := ⟨_, rfl⟩
    obtain ⟨U, hU⟩ : ∃ U, U = usedR l.recs := ⟨_, rfl⟩
    have HSC : Hid (∀ WC : World, Calls Try.prog 39 #[.int .i64 b.length] WC fun e w' => e = .returned (.int .i64 N) ∧ WC = w') := Lib.hid (fun WC => by rw [hN]; exact RSectors_any b.length WC hble)
    have HUS : Hid (∀ WC, Below W0.heap.size W0 WC → Calls Try.prog 40 #[.slice A l.recs.length c] WC fun e w' => e = .returned (.int .i64 U) ∧ WC = w') := Lib.hid (fun WC hWC => by rw [hU]; exact RUsed_any ⟨A, l.recs.length, c⟩ l.recs WC (HSE.out.step (HG.out.trans (hWC.mono HG.out.size))))
    cases hlt : decide (IntKind.i64.wrap (l.many - U) < N)
    · rw [appendJ_ok hv (by rw [← hN, ← hU, ← IntWalk.i64_left]; exact of_decide_eq_false hlt)] at hbl ⊢
      have hb100 := hbl rfl
      clear hv hbl hN hU hble
      unfold jlV
      simp only
      go_enter Try.func16, Try.ntmps16
      go_wp2_with fail
      rw [HW0.out]
      refine (RJCheck_any l ⟨A, l.recs.length, c⟩ W0 (HSE.out.step HG.out)).mono ?_
      rw [HC.out]
      rintro e w1 ⟨rfl, hb1⟩
      have HR1 := Lib.hid (HB1.out.step hb1)
      have HR2 := Lib.hid (HB2.out.step hb1)
      have HG1 := Lib.hid (HG.out.trans (hb1.mono HG.out.size))
      have HF1 := Lib.hid hb1
      obtain ⟨r0, r1, r2, r3, r4, r5, r6⟩ := HR1.out
      obtain ⟨q0, q1, q2, q3, q4, q5, q6⟩ := HR2.out
      clear hb1
      go_wp2_with fail
      refine wp_region_below (by kernel_rfl) (by kernel_rfl) ?_
      repeat (first
        | go_big_quiet_skip
        | (go_big_quiet_want
           first
             | (apply quiet_val
                focus (
                  intro WC hWC
                  obtain ⟨hcc0, hff0⟩ := bcell hWC
                  go_simp
                  all_goals rfl
                  done)
                go_simp
                go_big_quiet_on)
             | (apply quiet_call
                focus (
                  intro WC hWC
                  go_simp
                  all_goals (first | rfl | exact ⟨rfl, rfl⟩)
                  done)
                focus (
                  intro WC hWC
                  ((with_reducible refine Calls.mono (HSC.out WC) ?_); exact fun e w' h => ⟨h.1, h.2 ▸ hWC⟩)
                  done)
                go_simp
                go_big_quiet_on)
             | (apply quiet_call
                focus (
                  intro WC hWC
                  go_simp
                  all_goals (first | rfl | exact ⟨rfl, rfl⟩)
                  done)
                focus (
                  intro WC hWC
                  ((with_reducible refine Calls.mono (HUS.out WC (HF1.out.trans (hWC.mono HF1.out.size))) ?_); exact fun e w' h => ⟨h.1, h.2 ▸ hWC⟩)
                  done)
                go_simp
                go_big_quiet_on)))
      refine wpQuiet_nil ?_
      intro w2 hw2
      have HR3 := Lib.hid (HR1.out.step hw2)
      have HR4 := Lib.hid (HR2.out.step hw2)
      have HG2 := Lib.hid (HG1.out.trans (hw2.mono HG1.out.size))
      clear hw2 r0 r1 r2 r3 r4 r5 r6 q0 q1 q2 q3 q4 q5 q6
      obtain ⟨r0, r1, r2, r3, r4, r5, r6⟩ := HR3.out
      obtain ⟨q0, q1, q2, q3, q4, q5, q6⟩ := HR4.out
      obtain ⟨us, hus, hush⟩ := HS.of_se HSE.out
      have hul : us.length = l.recs.length := hush.1
      have HUS1 := Lib.hid hus
      have HUS2 := Lib.hid hush
      obtain ⟨i0, hinf, hz0, hz1, hz2⟩ := info_parts Try.infoSl
      have HI := Lib.hid hinf
      have hcc := hus.2.1
      have hcm := hus.2.2.1
      have hn1 := hus.nil_cap
      have hn2 := hus.2.2.2.1
      simp only at hcc hcm hn1 hn2
      clear hus hush hinf
      have HR5 := Lib.hid (HR3.out.step ((Below.refl w2.heap.size w2).alloc (Nat.le_refl _) (.cells #[] 35)))
      have HR6q := Lib.hid (HR4.out.step ((Below.refl w2.heap.size w2).alloc (Nat.le_refl _) (.cells #[] 35)))
      have HG5 : Hid (Below w.heap.size w (w2.alloc (.cells #[] 35))) := Lib.hid (HG2.out.alloc HG2.out.size _)
      have HU5 : Hid (SlR (w2.alloc (.cells #[] 35)) P 1 slE ⟨A, l.recs.length, c⟩ us) := Lib.hid (HUS1.out.step HG5.out)
      have hO : Owns (w2.alloc (.cells #[] 35)) w2.heap.size 35 1 slE (.slice (some ⟨w2.heap.size, 0, none⟩) 0 0) [] := Owns.lit (ys := ([] : List Sl)) slE_len rfl (Nat.le_refl _) (by simp)
      have HO := Lib.hid hO
      have hz5 := HR3.out.z
      clear hO
      go_wp2_with (at_builtin; refine stop_mk ?_)
      refine stop_out (wpList_append_reads (en := slE) (sz := 1) _ rfl _ _ _ rfl slE_len slE_one w2.heap.size 35 i0 _ 24 Try.underlying22 HI.out hz0 hz1 hz2 rfl (by omega) _ [] rfl HO.out _ A c us (by rw [hul]; rfl) HU5.out.reads hn2 (by have := HL.out; simp [maxLen]; omega) (by have := HL.out; simp; omega) (by simp) ?_)
      intro v4 w4 ho4 hg4 _ _
      simp only [List.nil_append] at ho4
      obtain ⟨A4, c4, rfl, _, _⟩ := ho4.shape
      have HR8 := Lib.hid ((HR5.out.far hg4 (fun e => by have := HO.out.base_le _ e; omega)).step ((Below.refl w4.heap.size w4).alloc (Nat.le_refl _) (.cells #[.slice X b.length cb] 35)))
      have HR9q := Lib.hid ((HR6q.out.far hg4 (fun e => by have := HO.out.base_le _ e; have := HR4.out.z; omega)).step ((Below.refl w4.heap.size w4).alloc (Nat.le_refl _) (.cells #[.slice X b.length cb] 35)))
      have HG4 := Lib.hid (HG5.out.grown hg4 HG5.out.size (fun k e => by have := HO.out.base_le k e; omega))
      have HG7 : Hid (Below w.heap.size w (w4.alloc (.cells #[.slice X b.length cb] 35))) := Lib.hid (HG4.out.alloc HG4.out.size _)
      have HO7 := Lib.hid (ho4.alloc (.cells #[.slice X b.length cb] 35))
      have hz4 := HG4.out.size
      have hz42 := hg4.size
      rw [hul] at HO7
      simp at hz42
      have HZ42 := Lib.hid hz42
      clear ho4 hg4 hz42
      go_wp2_with (at_builtin; refine stop_mk ?_)
      refine stop_out (wpList_append_reads (en := slE) (sz := 1) _ rfl _ _ _ rfl slE_len slE_one w2.heap.size 35 i0 _ 24 Try.underlying22 HI.out hz0 hz1 hz2 rfl (by omega) _ us rfl HO7.out (w4.heap.size + 1) (some ⟨w4.heap.size, 0, none⟩) 1 [⟨X, b.length, cb⟩] rfl (reads_one w4 slE ⟨X, b.length, cb⟩ _ _ rfl 1 w4.heap.size rfl) (fun h => by cases h) (by have := HL.out; simp [maxLen]; omega) (by have := HL.out; simp; omega) (by have := HZ42.out; simp; omega) ?_)
      intro v6 w6 ho6 hg6 _ _
      obtain ⟨zs, hzs⟩ : ∃ zs, zs = us ++ [(⟨X, b.length, cb⟩ : Sl)] := ⟨_, rfl⟩
      rw [← hzs] at ho6
      have hzl : zs.length = (l.recs ++ [b]).length := by rw [hzs]; simp [hul]
      obtain ⟨A6, c6, rfl, _, _⟩ := ho6.shape
      have HSS : Hid (Se w6 (fun k => (P k ∧ k < w.heap.size) ∨ w2.heap.size ≤ k) ⟨A6, zs.length, c6⟩ (l.recs ++ [b])) := Lib.hid (by
        refine Se.of_row hzl ho6 ?_ (fun k hk => .inr (Nat.le_trans (Nat.le_refl _) hk))
        rw [hzs]
        refine HS.snoc (?_ : HS w6 _ us l.recs) ?_
        · exact (((HUS2.out.mono2 (Q := fun k => P k ∧ k < w.heap.size) (fun k hk hl => ⟨hk, hl⟩)).step HG7.out).keep (Kp.of_grown2 hg6 (fun k hk e => by have := HO7.out.base_le k e.symm; omega))).mono (fun k hk => .inl hk)
        · exact ((((HBY.out.mono2 (Q := fun k => P k ∧ k < w.heap.size) (fun k hk hl => ⟨hk, hl⟩)).step HG7.out).keep (Kp.of_grown2 hg6 (fun k hk e => by have := HO7.out.base_le k e.symm; omega))).mono (fun k hk => .inl hk)))
      have HR6 := Lib.hid (HR8.out.far hg6 (fun e => by have := HO7.out.base_le _ e; omega))
      have HR7 := Lib.hid (HR9q.out.far hg6 (fun e => by have := HO7.out.base_le _ e; have := HR4.out.z; omega))
      have HG6 := Lib.hid (HG7.out.grown hg6 HG7.out.size (fun k e => by have := HO7.out.base_le k e; omega))
      have HZL := Lib.hid hzl
      clear ho6 hg6 hzs hzl r0 r1 r2 r3 r4 r5 r6 q0 q1 q2 q3 q4 q5 q6
      obtain ⟨r0, r1, r2, r3, r4, r5, r6⟩ := HR6.out
      obtain ⟨q0, q1, q2, q3, q4, q5, q6⟩ := HR7.out
      have hzb := HR4.out.z
      go_wp2_with fail
      have hkp : Kp (fun k => (P k ∧ k < w.heap.size) ∨ w2.heap.size ≤ k) w6 (put3 (w6.setCell ⟨w.heap.size, 0, none⟩ (.slice A6 zs.length c6)) (w.heap.size + 1) (.slice A6 zs.length c6) (.int .i64 l.many) (.int .i64 l.synced)) := ((Kp.of_below (Below.refl _ w6)).setCell (a := ⟨w.heap.size, 0, none⟩) (by simp; omega) _).trans (put3_kp _ _ (by omega) _ _ _)
      unfold put3 at hkp
      exact bodyPost_ret (v := .tuple #[.agg #[.slice A6 zs.length c6, .int .i64 l.many, .int .i64 l.synced], .int .i64 0]) (by simp [results, Try.results16, go_sem, q0, q1, q2]) rfl
        ⟨⟨⟨A6, zs.length, c6⟩, rfl, (HSS.out.keep hkp).mono (fun k hk => hk.imp (·.1) (fun h => by omega))⟩, put3_below (b := w.heap.size + 1) (HG6.out.setCell (p := ⟨w.heap.size, 0, none⟩) (Nat.le_refl _) _) (by omega) _ _ _⟩

    · rw [appendJ_full hv (by rw [← hN, ← hU, ← IntWalk.i64_left]; exact of_decide_eq_true hlt)]
      clear hv hbl hN hU hble
      unfold jlV Jl.zero
      go_enter Try.func16, Try.ntmps16
      go_wp2_with fail
      rw [HW0.out]
      refine (RJCheck_any l ⟨A, l.recs.length, c⟩ W0 (HSE.out.step HG.out)).mono ?_
      rw [HC.out]
      rintro e w1 ⟨rfl, hb1⟩
      have HR1 := Lib.hid (HB1.out.step hb1)
      have HR2 := Lib.hid (HB2.out.step hb1)
      have HG1 := Lib.hid (HG.out.trans (hb1.mono HG.out.size))
      have HF1 := Lib.hid hb1
      obtain ⟨r0, r1, r2, r3, r4, r5, r6⟩ := HR1.out
      obtain ⟨q0, q1, q2, q3, q4, q5, q6⟩ := HR2.out
      clear hb1
      go_wp2_with fail
      refine wp_region_below (by kernel_rfl) (by kernel_rfl) ?_
      repeat (first
        | go_big_quiet_skip
        | (go_big_quiet_want
           first
             | (apply quiet_val
                focus (
                  intro WC hWC
                  obtain ⟨hcc0, hff0⟩ := bcell hWC
                  go_simp
                  all_goals rfl
                  done)
                go_simp
                go_big_quiet_on)
             | (apply quiet_call
                focus (
                  intro WC hWC
                  go_simp
                  all_goals (first | rfl | exact ⟨rfl, rfl⟩)
                  done)
                focus (
                  intro WC hWC
                  ((with_reducible refine Calls.mono (HSC.out WC) ?_); exact fun e w' h => ⟨h.1, h.2 ▸ hWC⟩)
                  done)
                go_simp
                go_big_quiet_on)
             | (apply quiet_call
                focus (
                  intro WC hWC
                  go_simp
                  all_goals (first | rfl | exact ⟨rfl, rfl⟩)
                  done)
                focus (
                  intro WC hWC
                  ((with_reducible refine Calls.mono (HUS.out WC (HF1.out.trans (hWC.mono HF1.out.size))) ?_); exact fun e w' h => ⟨h.1, h.2 ▸ hWC⟩)
                  done)
                go_simp
                go_big_quiet_on)))
      refine wpQuiet_nil ?_
      intro w2 hw2
      have HR4 := Lib.hid (HR2.out.step hw2)
      have HG2 := Lib.hid (HG1.out.trans (hw2.mono HG1.out.size))
      clear hw2 r0 r1 r2 r3 r4 r5 r6 q0 q1 q2 q3 q4 q5 q6
      obtain ⟨q0, q1, q2, q3, q4, q5, q6⟩ := HR4.out
      go_wp2_with fail
      exact bodyPost_ret (v := .tuple #[.agg #[.slice none 0 0, .int .i64 0, .int .i64 0], .int .i64 2]) (by simp [results, Try.results16, go_sem, q0, q1, q2]) rfl ⟨⟨⟨none, 0, 0⟩, rfl, Se.nil_ _ _⟩, put3_below (b := w.heap.size + 1) HG2.out (by omega) _ _ _⟩

end Go.Proofs.Ytgbkhmoplocmkaa
