/- Journals: Sync, the program's. (printed by gen_jouO.py) -/
import Derived.Test.YtgbkhmoplocmkaaJouU
namespace Go.Proofs.Ytgbkhmoplocmkaa
open Go.RowKit Go.Shelf
set_option linter.unusedSimpArgs false
set_option linter.unusedVariables false
set_option maxRecDepth 20000
attribute [local go_sem] Oper.semAt_some

/-- what Sync has returned -/
def SyncP (P : Nat → Prop) (w : World) (R : Jl × Dk × Int) (e : Ending) (w' : World) : Prop :=
  (∃ rj sv' pv' : Sl, e = .returned (.tuple #[jlV rj R.1, dkV sv' pv' R.2.1, .int .i64 R.2.2]) ∧ Se w' (Nw P w) rj R.1.recs ∧ Di w' (Nw P w) sv' pv' R.2.1) ∧ Below w.heap.size w w'
theorem SyncP.zero {P : Nat → Prop} {w w' : World} {c : Int} (hb : Below w.heap.size w w') : SyncP P w (Jl.zero, Dk.zero, c) (.returned (.tuple #[.agg #[.slice none 0 0, .int .i64 0, .int .i64 0], .agg #[.slice none 0 0, .slice none 0 0, .int .i64 0, .bool false], .int .i64 c])) w' :=
  ⟨⟨⟨none, 0, 0⟩, ⟨none, 0, 0⟩, ⟨none, 0, 0⟩, rfl, Se.nil_ _ _, Di.zero _ _⟩, hb⟩
theorem meas_down {m m1 : Nat} {x : Int} (h : m = m1 + 1) (hx : x = (m1 : Int)) : (intOf (Value.int .i64 x)).toNat < (intOf (Value.int .i64 (m : Int))).toNat := by
  subst hx h
  simp only [intOf, Int.toNat_natCast]
  omega
theorem sect_down {b : List Int} {K k m m1 : Nat} (hb : b.length ≤ 9223372036854775807) (hK : (K : Int) = sectN b.length) (hk : k + m = K) (hm : m = m1 + 1) : wrap64 ((m : Int) - 1) = (m1 : Int) := by
  have h2 := sectN_le hb
  rw [← hK] at h2
  clear hK
  have h3 : (m : Int) ≤ 9223372036854775807 := by omega
  rw [IntWalk.wrap64_in _ ⟨by omega, by omega⟩]
  omega
theorem wrap_next {i rl a b : Nat} (h : i < rl) (h2 : rl = a - b) (h3 : a ≤ 9223372036854775807) : wrap64 ((i : Int) + 1) = ((i + 1 : Nat) : Int) := by
  rw [IntWalk.wrap64_in _ ⟨by omega, by omega⟩]
  omega
theorem not_room {a n : Nat} {pr r WS : List (List Int)} {x : List Int} (h : pr ++ (x :: r) = WS) (hn : ¬ a + pr.length < n) : ¬ a + WS.length ≤ n := by
  rw [← h]
  simp only [List.length_append, List.length_cons]
  omega
theorem ws_next {g ai KD : Int} {a a0 k : Nat} {b ENC : List Int} {pr T WS : List (List Int)} (hk : k < sectK b) (h : pr ++ ((secsB g a b).drop k ++ T) = WS) (e : ENC = encB g ai KD (cutB b k)) (hKD : KD = kindK k (sectK b)) (hai : ai = ((a0 + pr.length : Nat) : Int)) (hak : a + k = a0 + pr.length) : (pr ++ [ENC]) ++ ((secsB g a b).drop (k + 1) ++ T) = WS := by
  have h1 := secsB_drop (g := g) (a := a) hk
  have h2 : encB g ((a + k : Nat) : Int) (kindK k (sectK b)) (cutB b k) = ENC := by rw [e, hKD, hai, hak]
  rw [h2] at h1
  rw [h1, List.cons_append] at h
  rw [List.append_assoc, List.singleton_append]
  exact h
theorem cut_rest {b rem : List Int} {k kk : Nat} (e1 : rem = b.drop (112 * k)) (e2 : kk = min rem.length 112) : rem.drop kk = b.drop (112 * (k + 1)) := by
  rw [e2]
  by_cases h3 : rem.length ≤ 112
  · rw [Nat.min_eq_left h3, List.drop_length, List.drop_of_length_le]
    rw [e1] at h3
    simp at h3
    omega
  · rw [Nat.min_eq_right (by omega), e1, List.drop_drop]
    congr 1
theorem at_next {ai : Int} {a : Nat} {pr : List (List Int)} (x : List Int) (h : ai = ((a + pr.length : Nat) : Int)) : ai + 1 = ((a + (pr ++ [x]).length : Nat) : Int) := by
  simp
  omega
theorem pre_snoc {d : Dk} {a : Nat} {pr : List (List Int)} {s : List Int} (h : pre_ok d a pr) (hs : s.length = 128) (hr : a + pr.length < d.secs.length) : pre_ok d a (pr ++ [s]) :=
  ⟨by simp; omega, fun x hx => by
    rcases List.mem_append.1 hx with h2 | h2
    · exact h.2 x h2
    · simp at h2; rw [h2]; exact hs⟩
theorem km_next {k m m1 K : Nat} (h1 : k + m = K) (h2 : m = m1 + 1) : k + 1 + m1 = K := by omega
theorem ak_next {a k a0 : Nat} {pr : List (List Int)} (x : List Int) (h : a + k = a0 + pr.length) : a + (k + 1) = a0 + (pr ++ [x]).length := by simp; omega
theorem nat_le_int {a b : Nat} (h : a ≤ b) : (a : Int) ≤ (b : Int) := by omega
theorem ai_step {ai : Int} (h : 0 ≤ ai ∧ ai < 9223372036854775807) : wrap64 (ai + 1) = ai + 1 := by rw [IntWalk.wrap64_in _ ⟨by omega, by omega⟩]
theorem Box3.set2 {W : World} {b : Nat} {v0 v1 v2 : Value} (h : Box3 W b v0 v1 v2) (v : Value) : Box3 (W.setCell ⟨b, 2, none⟩ v) b v0 v1 v := by
  obtain ⟨c0, c1, c2, f0, f1, f2, z⟩ := h
  refine ⟨?_, ?_, ?_, ?_, ?_, ?_, ?_⟩ <;> simp [go_sem, c0, c1, c2, f0, f1, f2, z]
theorem put34_below {w W : World} {g B : Nat} (h : Below B w W) (h1 : B ≤ g + 2) (v0 v1 v2 u0 u1 u2 u3 : Value) : Below B w (put4 (put3 W (g + 2) v0 v1 v2) (g + 3) u0 u1 u2 u3) := put4_below (put3_below h h1 _ _ _) (by omega) _ _ _ _

set_option maxRecDepth 100000 in
set_option maxHeartbeats 16000000 in
theorem JSync_any {P : Nat → Prop} (l : Jl) (d : Dk) (sj sv pv : Sl) (w : World) (hj : Se w P sj l.recs) (hd : Di w P sv pv d) :
    Calls Try.prog 21 #[jlV sj l, dkV sv pv d] w (SyncP P w (syncJ l d)) := by
  have hln := hj.len
  have hle := hj.le
  have hs := hd.1.len
  have hp := hd.2.len
  have HJ := Lib.hid hj
  have HD := Lib.hid hd
  obtain ⟨J, n, cj⟩ := sj
  obtain ⟨A, m, c⟩ := sv
  obtain ⟨D, m2, c2⟩ := pv
  simp only at hln hs hp
  subst hln hs hp
  clear hj hd
  obtain ⟨R, hR⟩ : ∃ R, R = syncJ l d := ⟨_, rfl⟩
  rw [← hR]
  obtain ⟨st, hst⟩ : ∃ st, st = d.stopped := ⟨_, rfl⟩
  obtain ⟨W0, hW0⟩ : ∃ W0, ((((w.alloc (.cells #[.slice J l.recs.length cj, .int .i64 l.many, .int .i64 l.synced] 29)).alloc (.cells #[.slice A d.secs.length c, .slice D d.pend.length c2, .int .i64 d.left, .bool st] 25)).alloc (.cells #[.slice none 0 0, .int .i64 0, .int .i64 0] 29)).alloc (.cells #[.slice none 0 0, .slice none 0 0, .int .i64 0, .bool false] 25)) = W0 := ⟨_, rfl⟩
  have hJB : Box3 W0 w.heap.size (.slice J l.recs.length cj) (.int .i64 l.many) (.int .i64 l.synced) := by rw [← hW0]; exact ((((Box3.new w _ _ _ _).step ((Below.refl _ _).alloc (Nat.le_refl _) _)).step ((Below.refl _ _).alloc (Nat.le_refl _) _)).step ((Below.refl _ _).alloc (Nat.le_refl _) _))
  have hDB : Box4 W0 (w.heap.size + 1) (.slice A d.secs.length c) (.slice D d.pend.length c2) (.int .i64 d.left) (.bool st) := by rw [← hW0]; exact (((Box4.at_ _ _ _ _ _ _ _ (by simp)).step ((Below.refl _ _).alloc (Nat.le_refl _) _)).step ((Below.refl _ _).alloc (Nat.le_refl _) _))
  have hRJ : Box3 W0 (w.heap.size + 2) (.slice none 0 0) (.int .i64 0) (.int .i64 0) := by rw [← hW0]; exact ((Box3.at_ _ _ _ _ _ _ (by simp)).step ((Below.refl _ _).alloc (Nat.le_refl _) _))
  have hRD : Box4 W0 (w.heap.size + 3) (.slice none 0 0) (.slice none 0 0) (.int .i64 0) (.bool false) := by rw [← hW0]; exact Box4.at_ _ _ _ _ _ _ _ (by simp)
  have hG0 : Below w.heap.size w W0 := by rw [← hW0]; exact ((((Below.refl _ _).alloc (Nat.le_refl _) _).alloc (by simp) _).alloc (by simp; omega) _).alloc (by simp; omega) _
  have HJB := Lib.hid hJB
  have HDB := Lib.hid hDB
  have HRJ := Lib.hid hRJ
  have HRD := Lib.hid hRD
  have HG := Lib.hid hG0
  have HW0 := Lib.hid hW0
  have HST := Lib.hid hst
  unfold jlV dkV
  rw [← hst]
  simp only
  clear hJB hDB hRJ hRD hG0 hW0 hst
  cases hv : validJ l
  · have hE : R = (Jl.zero, Dk.zero, 1) := by rw [hR]; simp [syncJ, hv]
    have HC := Lib.hid (checkJ_no hv)
    subst hE
    clear hR hv
    go_enter Try.func21, Try.ntmps21
    go_wp2_with fail
    rw [HW0.out]
    refine (JCheck_any l ⟨J, l.recs.length, cj⟩ W0 (HJ.out.step HG.out)).mono ?_
    rw [HC.out]
    rintro e w1 ⟨rfl, hb1⟩
    have HJB1 := Lib.hid (HJB.out.step hb1)
    have HDB1 := Lib.hid (HDB.out.step hb1)
    have HRJ1 := Lib.hid (HRJ.out.step hb1)
    have HRD1 := Lib.hid (HRD.out.step hb1)
    have HG1 := Lib.hid (HG.out.trans (hb1.mono HG.out.size))
    obtain ⟨q0, q1, q2, qf0, qf1, qf2, qz⟩ := HRJ1.out
    obtain ⟨r0, r1, r2, r3, rf0, rf1, rf2, rf3, rz⟩ := HRD1.out
    clear hb1
    go_wp2_with fail
    exact bodyPost_ret (v := .tuple #[.agg #[.slice none 0 0, .int .i64 0, .int .i64 0], .agg #[.slice none 0 0, .slice none 0 0, .int .i64 0, .bool false], .int .i64 1]) (by simp [results, Try.results21, go_sem, q0, q1, q2, r0, r1, r2, r3]) rfl (SyncP.zero (put34_below (g := w.heap.size) HG1.out (Nat.le_add_right _ 2) _ _ _ _ _ _ _))
  have HC := Lib.hid (checkJ_yes hv)
  have HV := Lib.hid hv
  cases hvd : validD d
  · have hE : R = (Jl.zero, Dk.zero, 450) := by rw [hR]; simp [syncJ, hv, hvd]
    have HC2 := Lib.hid (checkD_no hvd)
    subst hE
    clear hR hv hvd
    go_enter Try.func21, Try.ntmps21
    go_wp2_with fail
    rw [HW0.out]
    refine (JCheck_any l ⟨J, l.recs.length, cj⟩ W0 (HJ.out.step HG.out)).mono ?_
    rw [HC.out]
    rintro e w1 ⟨rfl, hb1⟩
    have HJB1 := Lib.hid (HJB.out.step hb1)
    have HDB1 := Lib.hid (HDB.out.step hb1)
    have HRJ1 := Lib.hid (HRJ.out.step hb1)
    have HRD1 := Lib.hid (HRD.out.step hb1)
    have HG1 := Lib.hid (HG.out.trans (hb1.mono HG.out.size))
    obtain ⟨d0, d1, d2, d3, df0, df1, df2, df3, dz⟩ := HDB1.out
    clear hb1
    go_wp2_with fail
    have hck := Check_any d ⟨A, d.secs.length, c⟩ ⟨D, d.pend.length, c2⟩ w1 (HD.out.step HG1.out)
    unfold dkV at hck
    rw [← HST.out] at hck
    refine hck.mono ?_
    rw [HC2.out]
    rintro e w2 ⟨rfl, hb2⟩
    clear hck
    have HJB2 := Lib.hid (HJB1.out.step hb2)
    have HDB2 := Lib.hid (HDB1.out.step hb2)
    have HRJ2 := Lib.hid (HRJ1.out.step hb2)
    have HRD2 := Lib.hid (HRD1.out.step hb2)
    have HG2 := Lib.hid (HG1.out.trans (hb2.mono HG1.out.size))
    clear d0 d1 d2 d3 df0 df1 df2 df3 dz
    obtain ⟨q0, q1, q2, qf0, qf1, qf2, qz⟩ := HRJ2.out
    obtain ⟨r0, r1, r2, r3, rf0, rf1, rf2, rf3, rz⟩ := HRD2.out
    clear hb2
    go_wp2_with fail
    exact bodyPost_ret (v := .tuple #[.agg #[.slice none 0 0, .int .i64 0, .int .i64 0], .agg #[.slice none 0 0, .slice none 0 0, .int .i64 0, .bool false], .int .i64 450]) (by simp [results, Try.results21, go_sem, q0, q1, q2, r0, r1, r2, r3]) rfl (SyncP.zero (put34_below (g := w.heap.size) HG2.out (Nat.le_add_right _ 2) _ _ _ _ _ _ _))
  have HC2 := Lib.hid (checkD_yes hvd)
  have HVD := Lib.hid hvd
  cases st with
  | true =>
    have hE : R = (Jl.zero, Dk.zero, 450) := by rw [hR]; simp [syncJ, hv, hvd, ← HST.out]
    have HOP := Lib.hid (openJ_stopped hvd HST.out.symm)
    subst hE
    clear hR hv hvd
    go_enter Try.func21, Try.ntmps21
    go_wp2_with fail
    rw [HW0.out]
    refine (JCheck_any l ⟨J, l.recs.length, cj⟩ W0 (HJ.out.step HG.out)).mono ?_
    rw [HC.out]
    rintro e w1 ⟨rfl, hb1⟩
    have HJB1 := Lib.hid (HJB.out.step hb1)
    have HDB1 := Lib.hid (HDB.out.step hb1)
    have HRJ1 := Lib.hid (HRJ.out.step hb1)
    have HRD1 := Lib.hid (HRD.out.step hb1)
    have HG1 := Lib.hid (HG.out.trans (hb1.mono HG.out.size))
    obtain ⟨d0, d1, d2, d3, df0, df1, df2, df3, dz⟩ := HDB1.out
    clear hb1
    go_wp2_with fail
    have hck := Check_any d ⟨A, d.secs.length, c⟩ ⟨D, d.pend.length, c2⟩ w1 (HD.out.step HG1.out)
    unfold dkV at hck
    rw [← HST.out] at hck
    refine hck.mono ?_
    rw [HC2.out]
    rintro e w2 ⟨rfl, hb2⟩
    clear hck
    have HJB2 := Lib.hid (HJB1.out.step hb2)
    have HDB2 := Lib.hid (HDB1.out.step hb2)
    have HRJ2 := Lib.hid (HRJ1.out.step hb2)
    have HRD2 := Lib.hid (HRD1.out.step hb2)
    have HG2 := Lib.hid (HG1.out.trans (hb2.mono HG1.out.size))
    clear d0 d1 d2 d3 df0 df1 df2 df3 dz
    obtain ⟨j0, j1, j2, jf0, jf1, jf2, jz⟩ := HJB2.out
    obtain ⟨d0, d1, d2, d3, df0, df1, df2, df3, dz⟩ := HDB2.out
    clear hb2
    by_cases hm : l.many = (d.secs.length : Int)
    · have hmb : (l.many != (d.secs.length : Int)) = false := by simpa using hm
      go_wp2_with fail
      have hop := Open_any d ⟨A, d.secs.length, c⟩ ⟨D, d.pend.length, c2⟩ w2 (HD.out.step HG2.out)
      unfold dkV jlV at hop
      rw [← HST.out] at hop
      rw [HOP.out] at hop
      simp only [Jl.zero] at hop
      refine hop.mono ?_
      rintro e w3 ⟨⟨⟨A3, n3, c3⟩, rfl, hs3⟩, hb3⟩
      clear hop
      have HJB3 := Lib.hid (HJB2.out.step hb3)
      have HDB3 := Lib.hid (HDB2.out.step hb3)
      have HRJ3 := Lib.hid (HRJ2.out.step hb3)
      have HRD3 := Lib.hid (HRD2.out.step hb3)
      have HG3 := Lib.hid (HG2.out.trans (hb3.mono HG2.out.size))
      clear d0 d1 d2 d3 df0 df1 df2 df3 dz j0 j1 j2 jf0 jf1 jf2 jz
      go_upto_region 10 with fail
      obtain ⟨w4, hw4⟩ : ∃ X, X = w3.alloc (.cells #[.slice A3 n3 c3, .int .i64 0, .int .i64 0] 29) := ⟨_, rfl⟩
      have hb4 : Below w3.heap.size w3 w4 := by rw [hw4]; exact (Below.refl _ _).alloc (Nat.le_refl _) _
      rw [← hw4]
      have HJB4 := Lib.hid (HJB3.out.step hb4)
      have HDB4 := Lib.hid (HDB3.out.step hb4)
      have HRJ4 := Lib.hid (HRJ3.out.step hb4)
      have HRD4 := Lib.hid (HRD3.out.step hb4)
      have HG4 := Lib.hid (HG3.out.trans (hb4.mono HG3.out.size))
      obtain ⟨q0, q1, q2, qf0, qf1, qf2, qz⟩ := HRJ4.out
      obtain ⟨r0, r1, r2, r3, rf0, rf1, rf2, rf3, rz⟩ := HRD4.out
      clear hb3 hs3 hb4 hw4
      go_wp2_with fail
      exact bodyPost_ret (v := .tuple #[.agg #[.slice none 0 0, .int .i64 0, .int .i64 0], .agg #[.slice none 0 0, .slice none 0 0, .int .i64 0, .bool false], .int .i64 450]) (by simp [results, Try.results21, go_sem, q0, q1, q2, r0, r1, r2, r3]) rfl (SyncP.zero (put34_below (g := w.heap.size) HG4.out (Nat.le_add_right _ 2) _ _ _ _ _ _ _))
    · have hmb : (l.many != (d.secs.length : Int)) = true := by simpa using hm
      go_wp2_with fail
      have hop := Open_any d ⟨A, d.secs.length, c⟩ ⟨D, d.pend.length, c2⟩ w2 (HD.out.step HG2.out)
      unfold dkV jlV at hop
      rw [← HST.out] at hop
      rw [HOP.out] at hop
      simp only [Jl.zero] at hop
      refine hop.mono ?_
      rintro e w3 ⟨⟨⟨A3, n3, c3⟩, rfl, hs3⟩, hb3⟩
      clear hop
      have HJB3 := Lib.hid (HJB2.out.step hb3)
      have HDB3 := Lib.hid (HDB2.out.step hb3)
      have HRJ3 := Lib.hid (HRJ2.out.step hb3)
      have HRD3 := Lib.hid (HRD2.out.step hb3)
      have HG3 := Lib.hid (HG2.out.trans (hb3.mono HG2.out.size))
      clear d0 d1 d2 d3 df0 df1 df2 df3 dz j0 j1 j2 jf0 jf1 jf2 jz
      go_upto_region 10 with fail
      obtain ⟨w4, hw4⟩ : ∃ X, X = w3.alloc (.cells #[.slice A3 n3 c3, .int .i64 0, .int .i64 0] 29) := ⟨_, rfl⟩
      have hb4 : Below w3.heap.size w3 w4 := by rw [hw4]; exact (Below.refl _ _).alloc (Nat.le_refl _) _
      rw [← hw4]
      have HJB4 := Lib.hid (HJB3.out.step hb4)
      have HDB4 := Lib.hid (HDB3.out.step hb4)
      have HRJ4 := Lib.hid (HRJ3.out.step hb4)
      have HRD4 := Lib.hid (HRD3.out.step hb4)
      have HG4 := Lib.hid (HG3.out.trans (hb4.mono HG3.out.size))
      obtain ⟨q0, q1, q2, qf0, qf1, qf2, qz⟩ := HRJ4.out
      obtain ⟨r0, r1, r2, r3, rf0, rf1, rf2, rf3, rz⟩ := HRD4.out
      clear hb3 hs3 hb4 hw4
      go_wp2_with fail
      exact bodyPost_ret (v := .tuple #[.agg #[.slice none 0 0, .int .i64 0, .int .i64 0], .agg #[.slice none 0 0, .slice none 0 0, .int .i64 0, .bool false], .int .i64 450]) (by simp [results, Try.results21, go_sem, q0, q1, q2, r0, r1, r2, r3]) rfl (SyncP.zero (put34_below (g := w.heap.size) HG4.out (Nat.le_add_right _ 2) _ _ _ _ _ _ _))
  | false =>
    by_cases hm : l.many = (d.secs.length : Int)
    case neg =>
      have hE : R = (Jl.zero, Dk.zero, 1) := by rw [hR]; simp [syncJ, hv, hvd, ← HST.out, hm]
      subst hE
      have hmb : (l.many != (d.secs.length : Int)) = true := by simpa using hm
      clear hR hv hvd hm
      go_enter Try.func21, Try.ntmps21
      go_wp2_with fail
      rw [HW0.out]
      refine (JCheck_any l ⟨J, l.recs.length, cj⟩ W0 (HJ.out.step HG.out)).mono ?_
      rw [HC.out]
      rintro e w1 ⟨rfl, hb1⟩
      have HJB1 := Lib.hid (HJB.out.step hb1)
      have HDB1 := Lib.hid (HDB.out.step hb1)
      have HRJ1 := Lib.hid (HRJ.out.step hb1)
      have HRD1 := Lib.hid (HRD.out.step hb1)
      have HG1 := Lib.hid (HG.out.trans (hb1.mono HG.out.size))
      obtain ⟨d0, d1, d2, d3, df0, df1, df2, df3, dz⟩ := HDB1.out
      clear hb1
      go_wp2_with fail
      have hck := Check_any d ⟨A, d.secs.length, c⟩ ⟨D, d.pend.length, c2⟩ w1 (HD.out.step HG1.out)
      unfold dkV at hck
      rw [← HST.out] at hck
      refine hck.mono ?_
      rw [HC2.out]
      rintro e w2 ⟨rfl, hb2⟩
      clear hck
      have HJB2 := Lib.hid (HJB1.out.step hb2)
      have HDB2 := Lib.hid (HDB1.out.step hb2)
      have HRJ2 := Lib.hid (HRJ1.out.step hb2)
      have HRD2 := Lib.hid (HRD1.out.step hb2)
      have HG2 := Lib.hid (HG1.out.trans (hb2.mono HG1.out.size))
      clear d0 d1 d2 d3 df0 df1 df2 df3 dz
      obtain ⟨j0, j1, j2, jf0, jf1, jf2, jz⟩ := HJB2.out
      obtain ⟨d0, d1, d2, d3, df0, df1, df2, df3, dz⟩ := HDB2.out
      obtain ⟨q0, q1, q2, qf0, qf1, qf2, qz⟩ := HRJ2.out
      obtain ⟨r0, r1, r2, r3, rf0, rf1, rf2, rf3, rz⟩ := HRD2.out
      clear hb2
      go_wp2_with fail
      exact bodyPost_ret (v := .tuple #[.agg #[.slice none 0 0, .int .i64 0, .int .i64 0], .agg #[.slice none 0 0, .slice none 0 0, .int .i64 0, .bool false], .int .i64 1]) (by simp [results, Try.results21, go_sem, q0, q1, q2, r0, r1, r2, r3]) rfl (SyncP.zero (put34_below (g := w.heap.size) HG2.out (Nat.le_add_right _ 2) _ _ _ _ _ _ _))
    have hmb : (l.many != (d.secs.length : Int)) = false := by simpa using hm
    have HM := Lib.hid hm
    by_cases hpn : d.pend.length = 0
    case neg =>
      have hE : R = (Jl.zero, Dk.zero, 1) := by rw [hR]; simp [syncJ, hv, hvd, ← HST.out, hm, hpn]
      subst hE
      have HOP := Lib.hid (openJ_pend hvd HST.out.symm (Nat.pos_of_ne_zero hpn))
      clear hR hv hvd hm hpn
      go_enter Try.func21, Try.ntmps21
      go_wp2_with fail
      rw [HW0.out]
      refine (JCheck_any l ⟨J, l.recs.length, cj⟩ W0 (HJ.out.step HG.out)).mono ?_
      rw [HC.out]
      rintro e w1 ⟨rfl, hb1⟩
      have HJB1 := Lib.hid (HJB.out.step hb1)
      have HDB1 := Lib.hid (HDB.out.step hb1)
      have HRJ1 := Lib.hid (HRJ.out.step hb1)
      have HRD1 := Lib.hid (HRD.out.step hb1)
      have HG1 := Lib.hid (HG.out.trans (hb1.mono HG.out.size))
      obtain ⟨d0, d1, d2, d3, df0, df1, df2, df3, dz⟩ := HDB1.out
      clear hb1
      go_wp2_with fail
      have hck := Check_any d ⟨A, d.secs.length, c⟩ ⟨D, d.pend.length, c2⟩ w1 (HD.out.step HG1.out)
      unfold dkV at hck
      rw [← HST.out] at hck
      refine hck.mono ?_
      rw [HC2.out]
      rintro e w2 ⟨rfl, hb2⟩
      clear hck
      have HJB2 := Lib.hid (HJB1.out.step hb2)
      have HDB2 := Lib.hid (HDB1.out.step hb2)
      have HRJ2 := Lib.hid (HRJ1.out.step hb2)
      have HRD2 := Lib.hid (HRD1.out.step hb2)
      have HG2 := Lib.hid (HG1.out.trans (hb2.mono HG1.out.size))
      clear d0 d1 d2 d3 df0 df1 df2 df3 dz
      obtain ⟨j0, j1, j2, jf0, jf1, jf2, jz⟩ := HJB2.out
      obtain ⟨d0, d1, d2, d3, df0, df1, df2, df3, dz⟩ := HDB2.out
      clear hb2
      go_wp2_with fail
      have hop := Open_any d ⟨A, d.secs.length, c⟩ ⟨D, d.pend.length, c2⟩ w2 (HD.out.step HG2.out)
      unfold dkV jlV at hop
      rw [← HST.out] at hop
      rw [HOP.out] at hop
      simp only [Jl.zero] at hop
      refine hop.mono ?_
      rintro e w3 ⟨⟨⟨A3, n3, c3⟩, rfl, hs3⟩, hb3⟩
      clear hop
      have HJB3 := Lib.hid (HJB2.out.step hb3)
      have HDB3 := Lib.hid (HDB2.out.step hb3)
      have HRJ3 := Lib.hid (HRJ2.out.step hb3)
      have HRD3 := Lib.hid (HRD2.out.step hb3)
      have HG3 := Lib.hid (HG2.out.trans (hb3.mono HG2.out.size))
      clear d0 d1 d2 d3 df0 df1 df2 df3 dz j0 j1 j2 jf0 jf1 jf2 jz
      go_upto_region 10 with fail
      obtain ⟨w4, hw4⟩ : ∃ X, X = w3.alloc (.cells #[.slice A3 n3 c3, .int .i64 0, .int .i64 0] 29) := ⟨_, rfl⟩
      have hb4 : Below w3.heap.size w3 w4 := by rw [hw4]; exact (Below.refl _ _).alloc (Nat.le_refl _) _
      rw [← hw4]
      have HJB4 := Lib.hid (HJB3.out.step hb4)
      have HDB4 := Lib.hid (HDB3.out.step hb4)
      have HRJ4 := Lib.hid (HRJ3.out.step hb4)
      have HRD4 := Lib.hid (HRD3.out.step hb4)
      have HG4 := Lib.hid (HG3.out.trans (hb4.mono HG3.out.size))
      obtain ⟨q0, q1, q2, qf0, qf1, qf2, qz⟩ := HRJ4.out
      obtain ⟨r0, r1, r2, r3, rf0, rf1, rf2, rf3, rz⟩ := HRD4.out
      clear hb3 hs3 hb4 hw4
      go_wp2_with fail
      exact bodyPost_ret (v := .tuple #[.agg #[.slice none 0 0, .int .i64 0, .int .i64 0], .agg #[.slice none 0 0, .slice none 0 0, .int .i64 0, .bool false], .int .i64 1]) (by simp [results, Try.results21, go_sem, q0, q1, q2, r0, r1, r2, r3]) rfl (SyncP.zero (put34_below (g := w.heap.size) HG4.out (Nat.le_add_right _ 2) _ _ _ _ _ _ _))
    have hpend : d.pend = [] := List.eq_nil_of_length_eq_zero hpn
    have HOP := Lib.hid (openJ_ok hvd HST.out.symm hpn)
    have HR : Hid (R = if goodJ l d then (if l.synced = (l.recs.length : Int) then (l, d, 0) else syncW l d) else (Jl.zero, Dk.zero, 460)) := Lib.hid (by rw [hR]; simp [syncJ, hv, hvd, ← HST.out, hm, hpn])
    have HPN := Lib.hid hpend
    have HSEC : Hid ((∀ s ∈ d.secs, s.length = 128) ∧ d.secs.length ≤ 4096) := Lib.hid (by simp [validD, sizesOk, isSec] at hvd; exact ⟨hvd.2.2, by omega⟩)
    have hsy0 : 0 ≤ l.synced ∧ l.synced ≤ (l.recs.length : Int) := by simp [validJ] at hv; omega
    obtain ⟨sy, hsy⟩ : ∃ sy : Nat, l.synced = sy := ⟨l.synced.toNat, by omega⟩
    have hsyl : sy ≤ l.recs.length := by omega
    have hs96 := HSEC.out.2
    have HSY := Lib.hid hsy
    clear hR hv hvd hm hpn hpend hsy0 hsy
    go_enter Try.func21, Try.ntmps21
    go_wp2_with fail
    rw [HW0.out]
    refine (JCheck_any l ⟨J, l.recs.length, cj⟩ W0 (HJ.out.step HG.out)).mono ?_
    rw [HC.out]
    rintro e w1 ⟨rfl, hb1⟩
    have HJB1 := Lib.hid (HJB.out.step hb1)
    have HDB1 := Lib.hid (HDB.out.step hb1)
    have HRJ1 := Lib.hid (HRJ.out.step hb1)
    have HRD1 := Lib.hid (HRD.out.step hb1)
    have HG1 := Lib.hid (HG.out.trans (hb1.mono HG.out.size))
    obtain ⟨d0, d1, d2, d3, df0, df1, df2, df3, dz⟩ := HDB1.out
    clear hb1
    go_wp2_with fail
    have hck := Check_any d ⟨A, d.secs.length, c⟩ ⟨D, d.pend.length, c2⟩ w1 (HD.out.step HG1.out)
    unfold dkV at hck
    rw [← HST.out] at hck
    refine hck.mono ?_
    rw [HC2.out]
    rintro e w2 ⟨rfl, hb2⟩
    clear hck
    have HJB2 := Lib.hid (HJB1.out.step hb2)
    have HDB2 := Lib.hid (HDB1.out.step hb2)
    have HRJ2 := Lib.hid (HRJ1.out.step hb2)
    have HRD2 := Lib.hid (HRD1.out.step hb2)
    have HG2 := Lib.hid (HG1.out.trans (hb2.mono HG1.out.size))
    clear d0 d1 d2 d3 df0 df1 df2 df3 dz
    obtain ⟨j0, j1, j2, jf0, jf1, jf2, jz⟩ := HJB2.out
    obtain ⟨d0, d1, d2, d3, df0, df1, df2, df3, dz⟩ := HDB2.out
    clear hb2
    go_wp2_with fail
    have hop := Open_any d ⟨A, d.secs.length, c⟩ ⟨D, d.pend.length, c2⟩ w2 (HD.out.step HG2.out)
    unfold dkV jlV at hop
    rw [← HST.out] at hop
    rw [HOP.out] at hop
    simp only [Jl.zero] at hop
    refine hop.mono ?_
    rintro e w3 ⟨⟨⟨A3, n3, c3⟩, rfl, hs3⟩, hb3⟩
    clear hop
    have HJB3 := Lib.hid (HJB2.out.step hb3)
    have HDB3 := Lib.hid (HDB2.out.step hb3)
    have HRJ3 := Lib.hid (HRJ2.out.step hb3)
    have HRD3 := Lib.hid (HRD2.out.step hb3)
    have HG3 := Lib.hid (HG2.out.trans (hb3.mono HG2.out.size))
    clear d0 d1 d2 d3 df0 df1 df2 df3 dz j0 j1 j2 jf0 jf1 jf2 jz
    go_upto_region 10 with fail
    obtain ⟨w4, hw4⟩ : ∃ X, X = w3.alloc (.cells #[.slice A3 n3 c3, .int .i64 d.secs.length, .int .i64 (recsJ d.secs).length] 29) := ⟨_, rfl⟩
    have hb4 : Below w3.heap.size w3 w4 := by rw [hw4]; exact (Below.refl _ _).alloc (Nat.le_refl _) _
    rw [← hw4]
    have HJB4 := Lib.hid (HJB3.out.step hb4)
    have HDB4 := Lib.hid (HDB3.out.step hb4)
    have HRJ4 := Lib.hid (HRJ3.out.step hb4)
    have HRD4 := Lib.hid (HRD3.out.step hb4)
    have HG4 := Lib.hid (HG3.out.trans (hb4.mono HG3.out.size))
    obtain ⟨j0, j1, j2, jf0, jf1, jf2, jz⟩ := HJB4.out
    obtain ⟨d0, d1, d2, d3, df0, df1, df2, df3, dz⟩ := HDB4.out
    obtain ⟨rs, hrs⟩ : ∃ rs, rs = recsJ d.secs := ⟨_, rfl⟩
    rw [← hrs] at hs3 hw4
    have hn3 : n3 = rs.length := hs3.len
    subst hn3
    have HRS := Lib.hid hrs
    have HS4 := Lib.hid (hs3.step hb4)
    obtain ⟨n0, n1, n2, _, _, _, nz⟩ : Box3 w4 w3.heap.size (.slice A3 rs.length c3) (.int .i64 d.secs.length) (.int .i64 rs.length) := by rw [hw4]; exact Box3.new ..
    have HNB : Hid (Box3 w4 w3.heap.size (.slice A3 rs.length c3) (.int .i64 d.secs.length) (.int .i64 rs.length)) := Lib.hid (by rw [hw4]; exact Box3.new ..)
    clear hb3 hs3 hb4 hw4 hrs
    go_wp2_with fail
    go_loopw [10, 59] (fun t10 t59 wr => ∃ (k : Nat) (g : Int), k ≤ d.secs.length ∧ t59 = .int .i64 k ∧ t10 = .int .u64 (g + 1) ∧ g = genF (d.secs.take k) ∧ 0 ≤ g ∧ g < 4294967296 ∧ Below w4.heap.size w4 wr) (fun _ t59 _ => d.secs.length - (intOf t59).toNat)
    case atStart => exact ⟨0, 0, Nat.zero_le _, rfl, rfl, rfl, by omega, by omega, Below.refl _ _⟩
    case round =>
      obtain ⟨k, g, hk, rfl, rfl, hg, hg0, hg1, hbw⟩ := hrel
      have HGF := Lib.hid hg
      have HBW := Lib.hid hbw
      have hzz := hbw.size
      clear hg hbw
      by_cases hlt : k < d.secs.length
      · have hdummy := True.intro
        obtain ⟨bA, oA, v, s, hA, hbA, hsk, hby, hcv⟩ := (HD.out.1.step (HG4.out.trans (HBW.out.mono HG4.out.size))).at_ hlt
        simp only at hA
        subst hA
        have hsl : s.length = 128 := HSEC.out.1 s (List.mem_of_getElem? hsk)
        obtain ⟨b1, o1, x0, hva, hb1, _⟩ := hby.at_ (k := 0) (by omega)
        obtain ⟨v, nv, cv⟩ := v
        simp only at hva hcv
        subst hva
        obtain rfl : nv = 128 := by have := hby.1.1; simp only at this; omega
        have hcc : 128 ≤ cv := by have := hby.1.2.1; simp only at this; omega
        have hmv : cv ≤ 9223372036854775807 := by have := hby.1.2.2.1; simp only [maxLen] at this; omega
        obtain ⟨q, hq⟩ : ∃ q, q = num4 s := ⟨_, rfl⟩
        obtain ⟨t, ht⟩ : ∃ t, t = numE s := ⟨_, rfl⟩
        have hq1 : 0 ≤ q ∧ q < 4294967296 := by rw [hq]; exact num_4 hby.2 0
        have ht1 : 0 ≤ t ∧ t < 4294967296 := by rw [ht]; exact num_4 hby.2 124
        have HN1 : Hid (∀ WC, Below wr.heap.size wr WC → Calls Try.prog 41 #[.slice (some ⟨b1, o1, none⟩) 4 cv] WC fun e w' => e = .returned (.int .u64 q) ∧ WC = w') := Lib.hid (fun WC hWC => by
          have h1 := (hby.step hWC).sub 0 4 (by omega)
          rw [hq]
          exact get_any ⟨some ⟨b1, o1, none⟩, 4, cv⟩ (s.take 4) WC (by simpa using h1) (by simp; omega))
        have HN2 : Hid (∀ WC, Below wr.heap.size wr WC → Calls Try.prog 41 #[.slice (some ⟨b1, o1 + 124, none⟩) 4 (cv - 124)] WC fun e w' => e = .returned (.int .u64 t) ∧ WC = w') := Lib.hid (fun WC hWC => by
          rw [ht]
          exact get_any ⟨some ⟨b1, o1 + 124, none⟩, 4, cv - 124⟩ _ WC ((hby.step hWC).sub 124 4 (by omega)) (by simp; omega))
        obtain ⟨G, hG⟩ : ∃ G, G = max (max g q) t := ⟨_, rfl⟩
        have HGN : Hid (G = genF (d.secs.take (k + 1))) := Lib.hid (by rw [hG, genF_snoc hsk, HGF.out, hq, ht])
        have hG1 : 0 ≤ G ∧ G < 4294967296 := by omega
        have hu1 : IntKind.u64.wrap (q + 1) = q + 1 := by rw [IntKind.wrap_u64]; omega
        have hu2 : IntKind.u64.wrap (t + 1) = t + 1 := by rw [IntKind.wrap_u64]; omega
        have hmx : ∀ W, (Builtin.max_ #[68, 68, 68] 68 #[.int .u64 (g + 1), .int .u64 (q + 1), .int .u64 (t + 1)]).run Try.prog W = .ok (.int .u64 (G + 1)) W := fun W => by
          rw [hG]
          simp [Builtin.max_, Builtin.max2]
          omega
        obtain ⟨i0, hinf, hz0, hz1, hz2⟩ := info_parts Try.infoByte
        have hs1 : ∀ W, (Instr.slice 35 (.slice (some ⟨b1, o1, none⟩) 128 cv) none (some (.int .i64 4)) none).run Try.prog W = .ok (.slice (some ⟨b1, o1, none⟩) 4 cv) W := fun W => by
          have := run_slice_to (P := Try.prog) Try.underlying35 hinf (some ⟨b1, o1, none⟩) 128 cv .i64 4 (by omega) (by omega) W
          exact this
        have hs2 : ∀ W, (Instr.slice 35 (.slice (some ⟨b1, o1, none⟩) 128 cv) (some (.int .i64 124)) none none).run Try.prog W = .ok (.slice (some ⟨b1, o1 + 124, none⟩) 4 (cv - 124)) W := fun W => by
          have := run_slice_from (P := Try.prog) Try.underlying35 hinf (some ⟨b1, o1, none⟩) 128 cv .i64 124 (by omega) (by omega) W
          rw [this, if_neg (by omega), hz1]
          simp [Go.WideShapes.add_plain]
        have hkl : decide ((k : Int) < (d.secs.length : Int)) = true := decide_eq_true (by omega)
        clear hinf hq ht hG hsk hby hsl hz0 hz1 hz2 j0 j1 j2 jf0 jf1 jf2 jz d0 d1 d2 d3 df0 df1 df2 df3 dz n0 n1 n2 nz
        go_wp2_with fail
        refine wp_region_below (by kernel_rfl) (by kernel_rfl) ?_
        repeat (first
          | go_big_quiet_skip
          | (go_big_quiet_want
             first
               | (apply quiet_val
                  focus (
                    intro WC hWC
                    obtain ⟨hcc0, hff0⟩ := bcell hWC
                    go_simp
                    all_goals rfl
                    done)
                  go_simp
                  go_big_quiet_on)
               | (apply quiet_call
                  focus (
                    intro WC hWC
                    go_simp
                    all_goals (first | rfl | exact ⟨rfl, rfl⟩)
                    done)
                  focus (
                    intro WC hWC
                    ((with_reducible refine Calls.mono (HN1.out WC hWC) ?_); exact fun e w' h => ⟨h.1, h.2 ▸ hWC⟩)
                    done)
                  go_simp
                  go_big_quiet_on)
               | (apply quiet_call
                  focus (
                    intro WC hWC
                    go_simp
                    all_goals (first | rfl | exact ⟨rfl, rfl⟩)
                    done)
                  focus (
                    intro WC hWC
                    ((with_reducible refine Calls.mono (HN2.out WC hWC) ?_); exact fun e w' h => ⟨h.1, h.2 ▸ hWC⟩)
                    done)
                  go_simp
                  go_big_quiet_on)))
        refine wpQuiet_nil ?_
        intro w2 hw2
        go_wp2_with fail
        go_roundw
        case rel => exact ⟨k + 1, G, by omega, by go_num, rfl, HGN.out, hG1.1, hG1.2, HBW.out.trans (hw2.mono hzz)⟩
        case measure => simp [intOf]; omega
      · obtain rfl : d.secs.length = k := by omega
        have HV2 : Hid (g = genF d.secs) := Lib.hid (by rw [HGF.out, List.take_length])
        obtain ⟨w5, hw5⟩ : ∃ X, X = wr := ⟨_, rfl⟩
        subst hw5
        clear n0 n1 n2 nz
        have HJB5 := Lib.hid (HJB4.out.step HBW.out)
        have HDB5 := Lib.hid (HDB4.out.step HBW.out)
        have HRJ5 := Lib.hid (HRJ4.out.step HBW.out)
        have HRD5 := Lib.hid (HRD4.out.step HBW.out)
        have HG5 := Lib.hid (HG4.out.trans (HBW.out.mono HG4.out.size))
        clear d0 d1 d2 d3 df0 df1 df2 df3 dz j0 j1 j2 jf0 jf1 jf2 jz
        obtain ⟨j0, j1, j2, jf0, jf1, jf2, jz⟩ := HJB5.out
        obtain ⟨n0, n1, n2, _, _, _, nz⟩ := HNB.out.step HBW.out
        have HS5 := Lib.hid (HS4.out.step HBW.out)
        obtain ⟨eb, heb⟩ : ∃ eb, eb = decide (rs = l.recs.take sy) := ⟨_, rfl⟩
        obtain ⟨gb, hgb⟩ : ∃ gb, gb = decide (4294967295 < g + 1) := ⟨_, rfl⟩
        have HGD : Hid (goodJ l d = (eb && !gb)) := Lib.hid (by unfold goodJ; rw [HSY.out, Int.toNat_natCast, ← HRS.out, ← HV2.out, heb, hgb])
        have hcj := (HJ.out.cap).1
        have hcj2 := (HJ.out.cap).2
        simp only at hcj hcj2
        have HTK : Hid (Se w P ⟨J, sy, cj⟩ (l.recs.take sy)) := Lib.hid (HJ.out.take (by omega))
        have HEQ : Hid (∀ WC, Below w5.heap.size w5 WC → Calls Try.prog 42 #[.slice A3 rs.length c3, .slice J sy cj, .func (.func 43) #[] #[]] WC fun e w' => e = .returned (.bool eb) ∧ WC = w') := Lib.hid (fun WC hWC => by
          rw [heb]
          exact EqualFunc_any rs (l.recs.take sy) ⟨A3, rs.length, c3⟩ ⟨J, sy, cj⟩ WC (HS5.out.step hWC) (HTK.out.step (HG5.out.trans (hWC.mono HG5.out.size))))
        obtain ⟨i0, hinf, hz0, hz1, hz2⟩ := info_parts Try.infoSl
        have hst1 : ∀ W, (Instr.slice 22 (.slice J l.recs.length cj) none (some (.int .i64 sy)) none).run Try.prog W = .ok (.slice J sy cj) W := fun W => by
          have := run_slice_to (P := Try.prog) Try.underlying22 hinf J l.recs.length cj .i64 sy (by omega) (by omega) W
          simpa using this
        have HI := Lib.hid hinf
        rw [HSY.out] at j2
        have HGB := Lib.hid hgb
        have HEB := Lib.hid heb
        clear heb hgb hinf
        go_upto_region 18 with fail
        go_cut [87] (fun t wx => t = .bool (!goodJ l d) ∧ Below w5.heap.size w5 wx)
        case first =>
          cases eb
          · have HE2 : Hid (goodJ l d = false) := Lib.hid (by rw [HGD.out]; rfl)
            go_wp2_with fail
            refine wp_region_below (by kernel_rfl) (by kernel_rfl) ?_
            repeat (first
              | go_big_quiet_skip
              | (go_big_quiet_want
                 first
                   | (apply quiet_val
                      focus (
                        intro WC hWC
                        obtain ⟨hcc0, hff0⟩ := bcell hWC
                        go_simp
                        all_goals rfl
                        done)
                      go_simp
                      go_big_quiet_on)
                   | (apply quiet_call
                      focus (
                        intro WC hWC
                        go_simp
                        all_goals (first | rfl | exact ⟨rfl, rfl⟩)
                        done)
                      focus (
                        intro WC hWC
                        ((with_reducible refine Calls.mono (HEQ.out WC hWC) ?_); exact fun e w' h => ⟨h.1, h.2 ▸ hWC⟩)
                        done)
                      go_simp
                      go_big_quiet_on)))
            refine wpQuiet_nil ?_
            intro w6 hw6
            go_wp2_with fail
            go_meet
            exact ⟨by rw [HE2.out]; rfl, hw6⟩
          · have HE2 : Hid (goodJ l d = !gb) := Lib.hid (by rw [HGD.out]; rfl)
            go_wp2_with fail
            refine wp_region_below (by kernel_rfl) (by kernel_rfl) ?_
            repeat (first
              | go_big_quiet_skip
              | (go_big_quiet_want
                 first
                   | (apply quiet_val
                      focus (
                        intro WC hWC
                        obtain ⟨hcc0, hff0⟩ := bcell hWC
                        go_simp
                        all_goals rfl
                        done)
                      go_simp
                      go_big_quiet_on)
                   | (apply quiet_call
                      focus (
                        intro WC hWC
                        go_simp
                        all_goals (first | rfl | exact ⟨rfl, rfl⟩)
                        done)
                      focus (
                        intro WC hWC
                        ((with_reducible refine Calls.mono (HEQ.out WC hWC) ?_); exact fun e w' h => ⟨h.1, h.2 ▸ hWC⟩)
                        done)
                      go_simp
                      go_big_quiet_on)))
            refine wpQuiet_nil ?_
            intro w6 hw6
            go_wp2_with fail
            go_meet
            refine ⟨?_, hw6⟩
            rw [HE2.out, HGB.out]
            refine congrArg Value.bool ?_
            rw [Bool.not_not, Bool.eq_iff_iff]
            simp
            omega
        case rest =>
          obtain ⟨w6, hwc⟩ : ∃ X, X = wc := ⟨_, rfl⟩
          subst hwc
          obtain ⟨rfl, hb6⟩ := hcut
          clear n0 n1 n2 nz
          have HJB6 := Lib.hid (HJB5.out.step hb6)
          have HDB6 := Lib.hid (HDB5.out.step hb6)
          have HRJ6 := Lib.hid (HRJ5.out.step hb6)
          have HRD6 := Lib.hid (HRD5.out.step hb6)
          have HG6 := Lib.hid (HG5.out.trans (hb6.mono HG5.out.size))
          clear j0 j1 j2 jf0 jf1 jf2 jz
          clear hb6
          cases hgd : goodJ l d
          · have hE : R = (Jl.zero, Dk.zero, 460) := by rw [HR.out, hgd]; rfl
            clear HR HGD hgd
            subst hE
            obtain ⟨q0, q1, q2, qf0, qf1, qf2, qz⟩ := HRJ6.out
            obtain ⟨r0, r1, r2, r3, rf0, rf1, rf2, rf3, rz⟩ := HRD6.out
            repeat (first | go_values | go_skip | go_guarded | go_step | go_upon)
            exact bodyPost_ret (v := .tuple #[.agg #[.slice none 0 0, .int .i64 0, .int .i64 0], .agg #[.slice none 0 0, .slice none 0 0, .int .i64 0, .bool false], .int .i64 460]) (by simp [results, Try.results21, go_sem, q0, q1, q2, r0, r1, r2, r3]) rfl (SyncP.zero (put34_below (g := w.heap.size) HG6.out (Nat.le_add_right _ 2) _ _ _ _ _ _ _))
          · have hE : R = if l.synced = (l.recs.length : Int) then (l, d, 0) else syncW l d := by rw [HR.out, hgd]; rfl
            by_cases hfin : sy = l.recs.length
            · have hE2 : R = (l, d, 0) := by rw [hE, if_pos (by rw [HSY.out, hfin])]
              have hfb : (sy == l.recs.length) = true := by simpa using hfin
              have hfbI : ((sy : Int) == (l.recs.length : Int)) = true := by simp; omega
              have HFIN := Lib.hid hfin
              have HGD2 := Lib.hid hgd
              clear HR HGD hE hgd hfin
              subst hE2
              obtain ⟨j0, j1, j2, jf0, jf1, jf2, jz⟩ := HJB6.out
              obtain ⟨d0, d1, d2, d3, df0, df1, df2, df3, dz⟩ := HDB6.out
              obtain ⟨q0, q1, q2, qf0, qf1, qf2, qz⟩ := HRJ6.out
              obtain ⟨r0, r1, r2, r3, rf0, rf1, rf2, rf3, rz⟩ := HRD6.out
              rw [HSY.out] at j2
              go_wp2_with fail
              go_region
              all_goals
                repeat (first | go_values | go_skip | go_guarded | go_step | go_upon)
                have hbl := (put34_below (g := w.heap.size) HG6.out (Nat.le_add_right _ 2) (.slice J l.recs.length cj) (.int .i64 l.many) (.int .i64 sy) (.slice A d.secs.length c) (.slice D d.pend.length c2) (.int .i64 d.left) (.bool false)).drew
                exact bodyPost_ret (v := .tuple #[.agg #[.slice J l.recs.length cj, .int .i64 l.many, .int .i64 sy], .agg #[.slice A d.secs.length c, .slice D d.pend.length c2, .int .i64 d.left, .bool false], .int .i64 0]) (by simp [results, Try.results21, go_sem, q0, q1, q2, r0, r1, r2, r3]) rfl ⟨⟨⟨J, l.recs.length, cj⟩, ⟨A, d.secs.length, c⟩, ⟨D, d.pend.length, c2⟩, by unfold jlV dkV; rw [HSY.out, ← HST.out], (HJ.out.step hbl).mono (fun b hb => .inl hb), (HD.out.step hbl).mono (fun b hb => .inl hb)⟩, hbl⟩
            · have hE2 : R = syncW l d := by rw [hE, if_neg (by rw [HSY.out]; omega)]
              have hfb : (sy == l.recs.length) = false := by simpa using hfin
              have hfbI : ((sy : Int) == (l.recs.length : Int)) = false := by simp; omega
              obtain ⟨a0, ha0, hu0⟩ := used_recs (fun s hs => ⟨HSEC.out.1 s hs, HD.out.1.bytes s hs⟩) HSEC.out.2
              have hgood : rs = l.recs.take sy := by
                rw [HGD.out] at hgd
                simp at hgd
                exact of_decide_eq_true (by rw [← HEB.out]; exact hgd.1)
              rw [← HRS.out, hgood] at hu0
              have hg32 : ¬ 4294967295 < g + 1 := by
                rw [HGD.out, HGB.out] at hgd
                simp at hgd
                omega
              obtain ⟨rest, hrest⟩ : ∃ r, r = l.recs.drop sy := ⟨_, rfl⟩
              obtain ⟨WS, hWS⟩ : ∃ x, x = secsR (g + 1) a0 rest := ⟨_, rfl⟩
              have HRW : Hid (R = if a0 + WS.length ≤ d.secs.length then (if (syncD (dskW d a0 WS)).2 = 0 then (⟨l.recs, l.many, l.recs.length⟩, (syncD (dskW d a0 WS)).1, 0) else (Jl.zero, (syncD (dskW d a0 WS)).1, (syncD (dskW d a0 WS)).2)) else (Jl.zero, Dk.zero, 450)) := Lib.hid (by
                rw [hE2]
                unfold syncW
                simp only [HSY.out, Int.toNat_natCast, hu0, ← HV2.out, ← hrest, ← hWS])
              have hrl : rest.length = l.recs.length - sy := by rw [hrest]; simp
              have HREST := Lib.hid hrest
              have HWS := Lib.hid hWS
              have HRL := Lib.hid hrl
              have HU0 := Lib.hid hu0
              obtain ⟨bJ, oJ, _, _, hJ, hbJ, _⟩ := HJ.out.at_ (i := sy) (by omega)
              simp only at hJ
              subst hJ
              obtain ⟨rl, hrle⟩ : ∃ n, n = l.recs.length - sy := ⟨_, rfl⟩
              have HRLE := Lib.hid hrle
              have hst2 : ∀ W, (Instr.slice 22 (.slice (some ⟨bJ, oJ, none⟩) l.recs.length cj) (some (.int .i64 sy)) none none).run Try.prog W = .ok (.slice (some ⟨bJ, oJ + sy, none⟩) rl (cj - sy)) W := fun W => by
                have := run_slice_from (P := Try.prog) Try.underlying22 HI.out (some ⟨bJ, oJ, none⟩) l.recs.length cj .i64 sy (by omega) (by omega) W
                rw [this, if_neg (by omega), hz1, hrle]
                simp [Go.WideShapes.add_plain]
              have HUS : Hid (∀ WC, Below w6.heap.size w6 WC → Calls Try.prog 36 #[.slice (some ⟨bJ, oJ, none⟩) sy cj] WC fun e w' => e = .returned (.int .i64 a0) ∧ WC = w') := Lib.hid (fun WC hWC => by
                rw [← hu0]
                exact used_any ⟨some ⟨bJ, oJ, none⟩, sy, cj⟩ (l.recs.take sy) WC (HTK.out.step (HG6.out.trans (hWC.mono HG6.out.size))))
              have hsyl2 : sy < l.recs.length := by omega
              have HSM : Hid (SyM w P (.slice (some ⟨bJ, oJ, none⟩) l.recs.length cj) (.int .i64 l.many) (.int .i64 sy) (.int .i64 d.left) (.bool false) w6 ⟨A, d.secs.length, c⟩ ⟨D, d.pend.length, c2⟩ (dskW d a0 [])) := Lib.hid ⟨by have h := HJB6.out; rw [HSY.out] at h; exact h, HDB6.out, HRJ6.out, HRD6.out, by
                have h := (QS.start HD.out).step HG6.out
                exact ⟨h.1, (congrArg (Pe w6 (QS P w) ⟨D, d.pend.length, c2⟩) HPN.out).mp h.2⟩, HG6.out⟩
              have hj2 : w6.cell? ⟨w.heap.size, 2, none⟩ = some (.int .i64 sy) := HSM.out.jb.c2
              clear HR HGD hE hE2 hgd hfin hgood hrest hWS hrl hu0 hrle
              obtain ⟨j0, j1, j2, jf0, jf1, jf2, jz⟩ := HSM.out.jb
              go_wp2_with fail
              refine (HUS.out _ (by first | exact Below.refl _ _ | exact (Below.refl _ _).drew)).mono ?_
              rintro e w7 ⟨rfl, rfl⟩
              go_wp2_with fail
              clear j0 j1 j2 jf0 jf1 jf2 jz hj2 hst1 hst2
              have hrll : rl = rest.length := by have h1 := HRL.out; have h2 := HRLE.out; omega
              have HRLL := Lib.hid hrll
              have HRSM : Hid (∀ i b, rest[i]? = some b → l.recs[sy + i]? = some b) := Lib.hid (fun i b h => by have e := HREST.out; rw [e, List.getElem?_drop] at h; exact h)
              clear hrll
              go_loopw [13, 110] (fun t13 t110 wr => ∃ (i : Nat) (pre : List (List Int)) (s' p' : Sl), t110 = .int .i64 i ∧ i ≤ rl ∧ t13 = .int .i64 ((a0 + pre.length : Nat) : Int) ∧ pre ++ secsR (g + 1) (a0 + pre.length) (rest.drop i) = WS ∧ pre_ok d a0 pre ∧ SyM w P (.slice (some ⟨bJ, oJ, none⟩) l.recs.length cj) (.int .i64 l.many) (.int .i64 sy) (.int .i64 d.left) (.bool false) wr s' p' (dskW d a0 pre)) (fun _ t110 _ => rl - (intOf t110).toNat)
              case atStart => exact ⟨0, [], ⟨A, d.secs.length, c⟩, ⟨D, d.pend.length, c2⟩, rfl, Nat.zero_le _, rfl, by rw [HWS.out]; rfl, ⟨by simpa using ha0, by simp⟩, HSM.out⟩
              case round =>
                obtain ⟨i, pre, s', p', rfl, hi, rfl, hws, hpo, hsm⟩ := hrel
                have HW1 := Lib.hid hws
                have HPO := Lib.hid hpo
                have HSR := Lib.hid hsm
                clear hws hpo hsm
                obtain ⟨wi, hwi⟩ : ∃ X, X = wr := ⟨_, rfl⟩
                subst hwi
                by_cases hlt : i < rl
                · obtain ⟨b, hb⟩ : ∃ b, rest[i]? = some b := ⟨rest[i]'(by have := HRLL.out; omega), List.getElem?_eq_getElem _⟩
                  obtain ⟨bJ', oJ', v, b', hJe, hbl, hbe, hbv, hcv0⟩ := HJ.out.at_ (i := sy + i) (by have := HRLE.out; omega)
                  simp only [Option.some.injEq, Addr.mk.injEq] at hJe
                  obtain ⟨rfl, rfl, _⟩ := hJe
                  obtain rfl : b = b' := by have h1 := HRSM.out i b hb; rw [hbe] at h1; cases h1; rfl
                  have hcv := (HSR.out.bel.cell (p := ⟨bJ, oJ + (sy + i), none⟩) hbl).trans hcv0
                  rw [← Nat.add_assoc] at hcv
                  have hblw : bJ < wi.heap.size := by have := HSR.out.bel.size; omega
                  obtain ⟨vA, vn, vc⟩ := v
                  obtain rfl : vn = b.length := hbv.1.1
                  have hble := hbv.le
                  obtain ⟨K, hK⟩ : ∃ K, K = sectK b := ⟨_, rfl⟩
                  have hKi := sectK_int b
                  rw [← hK] at hKi
                  have HBV := Lib.hid hbv
                  have HB := Lib.hid hb
                  have HK := Lib.hid hK
                  have HKI := Lib.hid hKi
                  obtain ⟨a, ha⟩ : ∃ a, a = a0 + pre.length := ⟨_, rfl⟩
                  have HA := Lib.hid ha
                  have HAN : Hid (a ≤ d.secs.length) := Lib.hid (by rw [ha]; exact HPO.out.1)
                  simp only at hcv
                  clear hbv hb hbe hcv0 hK hKi ha
                  have hiI : (0 : Int) ≤ (i : Int) := by omega
                  have hil : decide ((i : Int) < (rl : Int)) = true := decide_eq_true (by omega)
                  go_wp2_with fail
                  refine (sectors_any ⟨vA, b.length, vc⟩ b.length wi rfl hble).mono ?_
                  rintro e w8 ⟨rfl, rfl⟩
                  rw [← HKI.out]
                  go_wp2_with fail
                  go_loopw [13, 15, 16, 17] (fun t13 t15 t16 t17 wr => ∃ (k m : Nat) (kd : Int) (pre : List (List Int)) (s' p' bv : Sl), k + m = K ∧ t17 = .int .i64 (m : Int) ∧ t13 = .int .i64 ((a0 + pre.length : Nat) : Int) ∧ t15 = .slice bv.a bv.n bv.c ∧ By w P bv (b.drop (112 * k)) ∧ t16 = .int .u8 kd ∧ kd = (if k = 0 then 1 else 0) ∧ a + k = a0 + pre.length ∧ pre ++ ((secsB (g + 1) a b).drop k ++ secsR (g + 1) (a + K) (rest.drop (i + 1))) = WS ∧ pre_ok d a0 pre ∧ SyM w P (.slice (some ⟨bJ, oJ, none⟩) l.recs.length cj) (.int .i64 l.many) (.int .i64 sy) (.int .i64 d.left) (.bool false) wr s' p' (dskW d a0 pre)) (fun _ _ _ t17 _ => (intOf t17).toNat)
                  case atStart => exact ⟨0, K, 1, pre, s', p', ⟨vA, b.length, vc⟩, by omega, rfl, rfl, rfl, by simpa using HBV.out, rfl, rfl, by rw [HA.out]; rfl, by rw [← HW1.out, secsR_drop HB.out, HA.out, HK.out]; rfl, HPO.out, HSR.out⟩
                  case round =>
                    clear hcv hblw
                    obtain ⟨k, m, kd, pr, sA, pA, bv, hkm, rfl, rfl, rfl, hby, rfl, hkd, hak, hws, hpo, hsm⟩ := hrel
                    obtain ⟨wk, hwk⟩ : ∃ X, X = wr := ⟨_, rfl⟩
                    subst hwk
                    have HKM := Lib.hid hkm
                    have HKD := Lib.hid hkd
                    have HAK := Lib.hid hak
                    have HW2 := Lib.hid hws
                    have HPO2 := Lib.hid hpo
                    have HSM2 := Lib.hid hsm
                    have HBY := Lib.hid hby
                    clear hkd hak hws hpo hsm hby hkm
                    by_cases hm0 : 0 < m
                    · obtain ⟨m1, hm1⟩ : ∃ m1, m = m1 + 1 := ⟨m - 1, by omega⟩
                      have HM1 := Lib.hid hm1
                      have hm0i : decide ((0 : Int) < (m : Int)) = true := decide_eq_true (by omega)
                      have hm0n : decide (0 < m) = true := decide_eq_true hm0
                      have HT17 : Hid (wrap64 ((m : Int) - 1) = (m1 : Int)) := Lib.hid (sect_down hble HKI.out HKM.out hm1)
                      clear hm1
                      have hkK : k < K := by have := HKM.out; omega
                      obtain ⟨KD, hKD⟩ : ∃ x, x = kindK k K := ⟨_, rfl⟩
                      have HKD2 := Lib.hid hKD
                      have hkr : 0 ≤ KD ∧ KD < 256 := by rw [hKD]; exact kindK_range k K
                      obtain ⟨rem, hrem⟩ : ∃ x, x = b.drop (112 * k) := ⟨_, rfl⟩
                      rw [← hrem] at HBY
                      obtain ⟨bA, bn, bc⟩ := bv
                      obtain rfl : bn = rem.length := HBY.out.1.1
                      have HREM := Lib.hid hrem
                      have hbc := HBY.out.1.2.1
                      simp only at hbc
                      have hrl2 := HBY.out.le
                      obtain ⟨kk, hkk⟩ : ∃ x, x = (cutB b k).length := ⟨_, rfl⟩
                      have hkk2 : kk = min rem.length 112 := by rw [hkk, hrem]; unfold cutB; simp [Nat.min_comm]
                      have hkk3 : kk ≤ 112 ∧ kk ≤ rem.length := by omega
                      have hmn : ∀ W, (Builtin.min_ #[3, 3] 3 #[.int .i64 rem.length, .int .i64 112]).run Try.prog W = .ok (.int .i64 kk) W := fun W => by
                        simp [Builtin.min_, Builtin.min2]
                        omega
                      have hor : m = 1 → bits .or .u8 kd 2 = KD := fun h => by
                        have h1 := HKD.out
                        have h2 := HKM.out
                        rw [hKD]
                        unfold kindK
                        by_cases h0 : k = 0
                        · rw [h1, if_pos h0, if_pos (by omega)]; decide
                        · rw [h1, if_neg h0, if_pos (by omega)]; decide
                      have hnor : m ≠ 1 → kd = KD := fun h => by
                        have h1 := HKD.out
                        have h2 := HKM.out
                        rw [hKD]
                        unfold kindK
                        rw [h1, if_neg (show ¬ k + 1 = K by omega)]
                        simp
                      have HOR := Lib.hid hor
                      have HNOR := Lib.hid hnor
                      have HKK := Lib.hid hkk
                      have HKK2 := Lib.hid hkk2
                      clear hKD hrem hkk hkk2 hor hnor
                      go_upto_if 121 with fail
                      go_cut [16] from 116 to 149 (fun t wx => t = .int .u8 KD ∧ wk = wx)
                      case first =>
                        by_cases hone : m = 1
                        · have h1 : ((m : Int) == 1) = true := by simp; omega
                          have h2 : (m == 1) = true := by simpa using hone
                          have h3 := HOR.out hone
                          clear hone
                          go_wp2_with fail
                          go_meet
                          exact ⟨rfl, rfl⟩
                        · have h1 : ((m : Int) == 1) = false := by simp; omega
                          have h2 : (m == 1) = false := by simpa using hone
                          have h3 := HNOR.out hone
                          clear hone
                          go_wp2_with fail
                          go_meet
                          exact ⟨by rw [h3], rfl⟩
                      case rest =>
                        obtain ⟨rfl, rfl⟩ := hcut
                        obtain ⟨ai, hai⟩ : ∃ x : Int, x = ((a0 + pr.length : Nat) : Int) := ⟨_, rfl⟩
                        rw [← hai]
                        have hai0 : 0 ≤ ai ∧ ai < 9223372036854775807 := by have := HPO2.out.1; have := HSEC.out.2; omega
                        have HAI := Lib.hid hai
                        clear hai
                        obtain ⟨ENC, hENC⟩ : ∃ x, x = encB (g + 1) ai KD (cutB b k) := ⟨_, rfl⟩
                        have hcut2 : cutB b k = rem.take kk := by
                          have h1 := HREM.out
                          have h2 := HKK2.out
                          unfold cutB
                          rw [← h1, h2]
                          by_cases h3 : rem.length ≤ 112
                          · rw [Nat.min_eq_left h3, List.take_of_length_le h3, List.take_length]
                          · rw [Nat.min_eq_right (by omega)]
                        have HENCE := Lib.hid hENC
                        have HE : Hid (∀ WC, Below wk.heap.size wk WC → WC.heap.size = wk.heap.size → Calls Try.prog 44 #[.int .u64 (g + 1), .int .i64 ai, .int .u8 KD, .slice bA kk bc] WC fun e w' => e = .returned (.slice (some ⟨wk.heap.size, 0, none⟩) 128 128) ∧ Bk w' 89 wk.heap.size ENC ∧ Below wk.heap.size wk w') := Lib.hid (fun WC hWC hz => by
                          have h1 := ((HBY.out.upto hkk3.2).step (HSM2.out.bel.trans (hWC.mono HSM2.out.bel.size)))
                          rw [← hcut2] at h1
                          refine (encode_any (g + 1) ai KD ⟨bA, kk, bc⟩ (cutB b k) WC h1 (cutB_len b k) (by omega) (by omega) hkr).mono ?_
                          rw [hENC]
                          rintro e w' ⟨rfl, h2, h3⟩
                          rw [hz] at h2 ⊢
                          exact ⟨rfl, h2, hWC.trans (h3.mono hWC.size)⟩)
                        obtain ⟨D2, hD2⟩ : ∃ x, x = (writeD (dskW d a0 pr) ai ENC).1 := ⟨_, rfl⟩
                        obtain ⟨E, hE⟩ : ∃ x, x = (writeD (dskW d a0 pr) ai ENC).2 := ⟨_, rfl⟩
                        obtain ⟨LF, hLF⟩ : ∃ x, x = D2.left := ⟨_, rfl⟩
                        obtain ⟨ST, hST⟩ : ∃ x, x = D2.stopped := ⟨_, rfl⟩
                        have HWC : Hid (∀ WC, Below wk.heap.size wk WC → Bk WC 89 wk.heap.size ENC → Calls Try.prog 26 #[.agg #[.slice sA.a sA.n sA.c, .slice pA.a pA.n pA.c, .int .i64 d.left, .bool false], .int .i64 ai, .slice (some ⟨wk.heap.size, 0, none⟩) 128 128] WC fun e w' => (∃ s8 p8 : Sl, e = .returned (.tuple #[.agg #[.slice s8.a s8.n s8.c, .slice p8.a p8.n p8.c, .int .i64 LF, .bool ST], .int .i64 E]) ∧ Di w' (QS P w) s8 p8 D2) ∧ Below wk.heap.size wk w') := Lib.hid (fun WC hWC hbk => by
                          have hz := HSM2.out.rd.z
                          have hel : ENC.length = 128 := by rw [hENC]; exact enc_len _ _ _ (cutB_len b k)
                          have h1 := hbk.by_ 0 128 128 (by omega) (by omega) (by simp [maxLen]) (QS P w) (.inr (by omega)) (by rw [hENC]; exact enc_byte _ _ _ (cutB_len b k) hkr (cutB_ok HBV.out.2 k))
                          rw [List.drop_zero, List.take_of_length_le (Nat.le_of_eq hel)] at h1
                          refine (Write_any (dskW d a0 pr) sA pA ⟨some ⟨wk.heap.size, 0, none⟩, 128, 128⟩ ai ENC WC (HSM2.out.di.step hWC) h1).mono ?_
                          rw [← hD2, ← hE]
                          rintro e w' ⟨⟨s8, p8, rfl, hd8⟩, hb8⟩
                          exact ⟨⟨s8, p8, by rw [hLF, hST]; rfl, QS.nw hd8 (by have := hWC.size; omega)⟩, hWC.trans (hb8.mono hWC.size)⟩)
                        have HD2E := Lib.hid hD2
                        have HEE := Lib.hid hE
                        have HLF := Lib.hid hLF
                        have HST2 := Lib.hid hST
                        obtain ⟨d0, d1, d2, d3, df0, df1, df2, df3, dz⟩ := HSM2.out.db
                        obtain ⟨i1, hinf1, _, _, _⟩ := info_parts Try.infoByte
                        have hsl1 : ∀ W, (Instr.slice 35 (.slice bA rem.length bc) none (some (.int .i64 kk)) none).run Try.prog W = .ok (.slice bA kk bc) W := fun W => by
                          have := run_slice_to (P := Try.prog) Try.underlying35 hinf1 bA rem.length bc .i64 kk (by omega) (by omega) W
                          simpa using this
                        clear hENC hD2 hE hLF hST hcut2 hinf1
                        go_upto_region 33 with fail
                        go_cut [6] from 116 to 149 (fun t wx => t = .int .i64 E ∧ ∃ s8 p8 : Sl, SyM w P (.slice (some ⟨bJ, oJ, none⟩) l.recs.length cj) (.int .i64 l.many) (.int .i64 sy) (.int .i64 LF) (.bool ST) wx s8 p8 D2)
                        case first =>
                          go_region_with (first | (go_at_call 44; refine (HE.out _ (by first | exact (Below.refl _ _).drew | exact Below.refl _ _) (by rfl)).mono ?_; rintro e w7 ⟨rfl, hbk7, hb7⟩; obtain ⟨e0, e1, e2, e3, ef0, ef1, ef2, ef3, ez⟩ := HSM2.out.db.step hb7) | (go_at_call 26; refine (HWC.out _ (by first | exact hb7 | exact hb7.drew) hbk7).mono ?_; rintro e w8 ⟨⟨s8, p8, rfl, hd8⟩, hb8⟩; obtain ⟨h0, h1, h2, h3, hf0, hf1, hf2, hf3, hz⟩ := HSM2.out.db.step hb8))
                          all_goals
                            go_wp2_with fail
                            go_meet
                            first
                              | exact ⟨rfl, s8, p8, HSM2.out.put hb8 hd8 _ _⟩
                              | exact ⟨rfl, s8, p8, (HSM2.out.put hb8 hd8 _ _).drew⟩
                        case rest =>
                          obtain ⟨w8, hwc⟩ : ∃ X, X = wc := ⟨_, rfl⟩
                          subst hwc
                          obtain ⟨rfl, s8, p8, hsm8⟩ := hcut
                          have HSM8 := Lib.hid hsm8
                          have hENl : Hid (ENC.length = 128) := Lib.hid (by rw [HENCE.out]; exact enc_len _ _ _ (cutB_len b k))
                          clear hsm8 d0 d1 d2 d3 df0 df1 df2 df3 dz HE HWC
                          by_cases hroom : a0 + pr.length < d.secs.length
                          · have hdummy := True.intro
                            have hwr := dskW_write HVD.out HPO2.out hENl.out hroom
                            rw [← HAI.out] at hwr
                            have hE0 : E = 0 := by rw [HEE.out, hwr]
                            have hD0 : D2 = dskW d a0 (pr ++ [ENC]) := by rw [HD2E.out, hwr]
                            have hL0 : LF = d.left := by rw [HLF.out, hD0]; rfl
                            have hS0 : ST = false := by rw [HST2.out, hD0]; rfl
                            subst hE0 hL0 hS0
                            have HD0 := Lib.hid hD0
                            clear hwr hD0
                            obtain ⟨A', hA'⟩ : ∃ x, x = if bc = kk then bA else bA.map (·.add kk) := ⟨_, rfl⟩
                            obtain ⟨i1, hinf1, _, hzz1, _⟩ := info_parts Try.infoByte
                            have hslf : ∀ W, (Instr.slice 35 (.slice bA rem.length bc) (some (.int .i64 kk)) none none).run Try.prog W = .ok (.slice A' (rem.length - kk) (bc - kk)) W := fun W => by
                              have := run_slice_from (P := Try.prog) Try.underlying35 hinf1 bA rem.length bc .i64 kk (Int.natCast_nonneg kk) (nat_le_int hkk3.2) W
                              rw [this, hA', hzz1]
                              simp
                            have HBN : Hid (By w P ⟨A', rem.length - kk, bc - kk⟩ (b.drop (112 * (k + 1)))) := Lib.hid (by
                              have h1 := HBY.out.from_ hkk3.2
                              rw [← cut_rest HREM.out HKK2.out, hA']
                              exact h1)
                            have HPO3 : Hid (pre_ok d a0 (pr ++ [ENC])) := Lib.hid (pre_snoc HPO2.out hENl.out hroom)
                            have HWN : Hid ((pr ++ [ENC]) ++ ((secsB (g + 1) a b).drop (k + 1) ++ secsR (g + 1) (a + K) (rest.drop (i + 1))) = WS) := Lib.hid (ws_next (HK.out ▸ hkK) HW2.out HENCE.out (HK.out ▸ HKD2.out) HAI.out HAK.out)
                            have HAI1 : Hid (ai + 1 = ((a0 + (pr ++ [ENC]).length : Nat) : Int)) := Lib.hid (at_next ENC HAI.out)
                            have HSM9 : Hid (SyM w P (.slice (some ⟨bJ, oJ, none⟩) l.recs.length cj) (.int .i64 l.many) (.int .i64 sy) (.int .i64 d.left) (.bool false) w8 s8 p8 (dskW d a0 (pr ++ [ENC]))) := Lib.hid (HD0.out ▸ HSM8.out)
                            have hats := ai_step hai0
                            clear hA' hinf1 hzz1 hle hcj hcj2 hble hrl2 hbc hai0 hs96 hkk3 hiI hm0 hsyl hsyl2 hlt hroom hkK hi ha0
                            go_wp2_with fail
                            go_roundw
                            case rel => exact ⟨k + 1, m1, 0, pr ++ [ENC], s8, p8, ⟨A', rem.length - kk, bc - kk⟩, km_next HKM.out HM1.out, congrArg (Value.int .i64) HT17.out, congrArg (Value.int .i64) (hats.trans HAI1.out), rfl, HBN.out, rfl, by rw [if_neg (Nat.succ_ne_zero k)], ak_next ENC HAK.out, HWN.out, HPO3.out, HSM9.out⟩
                            case measure => exact meas_down HM1.out HT17.out
                          · have hdummy := True.intro
                            have hwr := dskW_full (s := ENC) hroom
                            rw [← HAI.out] at hwr
                            have hE0 : E = 450 := by rw [HEE.out, hwr]
                            have hR0 : R = (Jl.zero, Dk.zero, 450) := by
                              have h1 := HW2.out
                              rw [secsB_drop (by rw [← HK.out]; exact hkK), List.cons_append] at h1
                              rw [HRW.out, if_neg (not_room h1 hroom)]
                            subst hE0 hR0
                            clear hwr
                            obtain ⟨q0, q1, q2, qf0, qf1, qf2, qz⟩ := HSM8.out.rj
                            obtain ⟨r0, r1, r2, r3, rf0, rf1, rf2, rf3, rz⟩ := HSM8.out.rd
                            go_upto_region 35 with fail
                            clear hmn hsl1 hai0 hkk3 hbc hrl2 hm0i hm0n hkr hroom hkK hble hm0 hiI hil hlt
                            repeat (first | go_values | go_skip | go_guarded | go_step | go_upon)
                            exact bodyPost_ret (v := .tuple #[.agg #[.slice none 0 0, .int .i64 0, .int .i64 0], .agg #[.slice none 0 0, .slice none 0 0, .int .i64 0, .bool false], .int .i64 450]) (by simp [results, Try.results21, go_sem, q0, q1, q2, r0, r1, r2, r3]) rfl (SyncP.zero (put34_below (g := w.heap.size) HSM8.out.bel (Nat.le_add_right _ 2) _ _ _ _ _ _ _))
                    · have hdummy := True.intro
                      obtain rfl : m = 0 := by omega
                      have hkK : k = K := by have := HKM.out; omega
                      have HWN : Hid (pr ++ secsR (g + 1) (a0 + pr.length) (rest.drop (i + 1)) = WS) := Lib.hid (by
                        have h1 := HW2.out
                        rw [List.drop_of_length_le (by rw [secsB_len, ← HK.out, hkK]; exact Nat.le_refl _), List.nil_append, show a + K = a0 + pr.length by rw [← hkK]; exact HAK.out] at h1
                        exact h1)
                      have HI1 : Hid (wrap64 ((i : Int) + 1) = ((i + 1 : Nat) : Int)) := Lib.hid (wrap_next hlt HRLE.out hle)
                      clear hkK
                      go_wp2_with fail
                      go_roundw
                      case rel => exact ⟨i + 1, pr, sA, pA, by first | exact congrArg (Value.int .i64) HI1.out | go_num, hlt, rfl, HWN.out, HPO2.out, HSM2.out⟩
                      case measure => first | exact meas_step (k := 1) (Nat.succ_pos 0) hlt HI1.out | exact meas_step (k := 1) (Nat.succ_pos 0) hlt rfl
                · have hdummy := True.intro
                  obtain rfl : i = rl := by omega
                  have HPW : Hid (WS = pre) := Lib.hid (by
                    have h1 := HW1.out
                    rw [List.drop_of_length_le (Nat.le_of_eq HRLL.out.symm)] at h1
                    rw [← h1]
                    simp [secsR])
                  obtain ⟨D3, hD3⟩ : ∃ x, x = (syncD (dskW d a0 pre)).1 := ⟨_, rfl⟩
                  obtain ⟨E3, hE3⟩ : ∃ x, x = (syncD (dskW d a0 pre)).2 := ⟨_, rfl⟩
                  obtain ⟨LF3, hLF3⟩ : ∃ x, x = D3.left := ⟨_, rfl⟩
                  obtain ⟨ST3, hST3⟩ : ∃ x, x = D3.stopped := ⟨_, rfl⟩
                  have HR3 : Hid (R = if E3 = 0 then (⟨l.recs, l.many, l.recs.length⟩, D3, 0) else (Jl.zero, D3, E3)) := Lib.hid (by rw [HRW.out, HPW.out, if_pos HPO.out.1, ← hD3, ← hE3])
                  have HSC : Hid (Calls Try.prog 27 #[.agg #[.slice s'.a s'.n s'.c, .slice p'.a p'.n p'.c, .int .i64 d.left, .bool false]] wi fun e w' => (∃ s8 p8 : Sl, e = .returned (.tuple #[.agg #[.slice s8.a s8.n s8.c, .slice p8.a p8.n p8.c, .int .i64 LF3, .bool ST3], .int .i64 E3]) ∧ Di w' (QS P w) s8 p8 D3) ∧ Below wi.heap.size wi w') := Lib.hid (by
                    refine (Sync_any (dskW d a0 pre) s' p' wi HSR.out.di).mono ?_
                    rw [← hD3, ← hE3]
                    rintro e w' ⟨⟨s8, p8, rfl, hd8⟩, hb8⟩
                    have hz := HSR.out.rd.z
                    exact ⟨⟨s8, p8, by rw [hLF3, hST3]; rfl, QS.nw hd8 (by omega)⟩, hb8⟩)
                  have HLF3 := Lib.hid hLF3
                  have HST3 := Lib.hid hST3
                  clear hD3 hE3 hLF3 hST3
                  obtain ⟨d0, d1, d2, d3, df0, df1, df2, df3, dz⟩ := HSR.out.db
                  go_wp2_with fail
                  refine HSC.out.mono ?_
                  rintro e w9 ⟨⟨s8, p8, rfl, hd8⟩, hb8⟩
                  have HSM9 := Lib.hid (HSR.out.put hb8 hd8 (.int .i64 LF3) (.bool ST3))
                  clear d0 d1 d2 d3 df0 df1 df2 df3 dz
                  obtain ⟨d0, d1, d2, d3, df0, df1, df2, df3, dz⟩ := HSR.out.db.step hb8
                  clear hb8 hd8
                  go_upto_region 40 with fail
                  obtain ⟨wa, hwa⟩ : ∃ X, X = put4 w9 (w.heap.size + 1) (.slice s8.a s8.n s8.c) (.slice p8.a p8.n p8.c) (.int .i64 LF3) (.bool ST3) := ⟨_, rfl⟩
                  rw [← hwa] at HSM9
                  unfold put4 at hwa
                  rw [← hwa]
                  clear hwa d0 d1 d2 d3 df0 df1 df2 df3 dz
                  obtain ⟨q0, q1, q2, qf0, qf1, qf2, qz⟩ := HSM9.out.rj
                  obtain ⟨r0, r1, r2, r3, rf0, rf1, rf2, rf3, rz⟩ := HSM9.out.rd
                  obtain ⟨d0, d1, d2, d3, df0, df1, df2, df3, dz⟩ := HSM9.out.db
                  have hdz : w.heap.size + 3 < wa.heap.size := rz
                  by_cases hE0 : E3 = 0
                  · have hR : R = (⟨l.recs, l.many, l.recs.length⟩, D3, 0) := by rw [HR3.out, if_pos hE0]
                    subst hE0 hR
                    obtain ⟨j0, j1, j2, jf0, jf1, jf2, jz⟩ := HSM9.out.jb
                    go_upto_region 43 with fail
                    obtain ⟨wb, hwb⟩ : ∃ X, X = wa.setCell ⟨w.heap.size, 2, none⟩ (.int .i64 l.recs.length) := ⟨_, rfl⟩
                    rw [← hwb]
                    have HSMB : Hid (SyM w P (.slice (some ⟨bJ, oJ, none⟩) l.recs.length cj) (.int .i64 l.many) (.int .i64 l.recs.length) (.int .i64 LF3) (.bool ST3) wb s8 p8 D3) := Lib.hid (by
                      obtain ⟨h1, h2, h3, h4, h5, h6⟩ := HSM9.out
                      have hk := grownBy_setCell' wa ⟨w.heap.size, 2, none⟩ (.int .i64 l.recs.length)
                      rw [hwb]
                      exact ⟨h1.set2 _, h2.far hk (by simp), h3.far hk (by simp), h4.far hk (by simp), h5.keep (Kp.of_grown hk (by unfold QS; simp)), h6.setCell (p := ⟨w.heap.size, 2, none⟩) (Nat.le_refl _) _⟩)
                    clear hwb j0 j1 j2 jf0 jf1 jf2 jz d0 d1 d2 d3 df0 df1 df2 df3 dz q0 q1 q2 qf0 qf1 qf2 qz r0 r1 r2 r3 rf0 rf1 rf2 rf3 rz hdz
                    obtain ⟨j0, j1, j2, jf0, jf1, jf2, jz⟩ := HSMB.out.jb
                    obtain ⟨d0, d1, d2, d3, df0, df1, df2, df3, dz⟩ := HSMB.out.db
                    obtain ⟨q0, q1, q2, qf0, qf1, qf2, qz⟩ := HSMB.out.rj
                    obtain ⟨r0, r1, r2, r3, rf0, rf1, rf2, rf3, rz⟩ := HSMB.out.rd
                    go_region
                    all_goals
                      repeat (first | go_values | go_skip | go_guarded | go_step | go_upon)
                      have hkp : Kp (QS P w) wb (put4 (put3 wb (w.heap.size + 2) (.slice (some ⟨bJ, oJ, none⟩) l.recs.length cj) (.int .i64 l.many) (.int .i64 l.recs.length)) (w.heap.size + 3) (.slice s8.a s8.n s8.c) (.slice p8.a p8.n p8.c) (.int .i64 LF3) (.bool ST3)) := (put3_kp _ _ (by unfold QS; omega) _ _ _).trans (Kp.of_grown (put4_keep _ _ _ _) (by unfold QS; omega))
                      have hdi := QS.done (HSMB.out.di.keep hkp)
                      have hbl := (put34_below (g := w.heap.size) HSMB.out.bel (Nat.le_add_right _ 2) (.slice (some ⟨bJ, oJ, none⟩) l.recs.length cj) (.int .i64 l.many) (.int .i64 l.recs.length) (.slice s8.a s8.n s8.c) (.slice p8.a p8.n p8.c) (.int .i64 LF3) (.bool ST3)).drew
                      exact bodyPost_ret (v := .tuple #[.agg #[.slice (some ⟨bJ, oJ, none⟩) l.recs.length cj, .int .i64 l.many, .int .i64 l.recs.length], .agg #[.slice s8.a s8.n s8.c, .slice p8.a p8.n p8.c, .int .i64 LF3, .bool ST3], .int .i64 0]) (by simp [results, Try.results21, go_sem, q0, q1, q2, r0, r1, r2, r3]) rfl ⟨⟨⟨some ⟨bJ, oJ, none⟩, l.recs.length, cj⟩, s8, p8, by unfold jlV dkV; rw [← HLF3.out, ← HST3.out], (HJ.out.step hbl).mono (fun b hb => .inl hb), hdi.step (Below.refl _ _).drew⟩, hbl⟩
                  · have hR : R = (Jl.zero, D3, E3) := by rw [HR3.out, if_neg hE0]
                    subst hR
                    have hEb : (E3 != 0) = true := by simpa using hE0
                    clear hE0
                    go_wp2_with fail
                    go_region
                    all_goals
                      repeat (first | go_values | go_skip | go_guarded | go_step | go_upon)
                      have hkp : Kp (QS P w) wa (put4 (put3 wa (w.heap.size + 2) (.slice none 0 0) (.int .i64 0) (.int .i64 0)) (w.heap.size + 3) (.slice s8.a s8.n s8.c) (.slice p8.a p8.n p8.c) (.int .i64 LF3) (.bool ST3)) := (put3_kp _ _ (by unfold QS; omega) _ _ _).trans (Kp.of_grown (put4_keep _ _ _ _) (by unfold QS; omega))
                      have hdi := QS.done (HSM9.out.di.keep hkp)
                      have hbl := put34_below (g := w.heap.size) HSM9.out.bel (Nat.le_add_right _ 2) (.slice none 0 0) (.int .i64 0) (.int .i64 0) (.slice s8.a s8.n s8.c) (.slice p8.a p8.n p8.c) (.int .i64 LF3) (.bool ST3)
                      exact bodyPost_ret (v := .tuple #[.agg #[.slice none 0 0, .int .i64 0, .int .i64 0], .agg #[.slice s8.a s8.n s8.c, .slice p8.a p8.n p8.c, .int .i64 LF3, .bool ST3], .int .i64 E3]) (by simp [results, Try.results21, go_sem, q0, q1, q2, r0, r1, r2, r3]) rfl ⟨⟨⟨none, 0, 0⟩, s8, p8, by unfold jlV dkV; rw [← HLF3.out, ← HST3.out]; rfl, Se.nil_ _ _, hdi.step (Below.refl _ _).drew⟩, hbl.drew⟩
end Go.Proofs.Ytgbkhmoplocmkaa
