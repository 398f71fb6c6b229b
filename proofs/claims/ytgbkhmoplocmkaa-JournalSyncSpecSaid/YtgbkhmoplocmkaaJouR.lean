/- Journals: Sync, the reference's. (printed by gen_jouR.py) -/
import Derived.Test.YtgbkhmoplocmkaaJouO
import Derived.Test.YtgbkhmoplocmkaaDskN
import Derived.Deep.RegionHeld3
namespace Go.Proofs.Ytgbkhmoplocmkaa
open Go.RowKit Go.Shelf
set_option linter.unusedSimpArgs false
set_option linter.unusedVariables false
set_option maxRecDepth 20000
attribute [local go_sem] Oper.semAt_some

/-- the disk while the reference writes: nothing is left of it behind a write that failed -/
def dskR (d : Dk) (a : Nat) (pre : List (List Int)) : Dk := if a + pre.length ≤ d.secs.length then dskW d a pre else Dk.zero
theorem write_zero (x : Int) (s : List Int) : writeD Dk.zero x s = (Dk.zero, 450) := by
  have h : runsD Dk.zero = false := by decide +kernel
  exact writeD_no (.inl h)
theorem dskR_write {d : Dk} {a : Nat} {pre : List (List Int)} {g kd : Int} {b : List Int} (hd : validD d = true) (hl : b.length ≤ 112) (hp : ∀ s ∈ pre, s.length = 128) :
    (writeD (dskR d a pre) (wrap64 ((a + pre.length : Nat) : Int)) (encB g (IntKind.u64.wrap (wrap64 ((a + pre.length : Nat) : Int))) kd b)).1 = dskR d a (pre ++ [encB g ((a + pre.length : Nat) : Int) kd b]) := by
  have h4 : d.secs.length ≤ 4096 := by simp [validD, sizesOk] at hd; omega
  by_cases h1 : a + pre.length < d.secs.length
  · have e1 : wrap64 ((a + pre.length : Nat) : Int) = ((a + pre.length : Nat) : Int) := by rw [IntWalk.wrap64_in _ ⟨by omega, by omega⟩]
    have e2 : IntKind.u64.wrap ((a + pre.length : Nat) : Int) = ((a + pre.length : Nat) : Int) := by rw [IntKind.wrap_u64]; omega
    unfold dskR
    rw [e1, e2, if_pos (by omega), if_pos (by simp; omega), dskW_write hd ⟨by omega, hp⟩ (enc_len _ _ _ hl) h1]
  · unfold dskR
    rw [if_neg (show ¬ a + (pre ++ [encB g ((a + pre.length : Nat) : Int) kd b]).length ≤ d.secs.length by simp; omega)]
    by_cases h2 : a + pre.length = d.secs.length
    · have e1 : wrap64 ((a + pre.length : Nat) : Int) = ((a + pre.length : Nat) : Int) := by rw [IntWalk.wrap64_in _ ⟨by omega, by omega⟩]
      rw [e1, if_pos (by omega), dskW_full h1]
    · rw [if_neg (by omega), write_zero]
theorem dskR_sync {d : Dk} {a : Nat} {WS : List (List Int)} : syncD (dskR d a WS) = if a + WS.length ≤ d.secs.length then syncD (dskW d a WS) else (Dk.zero, 450) := by
  unfold dskR
  by_cases h : a + WS.length ≤ d.secs.length
  · rw [if_pos h, if_pos h]
  · rw [if_neg h, if_neg h]
    decide +kernel
theorem last_wrap {n K km : Nat} (hn : n ≤ 9223372036854775807) (h : (K : Int) = sectN n) (hp : 0 < K) (hk : km = K - 1) : wrap64 ((K : Int) - 1) = (km : Int) := by
  have h1 := sectN_le hn
  rw [← h] at h1
  rw [IntWalk.wrap64_in _ ⟨by omega, by omega⟩]
  omega
theorem last_wrap2 {n K km : Nat} (hn : n ≤ 9223372036854775807) (h : (K : Int) = sectN n) (hp : 0 < K) (hk : km = K - 1) : IntKind.i64.wrap ((K : Int) - 1) = (km : Int) := by
  have h1 := sectN_le hn
  rw [← h] at h1
  rw [IntWalk.i64_in _ (by omega)]
  omega
theorem genF_pos0 (l : List (List Int)) : 0 ≤ genF l := by
  unfold genF
  generalize hx : (0 : Int) = x
  have : ∀ (l : List (List Int)) (x : Int), x ≤ l.foldl (fun g s => max (max g (num4 s)) (numE s)) x := fun l => by
    induction l with
    | nil => intro x; exact Int.le_refl _
    | cons t l ih => intro x; have := ih (max (max x (num4 t)) (numE t)); simp only [List.foldl_cons]; omega
  rw [← hx]
  exact this l 0
theorem genF_lt {l : List (List Int)} (h : ∀ s ∈ l, Byt s) : genF l < 4294967296 := by
  have : ∀ (l : List (List Int)) (x : Int), (∀ s ∈ l, Byt s) → x < 4294967296 → l.foldl (fun g s => max (max g (num4 s)) (numE s)) x < 4294967296 := fun l => by
    induction l with
    | nil => intro x _ hx; exact hx
    | cons t l ih =>
      intro x h hx
      have h1 := (num_4 (h t (List.mem_cons_self ..)) 0).2
      have h2 := (num_4 (h t (List.mem_cons_self ..)) 124).2
      exact ih _ (fun s hs => h s (List.mem_cons_of_mem _ hs)) (by have e1 : num4 t < 4294967296 := h1; have e2 : numE t < 4294967296 := h2; show max (max x (num4 t)) (numE t) < 4294967296; omega)
  exact this l 0 h (by decide)
theorem slice_piece {i : TypeInfo} (hi : Try.prog.info? 5 = some i) (hs : i.size = 1) (vA : Option Addr) (n vc lo pn hx : Nat) (hh : hx = lo + pn) (h : lo + pn ≤ vc) (W : World) :
    (Instr.slice 35 (.slice vA n vc) (some (.int .i64 lo)) (some (.int .i64 hx)) none).run Try.prog W = .ok (.slice (if vc = lo then vA else vA.map (·.add lo)) pn (vc - lo)) W := by
  subst hh
  rw [run_slice_mid (P := Try.prog) Try.underlying35 hi vA n vc .i64 .i64 lo ((lo + pn : Nat) : Int) (by omega) (by omega) (by omega) W, hs, Int.toNat_natCast, Int.toNat_natCast, Nat.mul_one, Nat.add_sub_cancel_left]
theorem min_piece {a h lo pn hx : Nat} (e : lo + pn = min a h) (hh : hx = lo + pn) (W : World) : (Builtin.min_ #[3, 3] 3 #[.int .i64 a, .int .i64 h]).run Try.prog W = .ok (.int .i64 hx) W := by
  rw [hh, e]
  simp [Builtin.min_, Builtin.min2]
  omega
theorem piece_le {a h lo pn : Nat} (e : lo + pn = min a h) : lo + pn ≤ a := by rw [e]; exact Nat.min_le_left _ _
theorem eq_int_bool {a b : Nat} {x : Bool} (h : (a == b) = x) : ((a : Int) == (b : Int)) = x := by
  rw [← h, Bool.eq_iff_iff]
  simp
  omega
theorem eq_last {k K km : Nat} (hk : k < K) (h : km = K - 1) : (k == km) = (k + 1 == K) := by
  rw [Bool.eq_iff_iff]
  simp
  omega
theorem wrap_add1 (x : Int) : wrap64 (wrap64 x + 1) = wrap64 (x + 1) := by unfold wrap64; omega
theorem at_wrap {a : Nat} {pr : List (List Int)} (x : List Int) : wrap64 (wrap64 ((a + pr.length : Nat) : Int) + 1) = wrap64 ((a + (pr ++ [x]).length : Nat) : Int) := by
  rw [wrap_add1]
  refine congrArg wrap64 ?_
  simp
  omega
theorem piece_lo {b : List Int} (h : b.length ≤ 9223372036854775807) {k : Nat} (hk : k < sectK b) : wrap64 ((k : Int) * 112) = ((112 * k : Nat) : Int) ∧ wrap64 ((k : Int) + 1) = ((k + 1 : Nat) : Int) ∧ wrap64 (((k : Int) + 1) * 112) = ((112 * (k + 1) : Nat) : Int) ∧ 112 * k + (cutB b k).length = min b.length (112 * (k + 1)) ∧ 112 * k ≤ b.length := by
  have h1 := sectN_le h
  have h2 := sectK_int b
  have h3 : sectK b = 1 ∨ 112 * (k + 1) ≤ b.length + 111 := by omega
  have h5 := sect_cut h hk
  have h4 : (112 * (k + 1) : Nat) ≤ 9223372036854775807 := by
    by_cases h6 : b.length ≤ 9223372036854775696
    · omega
    · have : sectN b.length = 1 := by
        unfold sectN
        have e3 : wrap64 (wrap64 ((b.length : Int) + 112) - 1) = (b.length : Int) + 111 - 18446744073709551616 := by unfold wrap64; omega
        rw [e3]
        generalize hy : (b.length : Int) + 111 - 18446744073709551616 = y
        have e5 : y.tdiv 112 ≤ 0 := by
          have h := Int.tdiv_nonneg (a := -y) (b := 112) (by omega) (by omega)
          rw [Int.neg_tdiv] at h
          omega
        have e6 : -9223372036854775808 ≤ y.tdiv 112 := by
          have h := Int.tdiv_le_self (a := -y) 112 (by omega)
          rw [Int.neg_tdiv] at h
          omega
        have e7 : wrap64 (y.tdiv 112) = y.tdiv 112 := by generalize y.tdiv 112 = z at *; unfold wrap64; omega
        rw [e7]
        omega
      omega
  refine ⟨?_, ?_, ?_, ?_, h5⟩
  · rw [IntWalk.wrap64_in _ ⟨by omega, by omega⟩]; omega
  · rw [IntWalk.wrap64_in _ ⟨by omega, by omega⟩]; omega
  · rw [IntWalk.wrap64_in _ ⟨by omega, by omega⟩]; omega
  · unfold cutB
    simp only [List.length_take, List.length_drop]
    omega

set_option maxRecDepth 100000 in
set_option maxHeartbeats 16000000 in
theorem RJSync_any {P : Nat → Prop} (l : Jl) (d : Dk) (sj sv pv : Sl) (w : World) (hj : Se w P sj l.recs) (hd : Di w P sv pv d) :
    Calls Try.prog 22 #[jlV sj l, dkV sv pv d] w (SyncP P w (syncJ l d)) := by
  have hln := hj.len
  have hle := hj.le
  have hs := hd.1.len
  have hp := hd.2.len
  have HJ := Lib.hid hj
  have HD := Lib.hid hd
  obtain ⟨J, n, cj⟩ := sj
  obtain ⟨A, m, c⟩ := sv
  obtain ⟨D, m2, c2⟩ := pv
  simp only at hln hs hp
  subst hln hs hp
  clear hj hd
  obtain ⟨R, hR⟩ : ∃ R, R = syncJ l d := ⟨_, rfl⟩
  rw [← hR]
  obtain ⟨st, hst⟩ : ∃ st, st = d.stopped := ⟨_, rfl⟩
  obtain ⟨W0, hW0⟩ : ∃ W0, ((((w.alloc (.cells #[.slice J l.recs.length cj, .int .i64 l.many, .int .i64 l.synced] 29)).alloc (.cells #[.slice A d.secs.length c, .slice D d.pend.length c2, .int .i64 d.left, .bool st] 25)).alloc (.cells #[.slice none 0 0, .int .i64 0, .int .i64 0] 29)).alloc (.cells #[.slice none 0 0, .slice none 0 0, .int .i64 0, .bool false] 25)) = W0 := ⟨_, rfl⟩
  have hJB : Box3 W0 w.heap.size (.slice J l.recs.length cj) (.int .i64 l.many) (.int .i64 l.synced) := by rw [← hW0]; exact ((((Box3.new w _ _ _ _).step ((Below.refl _ _).alloc (Nat.le_refl _) _)).step ((Below.refl _ _).alloc (Nat.le_refl _) _)).step ((Below.refl _ _).alloc (Nat.le_refl _) _))
  have hDB : Box4 W0 (w.heap.size + 1) (.slice A d.secs.length c) (.slice D d.pend.length c2) (.int .i64 d.left) (.bool st) := by rw [← hW0]; exact (((Box4.at_ _ _ _ _ _ _ _ (by simp)).step ((Below.refl _ _).alloc (Nat.le_refl _) _)).step ((Below.refl _ _).alloc (Nat.le_refl _) _))
  have hRJ : Box3 W0 (w.heap.size + 2) (.slice none 0 0) (.int .i64 0) (.int .i64 0) := by rw [← hW0]; exact ((Box3.at_ _ _ _ _ _ _ (by simp)).step ((Below.refl _ _).alloc (Nat.le_refl _) _))
  have hRD : Box4 W0 (w.heap.size + 3) (.slice none 0 0) (.slice none 0 0) (.int .i64 0) (.bool false) := by rw [← hW0]; exact Box4.at_ _ _ _ _ _ _ _ (by simp)
  have hG0 : Below w.heap.size w W0 := by rw [← hW0]; exact ((((Below.refl _ _).alloc (Nat.le_refl _) _).alloc (by simp) _).alloc (by simp; omega) _).alloc (by simp; omega) _
  have HJB := Lib.hid hJB
  have HDB := Lib.hid hDB
  have HRJ := Lib.hid hRJ
  have HRD := Lib.hid hRD
  have HG := Lib.hid hG0
  have HW0 := Lib.hid hW0
  have HST := Lib.hid hst
  unfold jlV dkV
  rw [← hst]
  simp only
  clear hJB hDB hRJ hRD hG0 hW0 hst
  cases hv : validJ l
  · have hE : R = (Jl.zero, Dk.zero, 1) := by rw [hR]; simp [syncJ, hv]
    have HC := Lib.hid (checkJ_no hv)
    subst hE
    clear hR hv
    go_enter Try.func22, Try.ntmps22
    go_wp2_with fail
    rw [HW0.out]
    refine (RJCheck_any l ⟨J, l.recs.length, cj⟩ W0 (HJ.out.step HG.out)).mono ?_
    rw [HC.out]
    rintro e w1 ⟨rfl, hb1⟩
    have HJB1 := Lib.hid (HJB.out.step hb1)
    have HDB1 := Lib.hid (HDB.out.step hb1)
    have HRJ1 := Lib.hid (HRJ.out.step hb1)
    have HRD1 := Lib.hid (HRD.out.step hb1)
    have HG1 := Lib.hid (HG.out.trans (hb1.mono HG.out.size))
    obtain ⟨q0, q1, q2, qf0, qf1, qf2, qz⟩ := HRJ1.out
    obtain ⟨r0, r1, r2, r3, rf0, rf1, rf2, rf3, rz⟩ := HRD1.out
    clear hb1
    go_wp2_with fail
    exact bodyPost_ret (v := .tuple #[.agg #[.slice none 0 0, .int .i64 0, .int .i64 0], .agg #[.slice none 0 0, .slice none 0 0, .int .i64 0, .bool false], .int .i64 1]) (by simp [results, Try.results22, go_sem, q0, q1, q2, r0, r1, r2, r3]) rfl (SyncP.zero (put34_below (g := w.heap.size) HG1.out (by omega) _ _ _ _ _ _ _))
  have HC := Lib.hid (checkJ_yes hv)
  have HV := Lib.hid hv
  cases hvd : validD d
  · have hE : R = (Jl.zero, Dk.zero, 450) := by rw [hR]; simp [syncJ, hv, hvd]
    have HC2 := Lib.hid (checkD_no hvd)
    subst hE
    clear hR hv hvd
    go_enter Try.func22, Try.ntmps22
    go_wp2_with fail
    rw [HW0.out]
    refine (RJCheck_any l ⟨J, l.recs.length, cj⟩ W0 (HJ.out.step HG.out)).mono ?_
    rw [HC.out]
    rintro e w1 ⟨rfl, hb1⟩
    have HJB1 := Lib.hid (HJB.out.step hb1)
    have HDB1 := Lib.hid (HDB.out.step hb1)
    have HRJ1 := Lib.hid (HRJ.out.step hb1)
    have HRD1 := Lib.hid (HRD.out.step hb1)
    have HG1 := Lib.hid (HG.out.trans (hb1.mono HG.out.size))
    obtain ⟨d0, d1, d2, d3, df0, df1, df2, df3, dz⟩ := HDB1.out
    clear hb1
    go_wp2_with fail
    have hck := RCheck_any d ⟨A, d.secs.length, c⟩ ⟨D, d.pend.length, c2⟩ w1 (HD.out.step HG1.out)
    unfold dkV at hck
    rw [← HST.out] at hck
    refine hck.mono ?_
    rw [HC2.out]
    rintro e w2 ⟨rfl, hb2⟩
    clear hck
    have HJB2 := Lib.hid (HJB1.out.step hb2)
    have HDB2 := Lib.hid (HDB1.out.step hb2)
    have HRJ2 := Lib.hid (HRJ1.out.step hb2)
    have HRD2 := Lib.hid (HRD1.out.step hb2)
    have HG2 := Lib.hid (HG1.out.trans (hb2.mono HG1.out.size))
    clear d0 d1 d2 d3 df0 df1 df2 df3 dz
    obtain ⟨q0, q1, q2, qf0, qf1, qf2, qz⟩ := HRJ2.out
    obtain ⟨r0, r1, r2, r3, rf0, rf1, rf2, rf3, rz⟩ := HRD2.out
    clear hb2
    go_wp2_with fail
    exact bodyPost_ret (v := .tuple #[.agg #[.slice none 0 0, .int .i64 0, .int .i64 0], .agg #[.slice none 0 0, .slice none 0 0, .int .i64 0, .bool false], .int .i64 450]) (by simp [results, Try.results22, go_sem, q0, q1, q2, r0, r1, r2, r3]) rfl (SyncP.zero (put34_below (g := w.heap.size) HG2.out (by omega) _ _ _ _ _ _ _))
  have HC2 := Lib.hid (checkD_yes hvd)
  have HVD := Lib.hid hvd
  cases st with
  | true =>
    have hE : R = (Jl.zero, Dk.zero, 450) := by rw [hR]; simp [syncJ, hv, hvd, ← HST.out]
    subst hE
    clear hR hv hvd
    go_enter Try.func22, Try.ntmps22
    go_wp2_with fail
    rw [HW0.out]
    refine (RJCheck_any l ⟨J, l.recs.length, cj⟩ W0 (HJ.out.step HG.out)).mono ?_
    rw [HC.out]
    rintro e w1 ⟨rfl, hb1⟩
    have HJB1 := Lib.hid (HJB.out.step hb1)
    have HDB1 := Lib.hid (HDB.out.step hb1)
    have HRJ1 := Lib.hid (HRJ.out.step hb1)
    have HRD1 := Lib.hid (HRD.out.step hb1)
    have HG1 := Lib.hid (HG.out.trans (hb1.mono HG.out.size))
    obtain ⟨d0, d1, d2, d3, df0, df1, df2, df3, dz⟩ := HDB1.out
    clear hb1
    go_wp2_with fail
    have hck := RCheck_any d ⟨A, d.secs.length, c⟩ ⟨D, d.pend.length, c2⟩ w1 (HD.out.step HG1.out)
    unfold dkV at hck
    rw [← HST.out] at hck
    refine hck.mono ?_
    rw [HC2.out]
    rintro e w2 ⟨rfl, hb2⟩
    clear hck
    have HJB2 := Lib.hid (HJB1.out.step hb2)
    have HDB2 := Lib.hid (HDB1.out.step hb2)
    have HRJ2 := Lib.hid (HRJ1.out.step hb2)
    have HRD2 := Lib.hid (HRD1.out.step hb2)
    have HG2 := Lib.hid (HG1.out.trans (hb2.mono HG1.out.size))
    clear d0 d1 d2 d3 df0 df1 df2 df3 dz
    obtain ⟨d0, d1, d2, d3, df0, df1, df2, df3, dz⟩ := HDB2.out
    obtain ⟨q0, q1, q2, qf0, qf1, qf2, qz⟩ := HRJ2.out
    obtain ⟨r0, r1, r2, r3, rf0, rf1, rf2, rf3, rz⟩ := HRD2.out
    clear hb2
    go_wp2_with fail
    exact bodyPost_ret (v := .tuple #[.agg #[.slice none 0 0, .int .i64 0, .int .i64 0], .agg #[.slice none 0 0, .slice none 0 0, .int .i64 0, .bool false], .int .i64 450]) (by simp [results, Try.results22, go_sem, q0, q1, q2, r0, r1, r2, r3]) rfl (SyncP.zero (put34_below (g := w.heap.size) HG2.out (by omega) _ _ _ _ _ _ _))
  | false =>
    by_cases hm : l.many = (d.secs.length : Int)
    case neg =>
      have hE : R = (Jl.zero, Dk.zero, 1) := by rw [hR]; simp [syncJ, hv, hvd, ← HST.out, hm]
      subst hE
      have hmb : (l.many != (d.secs.length : Int)) = true := by simpa using hm
      clear hR hv hvd hm
      go_enter Try.func22, Try.ntmps22
      go_wp2_with fail
      rw [HW0.out]
      refine (RJCheck_any l ⟨J, l.recs.length, cj⟩ W0 (HJ.out.step HG.out)).mono ?_
      rw [HC.out]
      rintro e w1 ⟨rfl, hb1⟩
      have HJB1 := Lib.hid (HJB.out.step hb1)
      have HDB1 := Lib.hid (HDB.out.step hb1)
      have HRJ1 := Lib.hid (HRJ.out.step hb1)
      have HRD1 := Lib.hid (HRD.out.step hb1)
      have HG1 := Lib.hid (HG.out.trans (hb1.mono HG.out.size))
      obtain ⟨d0, d1, d2, d3, df0, df1, df2, df3, dz⟩ := HDB1.out
      clear hb1
      go_wp2_with fail
      have hck := RCheck_any d ⟨A, d.secs.length, c⟩ ⟨D, d.pend.length, c2⟩ w1 (HD.out.step HG1.out)
      unfold dkV at hck
      rw [← HST.out] at hck
      refine hck.mono ?_
      rw [HC2.out]
      rintro e w2 ⟨rfl, hb2⟩
      clear hck
      have HJB2 := Lib.hid (HJB1.out.step hb2)
      have HDB2 := Lib.hid (HDB1.out.step hb2)
      have HRJ2 := Lib.hid (HRJ1.out.step hb2)
      have HRD2 := Lib.hid (HRD1.out.step hb2)
      have HG2 := Lib.hid (HG1.out.trans (hb2.mono HG1.out.size))
      clear d0 d1 d2 d3 df0 df1 df2 df3 dz
      obtain ⟨j0, j1, j2, jf0, jf1, jf2, jz⟩ := HJB2.out
      obtain ⟨d0, d1, d2, d3, df0, df1, df2, df3, dz⟩ := HDB2.out
      obtain ⟨q0, q1, q2, qf0, qf1, qf2, qz⟩ := HRJ2.out
      obtain ⟨r0, r1, r2, r3, rf0, rf1, rf2, rf3, rz⟩ := HRD2.out
      clear hb2
      go_wp2_with fail
      exact bodyPost_ret (v := .tuple #[.agg #[.slice none 0 0, .int .i64 0, .int .i64 0], .agg #[.slice none 0 0, .slice none 0 0, .int .i64 0, .bool false], .int .i64 1]) (by simp [results, Try.results22, go_sem, q0, q1, q2, r0, r1, r2, r3]) rfl (SyncP.zero (put34_below (g := w.heap.size) HG2.out (by omega) _ _ _ _ _ _ _))
    have hmb : (l.many != (d.secs.length : Int)) = false := by simpa using hm
    have HM := Lib.hid hm
    by_cases hpn : d.pend.length = 0
    case neg =>
      have hE : R = (Jl.zero, Dk.zero, 1) := by rw [hR]; simp [syncJ, hv, hvd, ← HST.out, hm, hpn]
      subst hE
      have hpb : decide ((0 : Int) < (d.pend.length : Int)) = true := decide_eq_true (by omega)
      have hpc : decide (0 < d.pend.length) = true := decide_eq_true (by omega)
      clear hR hv hvd hm hpn
      go_enter Try.func22, Try.ntmps22
      go_wp2_with fail
      rw [HW0.out]
      refine (RJCheck_any l ⟨J, l.recs.length, cj⟩ W0 (HJ.out.step HG.out)).mono ?_
      rw [HC.out]
      rintro e w1 ⟨rfl, hb1⟩
      have HJB1 := Lib.hid (HJB.out.step hb1)
      have HDB1 := Lib.hid (HDB.out.step hb1)
      have HRJ1 := Lib.hid (HRJ.out.step hb1)
      have HRD1 := Lib.hid (HRD.out.step hb1)
      have HG1 := Lib.hid (HG.out.trans (hb1.mono HG.out.size))
      obtain ⟨d0, d1, d2, d3, df0, df1, df2, df3, dz⟩ := HDB1.out
      clear hb1
      go_wp2_with fail
      have hck := RCheck_any d ⟨A, d.secs.length, c⟩ ⟨D, d.pend.length, c2⟩ w1 (HD.out.step HG1.out)
      unfold dkV at hck
      rw [← HST.out] at hck
      refine hck.mono ?_
      rw [HC2.out]
      rintro e w2 ⟨rfl, hb2⟩
      clear hck
      have HJB2 := Lib.hid (HJB1.out.step hb2)
      have HDB2 := Lib.hid (HDB1.out.step hb2)
      have HRJ2 := Lib.hid (HRJ1.out.step hb2)
      have HRD2 := Lib.hid (HRD1.out.step hb2)
      have HG2 := Lib.hid (HG1.out.trans (hb2.mono HG1.out.size))
      clear d0 d1 d2 d3 df0 df1 df2 df3 dz
      obtain ⟨j0, j1, j2, jf0, jf1, jf2, jz⟩ := HJB2.out
      obtain ⟨d0, d1, d2, d3, df0, df1, df2, df3, dz⟩ := HDB2.out
      obtain ⟨q0, q1, q2, qf0, qf1, qf2, qz⟩ := HRJ2.out
      obtain ⟨r0, r1, r2, r3, rf0, rf1, rf2, rf3, rz⟩ := HRD2.out
      clear hb2
      go_wp2_with fail
      exact bodyPost_ret (v := .tuple #[.agg #[.slice none 0 0, .int .i64 0, .int .i64 0], .agg #[.slice none 0 0, .slice none 0 0, .int .i64 0, .bool false], .int .i64 1]) (by simp [results, Try.results22, go_sem, q0, q1, q2, r0, r1, r2, r3]) rfl (SyncP.zero (put34_below (g := w.heap.size) HG2.out (by omega) _ _ _ _ _ _ _))
    have hpend : d.pend = [] := List.eq_nil_of_length_eq_zero hpn
    have hpb : decide ((0 : Int) < (d.pend.length : Int)) = false := decide_eq_false (by omega)
    have hpc : decide (0 < d.pend.length) = false := decide_eq_false (by omega)
    have HR : Hid (R = if goodJ l d then (if l.synced = (l.recs.length : Int) then (l, d, 0) else syncW l d) else (Jl.zero, Dk.zero, 460)) := Lib.hid (by rw [hR]; simp [syncJ, hv, hvd, ← HST.out, hm, hpn])
    have HPN := Lib.hid hpend
    have HSEC : Hid ((∀ s ∈ d.secs, s.length = 128) ∧ d.secs.length ≤ 4096) := Lib.hid (by simp [validD, sizesOk, isSec] at hvd; exact ⟨hvd.2.2, by omega⟩)
    have hsy0 : 0 ≤ l.synced ∧ l.synced ≤ (l.recs.length : Int) := by simp [validJ] at hv; omega
    obtain ⟨sy, hsy⟩ : ∃ sy : Nat, l.synced = sy := ⟨l.synced.toNat, by omega⟩
    have hsyl : sy ≤ l.recs.length := by omega
    have hs96 := HSEC.out.2
    have HSY := Lib.hid hsy
    clear hR hv hvd hm hpn hpend hsy0 hsy
    go_enter Try.func22, Try.ntmps22
    go_wp2_with fail
    rw [HW0.out]
    refine (RJCheck_any l ⟨J, l.recs.length, cj⟩ W0 (HJ.out.step HG.out)).mono ?_
    rw [HC.out]
    rintro e w1 ⟨rfl, hb1⟩
    have HJB1 := Lib.hid (HJB.out.step hb1)
    have HDB1 := Lib.hid (HDB.out.step hb1)
    have HRJ1 := Lib.hid (HRJ.out.step hb1)
    have HRD1 := Lib.hid (HRD.out.step hb1)
    have HG1 := Lib.hid (HG.out.trans (hb1.mono HG.out.size))
    obtain ⟨d0, d1, d2, d3, df0, df1, df2, df3, dz⟩ := HDB1.out
    clear hb1
    go_wp2_with fail
    have hck := RCheck_any d ⟨A, d.secs.length, c⟩ ⟨D, d.pend.length, c2⟩ w1 (HD.out.step HG1.out)
    unfold dkV at hck
    rw [← HST.out] at hck
    refine hck.mono ?_
    rw [HC2.out]
    rintro e w2 ⟨rfl, hb2⟩
    clear hck
    have HJB2 := Lib.hid (HJB1.out.step hb2)
    have HDB2 := Lib.hid (HDB1.out.step hb2)
    have HRJ2 := Lib.hid (HRJ1.out.step hb2)
    have HRD2 := Lib.hid (HRD1.out.step hb2)
    have HG2 := Lib.hid (HG1.out.trans (hb2.mono HG1.out.size))
    clear d0 d1 d2 d3 df0 df1 df2 df3 dz
    obtain ⟨j0, j1, j2, jf0, jf1, jf2, jz⟩ := HJB2.out
    obtain ⟨d0, d1, d2, d3, df0, df1, df2, df3, dz⟩ := HDB2.out
    clear hb2
    go_wp2_with fail
    refine (Rgeneration_any d.secs ⟨A, d.secs.length, c⟩ w2 (HD.out.1.step HG2.out) HSEC.out.1).mono ?_
    obtain ⟨g, hg⟩ : ∃ g, g = genF d.secs := ⟨_, rfl⟩
    rw [← hg]
    have HV2 := Lib.hid hg
    have hg0 : 0 ≤ g := by rw [hg]; exact genF_pos0 _
    have hg1 : g < 4294967296 := by rw [hg]; exact genF_lt (fun s hs => HD.out.1.bytes s hs)
    clear hg
    rintro e w3 ⟨rfl, hb3⟩
    have HJB3 := Lib.hid (HJB2.out.step hb3)
    have HDB3 := Lib.hid (HDB2.out.step hb3)
    have HRJ3 := Lib.hid (HRJ2.out.step hb3)
    have HRD3 := Lib.hid (HRD2.out.step hb3)
    have HG3 := Lib.hid (HG2.out.trans (hb3.mono HG2.out.size))
    clear d0 d1 d2 d3 df0 df1 df2 df3 dz j0 j1 j2 jf0 jf1 jf2 jz
    clear hb3
    obtain ⟨rs, hrs⟩ : ∃ rs, rs = recsJ d.secs := ⟨_, rfl⟩
    obtain ⟨eb, heb⟩ : ∃ eb, eb = decide (rs = l.recs.take sy) := ⟨_, rfl⟩
    obtain ⟨gb, hgb⟩ : ∃ gb, gb = decide (4294967295 < g + 1) := ⟨_, rfl⟩
    have HGD : Hid (goodJ l d = (eb && !gb)) := Lib.hid (by unfold goodJ; rw [HSY.out, Int.toNat_natCast, ← hrs, ← HV2.out, heb, hgb])
    have hcj := (HJ.out.cap).1
    have hcj2 := (HJ.out.cap).2
    simp only at hcj hcj2
    have HTK : Hid (Se w P ⟨J, sy, cj⟩ (l.recs.take sy)) := Lib.hid (HJ.out.take (by omega))
    have HRC : Hid (∀ WC, Below w3.heap.size w3 WC → Calls Try.prog 34 #[.slice A d.secs.length c] WC fun e w' => (∃ rv : Sl, e = .returned (.slice rv.a rv.n rv.c) ∧ Se w' (fun b => w3.heap.size ≤ b) rv rs) ∧ Below w3.heap.size w3 w') := Lib.hid (fun WC hWC => by
      refine (RRecords_any d.secs ⟨A, d.secs.length, c⟩ WC (HD.out.1.step (HG3.out.trans (hWC.mono HG3.out.size))) HSEC.out.2 HSEC.out.1).mono ?_
      rw [← hrs]
      rintro e w' ⟨⟨rv, rfl, hr⟩, hb⟩
      exact ⟨⟨rv, rfl, hr.mono (fun b hb2 => Nat.le_trans hWC.size hb2)⟩, hWC.trans (hb.mono hWC.size)⟩)
    have HEQ : Hid (∀ WC (rv : Sl), Below w3.heap.size w3 WC → Se WC (fun b => w3.heap.size ≤ b) rv rs → Calls Try.prog 24 #[.slice rv.a rv.n rv.c, .slice J sy cj] WC fun e w' => e = .returned (.bool eb) ∧ Below w3.heap.size w3 w') := Lib.hid (fun WC rv hWC hr => by
      rw [heb]
      refine (SameRecords_any rs (l.recs.take sy) rv ⟨J, sy, cj⟩ WC hr (HTK.out.step (HG3.out.trans (hWC.mono HG3.out.size)))).mono ?_
      rintro e w' ⟨rfl, hb⟩
      exact ⟨rfl, hWC.trans (hb.mono hWC.size)⟩)
    obtain ⟨i0, hinf, hz0, hz1, hz2⟩ := info_parts Try.infoSl
    have hst1 : ∀ W, (Instr.slice 22 (.slice J l.recs.length cj) none (some (.int .i64 sy)) none).run Try.prog W = .ok (.slice J sy cj) W := fun W => by
      have := run_slice_to (P := Try.prog) Try.underlying22 hinf J l.recs.length cj .i64 sy (by omega) (by omega) W
      simpa using this
    have HI := Lib.hid hinf
    have HGB := Lib.hid hgb
    have HEB := Lib.hid heb
    have HRS := Lib.hid hrs
    clear heb hgb hinf hrs
    obtain ⟨j0, j1, j2, jf0, jf1, jf2, jz⟩ := HJB3.out
    obtain ⟨d0, d1, d2, d3, df0, df1, df2, df3, dz⟩ := HDB3.out
    have HJS : Hid (Box3 w3 w.heap.size (.slice J l.recs.length cj) (.int .i64 l.many) (.int .i64 sy)) := Lib.hid (by have h := HJB3.out; rw [HSY.out] at h; exact h)
    rw [HSY.out] at j2
    go_upto_region 12 with fail
    go_cut [66] (fun t wx => t = .bool (!goodJ l d) ∧ Below w3.heap.size w3 wx)
    case first =>
      have hb0 : Below w3.heap.size w3 w3.drew := (Below.refl w3.heap.size w3).drew
      have SS : Hid (∀ W, Below w3.heap.size w3 W → (W.cell? ⟨w.heap.size, 0, none⟩ = some (.slice J l.recs.length cj) ∧ W.cell? ⟨w.heap.size, 2, none⟩ = some (.int .i64 sy) ∧ W.cell? ⟨w.heap.size + 1, 0, none⟩ = some (.slice A d.secs.length c) ∧ Below w3.heap.size w3 W)) := Lib.hid (fun W h => ⟨(HJS.out.step h).c0, (HJS.out.step h).c2, (HDB3.out.step h).c0, h⟩)
      cases eb
      · have HE2 : Hid (goodJ l d = false) := Lib.hid (by rw [HGD.out]; rfl)
        refine wp_region_held_drew (S := (fun W => W.cell? ⟨w.heap.size, 0, none⟩ = some (.slice J l.recs.length cj) ∧ W.cell? ⟨w.heap.size, 2, none⟩ = some (.int .i64 sy) ∧ W.cell? ⟨w.heap.size + 1, 0, none⟩ = some (.slice A d.secs.length c) ∧ Below w3.heap.size w3 W)) (by kernel_rfl) (SS.out _ hb0) (fun hHeld => ?_)
        refine wpAnyH_take (i := 0) (v := ?_) rfl (by kernel_rfl) (by kernel_rfl) (by kernel_rfl) (fun _ _ _ h => h) (Or.inl ⟨by rfl, ?_⟩) (by assumption) ?_
        rotate_left
        · intro w hSw
          (try dsimp only at hSw)
          go_simp
          try with_reducible rfl
        simp only [Act.put, List.setIfInBounds_toArray, List.set_cons_zero, List.set_cons_succ]
        refine wpAnyH_take (i := 1) (v := ?_) rfl (by kernel_rfl) (by kernel_rfl) (by kernel_rfl) (fun _ _ _ h => h) (Or.inl ⟨by rfl, ?_⟩) (by assumption) ?_
        rotate_left
        · intro w hSw
          (try dsimp only at hSw)
          go_simp
          try with_reducible rfl
        simp only [Act.put, List.setIfInBounds_toArray, List.set_cons_zero, List.set_cons_succ]
        refine wpAnyH_take (i := 3) (v := ?_) rfl (by kernel_rfl) (by kernel_rfl) (by kernel_rfl) (fun _ _ _ h => h) (Or.inl ⟨by rfl, ?_⟩) (by assumption) ?_
        rotate_left
        · intro w hSw
          (try dsimp only at hSw)
          go_simp
          try with_reducible rfl
        simp only [Act.put, List.setIfInBounds_toArray, List.set_cons_zero, List.set_cons_succ]
        refine wpAnyH_take (i := 4) (v := ?_) rfl (by kernel_rfl) (by kernel_rfl) (by kernel_rfl) (fun _ _ _ h => h) (Or.inl ⟨by rfl, ?_⟩) (by assumption) ?_
        rotate_left
        · intro w hSw
          (try dsimp only at hSw)
          go_simp
          try with_reducible rfl
        simp only [Act.put, List.setIfInBounds_toArray, List.set_cons_zero, List.set_cons_succ]
        refine wpAnyH_take (i := 5) (v := ?_) rfl (by kernel_rfl) (by kernel_rfl) (by kernel_rfl) (fun _ _ _ h => h) (Or.inl ⟨by rfl, ?_⟩) (by assumption) ?_
        rotate_left
        · intro w hSw
          (try dsimp only at hSw)
          go_simp
          try with_reducible rfl
        simp only [Act.put, List.setIfInBounds_toArray, List.set_cons_zero, List.set_cons_succ]
        refine wpAnyH_take (i := 6) (v := ?_) rfl (by kernel_rfl) (by kernel_rfl) (by kernel_rfl) (fun _ _ _ h => h) (Or.inl ⟨by rfl, ?_⟩) (by assumption) ?_
        rotate_left
        · intro w hSw
          (try dsimp only at hSw)
          go_simp
          try with_reducible rfl
        simp only [Act.put, List.setIfInBounds_toArray, List.set_cons_zero, List.set_cons_succ]
        refine wpAnyH_take (i := 7) (v := ?_) rfl (by kernel_rfl) (by kernel_rfl) (by kernel_rfl) (fun _ _ _ h => h) (Or.inl ⟨by rfl, ?_⟩) (by assumption) ?_
        rotate_left
        · intro w hSw
          (try dsimp only at hSw)
          go_simp
          try with_reducible rfl
        simp only [Act.put, List.setIfInBounds_toArray, List.set_cons_zero, List.set_cons_succ]
        refine wpAnyH_ready (rs := [2]) (by kernel_rfl) (by simp) ?_
        refine AllReadyH.cons rfl (fun K hK => ?_) AllReadyH.nil
        go_simp
        with_reducible refine Calls.mono (HRC.out _ hb0) ?_
        rintro e w4 ⟨⟨rv, rfl, hr4⟩, hb4⟩
        try go_simp
        refine hK.out _ _ (SS.out _ hb4) (fun hHeld => ?_)
        clear hK
        refine wpAnyH_ready (rs := [8]) (by kernel_rfl) (by simp) ?_
        refine AllReadyH.cons rfl (fun K hK => ?_) AllReadyH.nil
        go_simp
        with_reducible refine Calls.mono (HEQ.out _ rv hb4 hr4) ?_
        rintro e w5 ⟨rfl, hb5⟩
        try go_simp
        refine hK.out _ _ (SS.out _ hb5) (fun hHeld => ?_)
        clear hK
        refine wpAnyH_take (i := 9) (v := ?_) rfl (by kernel_rfl) (by kernel_rfl) (by kernel_rfl) (fun _ _ _ h => h) (Or.inl ⟨by rfl, ?_⟩) (by assumption) ?_
        rotate_left
        · intro w hSw
          (try dsimp only at hSw)
          go_simp
          try with_reducible rfl
        simp only [Act.put, List.setIfInBounds_toArray, List.set_cons_zero, List.set_cons_succ]
        refine wpAnyH_take (i := 10) (v := ?_) rfl (by kernel_rfl) (by kernel_rfl) (by kernel_rfl) (fun _ _ _ h => h) (Or.inl ⟨by rfl, ?_⟩) (by assumption) ?_
        rotate_left
        · intro w hSw
          (try dsimp only at hSw)
          go_simp
          try with_reducible rfl
        simp only [Act.put, List.setIfInBounds_toArray, List.set_cons_zero, List.set_cons_succ]
        refine wpAnyH_take (i := 11) (v := undef) rfl (by kernel_rfl) (by kernel_rfl) (by kernel_rfl) (fun _ _ _ h => h) (Or.inr ⟨by rfl, rfl⟩) (by assumption) ?_
        simp only [Act.put, List.setIfInBounds_toArray, List.set_cons_zero, List.set_cons_succ]
        refine wpAnyH_take (i := 12) (v := undef) rfl (by kernel_rfl) (by kernel_rfl) (by kernel_rfl) (fun _ _ _ h => h) (Or.inr ⟨by rfl, rfl⟩) (by assumption) ?_
        simp only [Act.put, List.setIfInBounds_toArray, List.set_cons_zero, List.set_cons_succ]
        refine wpAnyH_take (i := 13) (v := ?_) rfl (by kernel_rfl) (by kernel_rfl) (by kernel_rfl) (fun _ _ _ h => h) (Or.inl ⟨by rfl, ?_⟩) (by assumption) ?_
        rotate_left
        · intro w hSw
          (try dsimp only at hSw)
          go_simp
          try with_reducible rfl
        simp only [Act.put, List.setIfInBounds_toArray, List.set_cons_zero, List.set_cons_succ]
        refine wpAnyH_done (by kernel_rfl) ?_ _
        try go_simp
        go_wp2_with fail
        go_meet
        exact ⟨by rw [HE2.out]; rfl, hb5⟩
      · have HE2 : Hid (goodJ l d = !gb) := Lib.hid (by rw [HGD.out]; rfl)
        go_region_held3 (fun W => W.cell? ⟨w.heap.size, 0, none⟩ = some (.slice J l.recs.length cj) ∧ W.cell? ⟨w.heap.size, 2, none⟩ = some (.int .i64 sy) ∧ W.cell? ⟨w.heap.size + 1, 0, none⟩ = some (.slice A d.secs.length c) ∧ Below w3.heap.size w3 W) (first | with_reducible exact SS.out _ hb0 | with_reducible exact SS.out _ hb4 | with_reducible exact SS.out _ hb5) (first | (go_at_call 34; with_reducible refine Calls.mono (HRC.out _ hb0) ?_; rintro e w4 ⟨⟨rv, rfl, hr4⟩, hb4⟩) | (go_at_call 24; with_reducible refine Calls.mono (HEQ.out _ rv hb4 hr4) ?_; rintro e w5 ⟨rfl, hb5⟩))
        all_goals
          go_simp
          go_wp2_with fail
          go_meet
          refine ⟨?_, hb5⟩
          rw [HE2.out, HGB.out]
          refine congrArg Value.bool ?_
          rw [Bool.not_not, Bool.eq_iff_iff]
          all_goals (simp <;> omega)
    case rest =>
      obtain ⟨w6, hwc⟩ : ∃ X, X = wc := ⟨_, rfl⟩
      subst hwc
      obtain ⟨rfl, hb6⟩ := hcut
      have HJB4 := Lib.hid (HJB3.out.step hb6)
      have HDB4 := Lib.hid (HDB3.out.step hb6)
      have HRJ4 := Lib.hid (HRJ3.out.step hb6)
      have HRD4 := Lib.hid (HRD3.out.step hb6)
      have HG4 := Lib.hid (HG3.out.trans (hb6.mono HG3.out.size))
      clear d0 d1 d2 d3 df0 df1 df2 df3 dz j0 j1 j2 jf0 jf1 jf2 jz
      clear hb6
      cases hgd : goodJ l d
      · have hE : R = (Jl.zero, Dk.zero, 460) := by rw [HR.out, hgd]; rfl
        clear HR HGD hgd
        subst hE
        obtain ⟨q0, q1, q2, qf0, qf1, qf2, qz⟩ := HRJ4.out
        obtain ⟨r0, r1, r2, r3, rf0, rf1, rf2, rf3, rz⟩ := HRD4.out
        repeat (first | go_values | go_skip | go_guarded | go_step | go_upon)
        exact bodyPost_ret (v := .tuple #[.agg #[.slice none 0 0, .int .i64 0, .int .i64 0], .agg #[.slice none 0 0, .slice none 0 0, .int .i64 0, .bool false], .int .i64 460]) (by simp [results, Try.results22, go_sem, q0, q1, q2, r0, r1, r2, r3]) rfl (SyncP.zero (put34_below (g := w.heap.size) HG4.out (by omega) _ _ _ _ _ _ _))
      · have hE : R = if l.synced = (l.recs.length : Int) then (l, d, 0) else syncW l d := by rw [HR.out, hgd]; rfl
        by_cases hfin : sy = l.recs.length
        · have hE2 : R = (l, d, 0) := by rw [hE, if_pos (by rw [HSY.out, hfin])]
          have hfb : (sy == l.recs.length) = true := by simpa using hfin
          have hfbI : ((sy : Int) == (l.recs.length : Int)) = true := by simp; omega
          have HFIN := Lib.hid hfin
          have HGD2 := Lib.hid hgd
          clear HR HGD hE hgd hfin
          subst hE2
          obtain ⟨j0, j1, j2, jf0, jf1, jf2, jz⟩ := HJB4.out
          obtain ⟨d0, d1, d2, d3, df0, df1, df2, df3, dz⟩ := HDB4.out
          obtain ⟨q0, q1, q2, qf0, qf1, qf2, qz⟩ := HRJ4.out
          obtain ⟨r0, r1, r2, r3, rf0, rf1, rf2, rf3, rz⟩ := HRD4.out
          rw [HSY.out] at j2
          go_wp2_with fail
          go_region
          all_goals
            repeat (first | go_values | go_skip | go_guarded | go_step | go_upon)
            have hbl := (put34_below (g := w.heap.size) HG4.out (by omega) (.slice J l.recs.length cj) (.int .i64 l.many) (.int .i64 sy) (.slice A d.secs.length c) (.slice D d.pend.length c2) (.int .i64 d.left) (.bool false)).drew
            exact bodyPost_ret (v := .tuple #[.agg #[.slice J l.recs.length cj, .int .i64 l.many, .int .i64 sy], .agg #[.slice A d.secs.length c, .slice D d.pend.length c2, .int .i64 d.left, .bool false], .int .i64 0]) (by simp [results, Try.results22, go_sem, q0, q1, q2, r0, r1, r2, r3]) rfl ⟨⟨⟨J, l.recs.length, cj⟩, ⟨A, d.secs.length, c⟩, ⟨D, d.pend.length, c2⟩, by unfold jlV dkV; rw [HSY.out, ← HST.out], (HJ.out.step hbl).mono (fun b hb => .inl hb), (HD.out.step hbl).mono (fun b hb => .inl hb)⟩, hbl⟩
        · have hE2 : R = syncW l d := by rw [hE, if_neg (by rw [HSY.out]; omega)]
          have hfb : (sy == l.recs.length) = false := by simpa using hfin
          have hfbI : ((sy : Int) == (l.recs.length : Int)) = false := by simp; omega
          obtain ⟨a0, ha0, hu0⟩ := used_recs (fun s hs => ⟨HSEC.out.1 s hs, HD.out.1.bytes s hs⟩) HSEC.out.2
          have hgood : rs = l.recs.take sy := by
            rw [HGD.out] at hgd
            simp at hgd
            exact of_decide_eq_true (by rw [← HEB.out]; exact hgd.1)
          rw [← HRS.out, hgood] at hu0
          have hg32 : ¬ 4294967295 < g + 1 := by
            rw [HGD.out, HGB.out] at hgd
            simp at hgd
            omega
          obtain ⟨rest, hrest⟩ : ∃ r, r = l.recs.drop sy := ⟨_, rfl⟩
          obtain ⟨WS, hWS⟩ : ∃ x, x = secsR (g + 1) a0 rest := ⟨_, rfl⟩
          have HRW : Hid (R = if (syncD (dskR d a0 WS)).2 = 0 then (⟨l.recs, l.many, l.recs.length⟩, (syncD (dskR d a0 WS)).1, 0) else (Jl.zero, (syncD (dskR d a0 WS)).1, (syncD (dskR d a0 WS)).2)) := Lib.hid (by
            rw [hE2]
            unfold syncW
            simp only [HSY.out, Int.toNat_natCast, hu0, ← HV2.out, ← hrest, ← hWS]
            rw [dskR_sync]
            split <;> simp)
          have hrl : rest.length = l.recs.length - sy := by rw [hrest]; simp
          have HREST := Lib.hid hrest
          have HWS := Lib.hid hWS
          have HRL := Lib.hid hrl
          have HU0 := Lib.hid hu0
          obtain ⟨bJ, oJ, _, _, hJ, hbJ, _⟩ := HJ.out.at_ (i := sy) (by omega)
          simp only at hJ
          subst hJ
          have HUS : Hid (∀ WC, Below w6.heap.size w6 WC → Calls Try.prog 40 #[.slice (some ⟨bJ, oJ, none⟩) sy cj] WC fun e w' => e = .returned (.int .i64 a0) ∧ WC = w') := Lib.hid (fun WC hWC => by
            rw [← hu0]
            exact RUsed_any ⟨some ⟨bJ, oJ, none⟩, sy, cj⟩ (l.recs.take sy) WC (HTK.out.step (HG4.out.trans (hWC.mono HG4.out.size))))
          have hsyl2 : sy < l.recs.length := by omega
          have HAW : Hid (wrap64 ((a0 + ([] : List (List Int)).length : Nat) : Int) = (a0 : Int)) := Lib.hid (by rw [List.length_nil, Nat.add_zero, IntWalk.wrap64_in _ ⟨by omega, by omega⟩])
          have HSM : Hid (SyM w P (.slice (some ⟨bJ, oJ, none⟩) l.recs.length cj) (.int .i64 l.many) (.int .i64 sy) (.int .i64 (dskR d a0 []).left) (.bool (dskR d a0 []).stopped) w6 ⟨A, d.secs.length, c⟩ ⟨D, d.pend.length, c2⟩ (dskR d a0 [])) := Lib.hid (by
            have e0 : dskR d a0 [] = dskW d a0 [] := if_pos (by simpa using ha0)
            rw [e0]
            exact ⟨by have h := HJB4.out; rw [HSY.out] at h; exact h, HDB4.out, HRJ4.out, HRD4.out, by
              have h := (QS.start HD.out).step HG4.out
              exact ⟨h.1, (congrArg (Pe w6 (QS P w) ⟨D, d.pend.length, c2⟩) HPN.out).mp h.2⟩, HG4.out⟩)
          have hj2 : w6.cell? ⟨w.heap.size, 2, none⟩ = some (.int .i64 sy) := HSM.out.jb.c2
          clear HR HGD hE hE2 hgd hfin hgood hrest hWS hrl hu0
          obtain ⟨j0, j1, j2, jf0, jf1, jf2, jz⟩ := HSM.out.jb
          go_wp2_with fail
          refine (HUS.out _ (by first | exact Below.refl _ _ | exact (Below.refl _ _).drew)).mono ?_
          rintro e w7 ⟨rfl, rfl⟩
          go_wp2_with fail
          clear j0 j1 j2 jf0 jf1 jf2 jz hj2 hst1
          have HRSM : Hid (∀ i b, rest[i]? = some b → l.recs[sy + i]? = some b) := Lib.hid (fun i b h => by have e := HREST.out; rw [e, List.getElem?_drop] at h; exact h)
          go_loopw [10, 11] (fun t10 t11 wr => ∃ (i : Nat) (pre : List (List Int)) (s' p' : Sl), t11 = .int .i64 i ∧ sy ≤ i ∧ i ≤ l.recs.length ∧ t10 = .int .i64 (wrap64 ((a0 + pre.length : Nat) : Int)) ∧ pre ++ secsR (g + 1) (a0 + pre.length) (rest.drop (i - sy)) = WS ∧ (∀ s ∈ pre, s.length = 128) ∧ SyM w P (.slice (some ⟨bJ, oJ, none⟩) l.recs.length cj) (.int .i64 l.many) (.int .i64 sy) (.int .i64 (dskR d a0 pre).left) (.bool (dskR d a0 pre).stopped) wr s' p' (dskR d a0 pre)) (fun _ t11 _ => l.recs.length - (intOf t11).toNat)
          case atStart => exact ⟨sy, [], ⟨A, d.secs.length, c⟩, ⟨D, d.pend.length, c2⟩, rfl, Nat.le_refl _, hsyl, by rw [HAW.out], by rw [HWS.out, Nat.sub_self]; rfl, by simp, HSM.out⟩
          case round =>
            obtain ⟨i, pre, s', p', rfl, hi1, hi, rfl, hws, hpo, hsm⟩ := hrel
            have HW1 := Lib.hid hws
            have HPO := Lib.hid hpo
            have HSR := Lib.hid hsm
            clear hws hpo hsm
            obtain ⟨wi, hwi⟩ : ∃ X, X = wr := ⟨_, rfl⟩
            subst hwi
            obtain ⟨LF0, hLF0⟩ : ∃ x, x = (dskR d a0 pre).left := ⟨_, rfl⟩
            obtain ⟨ST0, hST0⟩ : ∃ x, x = (dskR d a0 pre).stopped := ⟨_, rfl⟩
            rw [← hLF0, ← hST0] at HSR
            have HLF0 := Lib.hid hLF0
            have HST0 := Lib.hid hST0
            clear hLF0 hST0
            by_cases hlt : i < l.recs.length
            · obtain ⟨b, hb⟩ : ∃ b, rest[i - sy]? = some b := ⟨rest[i - sy]'(by have := HRL.out; omega), List.getElem?_eq_getElem _⟩
              obtain ⟨bJ', oJ', v, b', hJe, hbl, hbe, hbv, hcv0⟩ := HJ.out.at_ (i := i) hlt
              simp only [Option.some.injEq, Addr.mk.injEq] at hJe
              obtain ⟨rfl, rfl, _⟩ := hJe
              obtain rfl : b = b' := by have h1 := HRSM.out (i - sy) b hb; rw [show sy + (i - sy) = i by omega, hbe] at h1; cases h1; rfl
              have hcv := (HSR.out.bel.cell (p := ⟨bJ, oJ + i, none⟩) hbl).trans hcv0
              have hblw : bJ < wi.heap.size := by have := HSR.out.bel.size; omega
              obtain ⟨vA, vn, vc⟩ := v
              obtain rfl : vn = b.length := hbv.1.1
              have hble := hbv.le
              obtain ⟨K, hK⟩ : ∃ K, K = sectK b := ⟨_, rfl⟩
              have hKi := sectK_int b
              rw [← hK] at hKi
              have HBV := Lib.hid hbv
              have HB := Lib.hid hb
              have HK := Lib.hid hK
              have HKI := Lib.hid hKi
              obtain ⟨a, ha⟩ : ∃ a, a = a0 + pre.length := ⟨_, rfl⟩
              have HA := Lib.hid ha
              simp only at hcv
              obtain ⟨j0, j1, j2, jf0, jf1, jf2, jz⟩ := HSR.out.jb
              clear hbv hb hbe hcv0 hK hKi ha
              have hiI : (0 : Int) ≤ (i : Int) := by omega
              have hil : decide ((i : Int) < (l.recs.length : Int)) = true := decide_eq_true (by omega)
              have hiln : decide (i < l.recs.length) = true := decide_eq_true hlt
              go_wp2_with fail
              refine (RSectors_any b.length wi hble).mono ?_
              rintro e w8 ⟨rfl, rfl⟩
              rw [← HKI.out]
              go_wp2_with fail
              clear j0 j1 j2 jf0 jf1 jf2 jz
              go_loopw [10, 14] (fun t10 t14 wr => ∃ (k : Nat) (pre : List (List Int)) (s' p' : Sl), k ≤ K ∧ t14 = .int .i64 (k : Int) ∧ t10 = .int .i64 (wrap64 ((a0 + pre.length : Nat) : Int)) ∧ a + k = a0 + pre.length ∧ pre ++ ((secsB (g + 1) a b).drop k ++ secsR (g + 1) (a + K) (rest.drop (i - sy + 1))) = WS ∧ (∀ s ∈ pre, s.length = 128) ∧ SyM w P (.slice (some ⟨bJ, oJ, none⟩) l.recs.length cj) (.int .i64 l.many) (.int .i64 sy) (.int .i64 (dskR d a0 pre).left) (.bool (dskR d a0 pre).stopped) wr s' p' (dskR d a0 pre)) (fun _ t14 _ => K - (intOf t14).toNat)
              case atStart => exact ⟨0, pre, s', p', Nat.zero_le _, rfl, rfl, by rw [HA.out]; rfl, by rw [← HW1.out, secsR_drop HB.out, HA.out, HK.out]; rfl, HPO.out, by rw [← HLF0.out, ← HST0.out]; exact HSR.out⟩
              case round =>
                clear hcv hblw
                obtain ⟨k, pr, sA, pA, hkK, rfl, rfl, hak, hws, hpo, hsm⟩ := hrel
                obtain ⟨wk, hwk⟩ : ∃ X, X = wr := ⟨_, rfl⟩
                subst hwk
                have HAK := Lib.hid hak
                have HW2 := Lib.hid hws
                have HPO2 := Lib.hid hpo
                obtain ⟨LF1, hLF1⟩ : ∃ x, x = (dskR d a0 pr).left := ⟨_, rfl⟩
                obtain ⟨ST1, hST1⟩ : ∃ x, x = (dskR d a0 pr).stopped := ⟨_, rfl⟩
                have HSM2 := Lib.hid hsm
                rw [← hLF1, ← hST1] at HSM2
                have HLF1 := Lib.hid hLF1
                have HST1 := Lib.hid hST1
                clear hak hws hpo hsm hLF1 hST1
                by_cases hklt : k < K
                · have hki : decide ((k : Int) < (K : Int)) = true := decide_eq_true (by omega)
                  have hkn : decide (k < K) = true := decide_eq_true hklt
                  obtain ⟨pl1, pl2, pl3, pl4, pl5⟩ := piece_lo (b := b) hble (k := k) (by rw [← HK.out]; exact hklt)
                  obtain ⟨lo, hlo⟩ : ∃ x, x = 112 * k := ⟨_, rfl⟩
                  obtain ⟨hi2, hhi⟩ : ∃ x, x = 112 * (k + 1) := ⟨_, rfl⟩
                  obtain ⟨pn, hpn⟩ : ∃ x, x = (cutB b k).length := ⟨_, rfl⟩
                  rw [← hlo] at pl1 pl4 pl5
                  rw [← hhi] at pl3 pl4
                  rw [← hpn] at pl4
                  have PL1 := Lib.hid pl1
                  have PL2 := Lib.hid pl2
                  have PL3 := Lib.hid pl3
                  clear pl1 pl2 pl3
                  obtain ⟨hx, hhx⟩ : ∃ x, x = lo + pn := ⟨_, rfl⟩
                  have hmn : ∀ W, (Builtin.min_ #[3, 3] 3 #[.int .i64 b.length, .int .i64 hi2]).run Try.prog W = .ok (.int .i64 hx) W := fun W => min_piece pl4 hhx W
                  have hbc := HBV.out.1.2.1
                  simp only at hbc
                  obtain ⟨A', hA'⟩ : ∃ x, x = if vc = lo then vA else vA.map (·.add lo) := ⟨_, rfl⟩
                  obtain ⟨i1, hinf1, _, hzz1, _⟩ := info_parts Try.infoByte
                  have hpnl : lo + pn ≤ b.length := piece_le pl4
                  have hsl1 : ∀ W, (Instr.slice 35 (.slice vA b.length vc) (some (.int .i64 lo)) (some (.int .i64 hx)) none).run Try.prog W = .ok (.slice A' pn (vc - lo)) W := fun W => hA' ▸ slice_piece hinf1 hzz1 vA b.length vc lo pn hx hhx (Nat.le_trans hpnl hbc) W
                  have HPC : Hid (By w P ⟨A', pn, vc - lo⟩ (cutB b k)) := Lib.hid (by
                    have h1 := (HBV.out.from_ (k := lo) pl5).upto (k := pn) (Nat.le_sub_of_add_le (Nat.add_comm lo pn ▸ hpnl))
                    have h2 : (b.drop lo).take pn = cutB b k := by
                      rw [hpn, hlo]
                      unfold cutB
                      simp
                    rw [h2] at h1
                    rw [hA']
                    exact h1)
                  have HLOE := Lib.hid hlo
                  clear hpn hlo hhi hA' hinf1 hzz1 hhx
                  obtain ⟨bg, hbg⟩ : ∃ x, x = (k == 0) := ⟨_, rfl⟩
                  obtain ⟨en, hen⟩ : ∃ x, x = (k + 1 == K) := ⟨_, rfl⟩
                  have hb1n : (k == 0) = bg := hbg.symm
                  have hb1 : ((k : Int) == 0) = bg := eq_int_bool (b := 0) hb1n
                  obtain ⟨km, hkm⟩ : ∃ x, x = K - 1 := ⟨_, rfl⟩
                  have hkmi : wrap64 ((K : Int) - 1) = (km : Int) := last_wrap hble HKI.out (Nat.lt_of_le_of_lt (Nat.zero_le _) hklt) hkm
                  have hkmw : IntKind.i64.wrap ((K : Int) - 1) = (km : Int) := last_wrap2 hble HKI.out (Nat.lt_of_le_of_lt (Nat.zero_le _) hklt) hkm
                  have hb2n : (k == km) = en := (eq_last hklt hkm).trans hen.symm
                  have hb2 : ((k : Int) == (km : Int)) = en := eq_int_bool hb2n
                  have HKN : Hid (kindK k (sectK b) = (if bg then 1 else 0) + (if en then 2 else 0)) := Lib.hid (by rw [hbg, hen, ← HK.out]; unfold kindK; simp)
                  clear hbg hen hkm
                  obtain ⟨ai, hai⟩ : ∃ x : Int, x = wrap64 ((a0 + pr.length : Nat) : Int) := ⟨_, rfl⟩
                  rw [← hai]
                  obtain ⟨ENC, hENC⟩ : ∃ x, x = encB (g + 1) (IntKind.u64.wrap ai) (kindK k (sectK b)) (cutB b k) := ⟨_, rfl⟩
                  obtain ⟨D2, hD2⟩ : ∃ x, x = dskR d a0 (pr ++ [encB (g + 1) ((a0 + pr.length : Nat) : Int) (kindK k (sectK b)) (cutB b k)]) := ⟨_, rfl⟩
                  obtain ⟨LF, hLF⟩ : ∃ x, x = D2.left := ⟨_, rfl⟩
                  obtain ⟨ST, hST⟩ : ∃ x, x = D2.stopped := ⟨_, rfl⟩
                  have hW1 : (writeD (dskR d a0 pr) ai ENC).1 = D2 := by rw [hENC, hai, hD2]; exact dskR_write HVD.out (cutB_len b k) HPO2.out
                  have HE : Hid (∀ WC, Below wk.heap.size wk WC → Calls Try.prog 47 #[.int .u64 (g + 1), .int .i64 ai, .bool bg, .bool en, .slice A' pn (vc - lo)] WC fun e w' => (∃ rv : Sl, e = .returned (.slice rv.a rv.n rv.c) ∧ By w' (fun b => wk.heap.size ≤ b) rv ENC) ∧ Below wk.heap.size wk w') := Lib.hid (fun WC hWC => by
                    refine (RSector_any (g + 1) ai bg en (kindK k (sectK b)) ⟨A', pn, vc - lo⟩ (cutB b k) WC (HPC.out.step (HSM2.out.bel.trans (hWC.mono HSM2.out.bel.size))) (cutB_len b k) (by omega) HKN.out).mono ?_
                    rw [← hENC]
                    rintro e w' ⟨⟨rv, rfl, h2⟩, h3⟩
                    exact ⟨⟨rv, rfl, h2.mono (fun b hb => Nat.le_trans hWC.size hb)⟩, hWC.trans (h3.mono hWC.size)⟩)
                  have HWC : Hid (∀ WC (rv : Sl), Below wk.heap.size wk WC → By WC (fun b => wk.heap.size ≤ b) rv ENC → Calls Try.prog 46 #[.agg #[.slice sA.a sA.n sA.c, .slice pA.a pA.n pA.c, .int .i64 LF1, .bool ST1], .int .i64 ai, .slice rv.a rv.n rv.c] WC fun e w' => (∃ (s8 p8 : Sl) (E : Int), e = .returned (.tuple #[.agg #[.slice s8.a s8.n s8.c, .slice p8.a p8.n p8.c, .int .i64 LF, .bool ST], .int .i64 E]) ∧ Di w' (QS P w) s8 p8 D2) ∧ Below wk.heap.size wk w') := Lib.hid (fun WC rv hWC hbk => by
                    have hz := HSM2.out.rd.z
                    have hel : ENC.length = 128 := by rw [hENC]; exact enc_len _ _ _ (cutB_len b k)
                    have hw := RWrite_any (dskR d a0 pr) sA pA rv ai ENC WC (HSM2.out.di.step hWC) (hbk.mono (fun b hb => .inr (by omega))) (by omega)
                    unfold dkV at hw
                    rw [← HLF1.out, ← HST1.out, hW1] at hw
                    refine hw.mono ?_
                    rintro e w' ⟨⟨s8, p8, rfl, hd8⟩, hb8⟩
                    exact ⟨⟨s8, p8, _, by rw [hLF, hST], QS.nw hd8 (by have := hWC.size; omega)⟩, hWC.trans (hb8.mono hWC.size)⟩)
                  have HD2E := Lib.hid hD2
                  have HLF := Lib.hid hLF
                  have HST2 := Lib.hid hST
                  have HAI := Lib.hid hai
                  obtain ⟨d0, d1, d2, d3, df0, df1, df2, df3, dz⟩ := HSM2.out.db
                  clear hENC hD2 hLF hST hai hW1
                  have pl1 := PL1.out
                  have pl2 := PL2.out
                  have pl3 := PL3.out
                  have pl3n : wrap64 (((k + 1 : Nat) : Int) * 112) = (hi2 : Int) := pl3
                  clear hpnl hbc pl4 pl5
                  go_upto_region 26 with fail
                  go_cut [10] from 100 to 132 (fun t10 wx => t10 = .int .i64 ai ∧ ∃ s8 p8 : Sl, SyM w P (.slice (some ⟨bJ, oJ, none⟩) l.recs.length cj) (.int .i64 l.many) (.int .i64 sy) (.int .i64 LF) (.bool ST) wx s8 p8 D2)
                  case first =>
                    have hbk0 : Below wk.heap.size wk wk.drew := (Below.refl wk.heap.size wk).drew
                    clear d0 d1 d2 d3 df0 df1 df2 df3 dz hle hcj hcj2 hs96 hble hi1 hi hsyl hsyl2 ha0 hkK hiI hlt hkmi pl1 pl2 pl3 pl3n hmn hsl1
                    obtain ⟨d0, d1, d2, d3, df0, df1, df2, df3, dz⟩ := HSM2.out.db
                    go_region_law (first | (go_simp; go_at_call 47; with_reducible refine Calls.mono (HE.out _ hbk0) ?_; rintro e w7 ⟨⟨rv, rfl, hbk7⟩, hb7⟩; obtain ⟨e0, e1, e2, e3, ef0, ef1, ef2, ef3, ez⟩ := HSM2.out.db.step hb7) | (go_simp; go_at_call 46; with_reducible refine Calls.mono (HWC.out _ rv hb7 hbk7) ?_; rintro e w8 ⟨⟨s8, p8, E, rfl, hd8⟩, hb8⟩; obtain ⟨h0, h1, h2, h3, hf0, hf1, hf2, hf3, hz⟩ := HSM2.out.db.step hb8))
                    all_goals
                      go_simp
                      go_wp2_with fail
                      go_meet
                      first
                        | exact ⟨rfl, s8, p8, HSM2.out.put hb8 hd8 _ _⟩
                        | exact ⟨rfl, s8, p8, (HSM2.out.put hb8 hd8 _ _).drew⟩
                  case rest =>
                    obtain ⟨w8, hwc⟩ : ∃ X, X = wc := ⟨_, rfl⟩
                    subst hwc
                    obtain ⟨rfl, s8, p8, hsm8⟩ := hcut
                    have HSM8 := Lib.hid hsm8
                    clear hsm8 d0 d1 d2 d3 df0 df1 df2 df3 dz HE HWC
                    obtain ⟨NS, hNS⟩ : ∃ x, x = encB (g + 1) ((a0 + pr.length : Nat) : Int) (kindK k (sectK b)) (cutB b k) := ⟨_, rfl⟩
                    have HWN : Hid ((pr ++ [NS]) ++ ((secsB (g + 1) a b).drop (k + 1) ++ secsR (g + 1) (a + K) (rest.drop (i - sy + 1))) = WS) := Lib.hid (ws_next (HK.out ▸ hklt) HW2.out hNS rfl rfl HAK.out)
                    have HPO3 : Hid (∀ s ∈ pr ++ [NS], s.length = 128) := Lib.hid (fun s hs => by
                      rcases List.mem_append.1 hs with h | h
                      · exact HPO2.out s h
                      · simp at h; rw [h, hNS]; exact enc_len _ _ _ (cutB_len b k))
                    have HAI1 : Hid (wrap64 (ai + 1) = wrap64 ((a0 + (pr ++ [NS]).length : Nat) : Int)) := Lib.hid (by rw [HAI.out]; exact at_wrap NS)
                    have HSM9 : Hid (SyM w P (.slice (some ⟨bJ, oJ, none⟩) l.recs.length cj) (.int .i64 l.many) (.int .i64 sy) (.int .i64 (dskR d a0 (pr ++ [NS])).left) (.bool (dskR d a0 (pr ++ [NS])).stopped) w8 s8 p8 (dskR d a0 (pr ++ [NS]))) := Lib.hid (by rw [hNS, ← HD2E.out, ← HLF.out, ← HST2.out]; exact HSM8.out)
                    have HAK9 : Hid (a + (k + 1) = a0 + (pr ++ [NS]).length) := Lib.hid (ak_next NS HAK.out)
                    clear hNS hle hcj hcj2 hs96 hble hi1 hi hsyl hsyl2 ha0 hkK hiI hlt hkmi
                    clear pl3 pl3n hmn hsl1
                    go_wp2_with fail
                    go_roundw
                    case rel => exact ⟨k + 1, pr ++ [NS], s8, p8, hklt, by first | exact congrArg (Value.int .i64) pl2 | go_num, congrArg (Value.int .i64) HAI1.out, HAK9.out, HWN.out, HPO3.out, HSM9.out⟩
                    case measure => first | exact meas_step (k := 1) (Nat.succ_pos 0) hklt pl2 | exact meas_step (k := 1) (Nat.succ_pos 0) hklt rfl
                · have hdummy := True.intro
                  obtain rfl : k = K := by omega
                  have hki : decide ((k : Int) < (k : Int)) = false := decide_eq_false (by omega)
                  have hkn : decide (k < k) = false := decide_eq_false hklt
                  have HWN : Hid (pr ++ secsR (g + 1) (a0 + pr.length) (rest.drop (i + 1 - sy)) = WS) := Lib.hid (by
                    have h1 := HW2.out
                    rw [List.drop_of_length_le (by rw [secsB_len, ← HK.out]; exact Nat.le_refl _), List.nil_append, HAK.out, show i - sy + 1 = i + 1 - sy by omega] at h1
                    exact h1)
                  have HI1 : Hid (wrap64 ((i : Int) + 1) = ((i + 1 : Nat) : Int)) := Lib.hid (wrap_next (rl := l.recs.length) (a := l.recs.length) (b := 0) hlt rfl hle)
                  have HSM9 : Hid (SyM w P (.slice (some ⟨bJ, oJ, none⟩) l.recs.length cj) (.int .i64 l.many) (.int .i64 sy) (.int .i64 (dskR d a0 pr).left) (.bool (dskR d a0 pr).stopped) wk sA pA (dskR d a0 pr)) := Lib.hid (by rw [← HLF1.out, ← HST1.out]; exact HSM2.out)
                  go_wp2_with fail
                  go_roundw
                  case rel => exact ⟨i + 1, pr, sA, pA, by first | exact congrArg (Value.int .i64) HI1.out | go_num, by omega, hlt, rfl, HWN.out, HPO2.out, HSM9.out⟩
                  case measure => first | exact meas_step (k := 1) (Nat.succ_pos 0) hlt HI1.out | exact meas_step (k := 1) (Nat.succ_pos 0) hlt rfl
            · have hdummy := True.intro
              obtain rfl : i = l.recs.length := by omega
              have hil : decide ((l.recs.length : Int) < (l.recs.length : Int)) = false := decide_eq_false (by omega)
              have hiln : decide (l.recs.length < l.recs.length) = false := decide_eq_false hlt
              have HPW : Hid (WS = pre) := Lib.hid (by
                have h1 := HW1.out
                rw [List.drop_of_length_le (Nat.le_of_eq HRL.out)] at h1
                rw [← h1]
                simp [secsR])
              obtain ⟨D3, hD3⟩ : ∃ x, x = (syncD (dskR d a0 pre)).1 := ⟨_, rfl⟩
              obtain ⟨E3, hE3⟩ : ∃ x, x = (syncD (dskR d a0 pre)).2 := ⟨_, rfl⟩
              obtain ⟨LF3, hLF3⟩ : ∃ x, x = D3.left := ⟨_, rfl⟩
              obtain ⟨ST3, hST3⟩ : ∃ x, x = D3.stopped := ⟨_, rfl⟩
              have HR3 : Hid (R = if E3 = 0 then (⟨l.recs, l.many, l.recs.length⟩, D3, 0) else (Jl.zero, D3, E3)) := Lib.hid (by rw [HRW.out, HPW.out, ← hD3, ← hE3])
              have HSC : Hid (Calls Try.prog 48 #[.agg #[.slice s'.a s'.n s'.c, .slice p'.a p'.n p'.c, .int .i64 LF0, .bool ST0]] wi fun e w' => (∃ s8 p8 : Sl, e = .returned (.tuple #[.agg #[.slice s8.a s8.n s8.c, .slice p8.a p8.n p8.c, .int .i64 LF3, .bool ST3], .int .i64 E3]) ∧ Di w' (QS P w) s8 p8 D3) ∧ Below wi.heap.size wi w') := Lib.hid (by
                have hw := RSync_any (dskR d a0 pre) s' p' wi HSR.out.di
                unfold dkV at hw
                rw [← HLF0.out, ← HST0.out, ← hD3, ← hE3] at hw
                refine hw.mono ?_
                rintro e w' ⟨⟨s8, p8, rfl, hd8⟩, hb8⟩
                have hz := HSR.out.rd.z
                exact ⟨⟨s8, p8, by rw [hLF3, hST3], QS.nw hd8 (by omega)⟩, hb8⟩)
              have HLF3 := Lib.hid hLF3
              have HST3 := Lib.hid hST3
              clear hD3 hE3 hLF3 hST3
              obtain ⟨j0, j1, j2, jf0, jf1, jf2, jz⟩ := HSR.out.jb
              obtain ⟨d0, d1, d2, d3, df0, df1, df2, df3, dz⟩ := HSR.out.db
              go_wp2_with fail
              refine HSC.out.mono ?_
              rintro e w9 ⟨⟨s8, p8, rfl, hd8⟩, hb8⟩
              clear j0 j1 j2 jf0 jf1 jf2 jz d0 d1 d2 d3 df0 df1 df2 df3 dz
              have HSM9 := Lib.hid (HSR.out.step hb8)
              go_upto_region 29 with fail
              obtain ⟨wa, hwa⟩ : ∃ X, X = w9.alloc (.cells #[.slice s8.a s8.n s8.c, .slice p8.a p8.n p8.c, .int .i64 LF3, .bool ST3] 25) := ⟨_, rfl⟩
              rw [← hwa]
              have hba : Below w9.heap.size w9 wa := by rw [hwa]; exact (Below.refl _ _).alloc (Nat.le_refl _) _
              have HSMA := Lib.hid (HSM9.out.step hba)
              have HXA : Hid (Box4 wa w9.heap.size (.slice s8.a s8.n s8.c) (.slice p8.a p8.n p8.c) (.int .i64 LF3) (.bool ST3)) := Lib.hid (by rw [hwa]; exact Box4.new ..)
              have HDA := Lib.hid (hd8.step hba)
              have h9 : w.heap.size + 3 < w9.heap.size := HSM9.out.rd.z
              clear hwa hba hd8 hb8 HSM9
              by_cases hE0 : E3 = 0
              · have hR : R = (⟨l.recs, l.many, l.recs.length⟩, D3, 0) := by rw [HR3.out, if_pos hE0]
                subst hE0 hR
                obtain ⟨j0, j1, j2, jf0, jf1, jf2, jz⟩ := HSMA.out.jb
                go_upto_region 32 with fail
                obtain ⟨wb, hwb⟩ : ∃ X, X = wa.setCell ⟨w.heap.size, 2, none⟩ (.int .i64 l.recs.length) := ⟨_, rfl⟩
                rw [← hwb]
                have hk := grownBy_setCell' wa ⟨w.heap.size, 2, none⟩ (.int .i64 l.recs.length)
                rw [← hwb] at hk
                have HJB9 : Hid (Box3 wb w.heap.size (.slice (some ⟨bJ, oJ, none⟩) l.recs.length cj) (.int .i64 l.many) (.int .i64 l.recs.length)) := Lib.hid (by rw [hwb]; exact HSMA.out.jb.set2 _)
                have HXB := Lib.hid (HXA.out.far hk (by simp only [ne_eq, Option.some.injEq]; omega))
                have HRJ9 := Lib.hid (HSMA.out.rj.far hk (by simp))
                have HRD9 := Lib.hid (HSMA.out.rd.far hk (by simp))
                have HDB9 := Lib.hid (HDA.out.keep (Kp.of_grown hk (by unfold QS; simp)))
                have HBL9 : Hid (Below w.heap.size w wb) := Lib.hid (by rw [hwb]; exact HSMA.out.bel.setCell (p := ⟨w.heap.size, 2, none⟩) (Nat.le_refl _) _)
                clear hk hwb j0 j1 j2 jf0 jf1 jf2 jz
                obtain ⟨j0, j1, j2, jf0, jf1, jf2, jz⟩ := HJB9.out
                obtain ⟨d0, d1, d2, d3, df0, df1, df2, df3, dz⟩ := HXB.out
                obtain ⟨q0, q1, q2, qf0, qf1, qf2, qz⟩ := HRJ9.out
                obtain ⟨r0, r1, r2, r3, rf0, rf1, rf2, rf3, rz⟩ := HRD9.out
                go_region
                all_goals
                  repeat (first | go_values | go_skip | go_guarded | go_step | go_upon)
                  have hkp : Kp (QS P w) wb (put4 (put3 wb (w.heap.size + 2) (.slice (some ⟨bJ, oJ, none⟩) l.recs.length cj) (.int .i64 l.many) (.int .i64 l.recs.length)) (w.heap.size + 3) (.slice s8.a s8.n s8.c) (.slice p8.a p8.n p8.c) (.int .i64 LF3) (.bool ST3)) := (put3_kp _ _ (by unfold QS; omega) _ _ _).trans (Kp.of_grown (put4_keep _ _ _ _) (by unfold QS; omega))
                  have hdi := QS.done (HDB9.out.keep hkp)
                  have hbl := (put34_below (g := w.heap.size) HBL9.out (Nat.le_add_right _ 2) (.slice (some ⟨bJ, oJ, none⟩) l.recs.length cj) (.int .i64 l.many) (.int .i64 l.recs.length) (.slice s8.a s8.n s8.c) (.slice p8.a p8.n p8.c) (.int .i64 LF3) (.bool ST3)).drew
                  exact bodyPost_ret (v := .tuple #[.agg #[.slice (some ⟨bJ, oJ, none⟩) l.recs.length cj, .int .i64 l.many, .int .i64 l.recs.length], .agg #[.slice s8.a s8.n s8.c, .slice p8.a p8.n p8.c, .int .i64 LF3, .bool ST3], .int .i64 0]) (by simp [results, Try.results22, go_sem, q0, q1, q2, r0, r1, r2, r3]) rfl ⟨⟨⟨some ⟨bJ, oJ, none⟩, l.recs.length, cj⟩, s8, p8, by unfold jlV dkV; rw [← HLF3.out, ← HST3.out], (HJ.out.step hbl).mono (fun b hb => .inl hb), hdi.step (Below.refl _ _).drew⟩, hbl⟩
              · have hR : R = (Jl.zero, D3, E3) := by rw [HR3.out, if_neg hE0]
                subst hR
                have hEb : (E3 != 0) = true := by simpa using hE0
                clear hE0
                obtain ⟨d0, d1, d2, d3, df0, df1, df2, df3, dz⟩ := HXA.out
                obtain ⟨q0, q1, q2, qf0, qf1, qf2, qz⟩ := HSMA.out.rj
                obtain ⟨r0, r1, r2, r3, rf0, rf1, rf2, rf3, rz⟩ := HSMA.out.rd
                go_wp2_with fail
                go_region
                all_goals
                  repeat (first | go_values | go_skip | go_guarded | go_step | go_upon)
                  have hkp : Kp (QS P w) wa (put4 (put3 wa (w.heap.size + 2) (.slice none 0 0) (.int .i64 0) (.int .i64 0)) (w.heap.size + 3) (.slice s8.a s8.n s8.c) (.slice p8.a p8.n p8.c) (.int .i64 LF3) (.bool ST3)) := (put3_kp _ _ (by unfold QS; omega) _ _ _).trans (Kp.of_grown (put4_keep _ _ _ _) (by unfold QS; omega))
                  have hdi := QS.done (HDA.out.keep hkp)
                  have hbl := put34_below (g := w.heap.size) HSMA.out.bel (Nat.le_add_right _ 2) (.slice none 0 0) (.int .i64 0) (.int .i64 0) (.slice s8.a s8.n s8.c) (.slice p8.a p8.n p8.c) (.int .i64 LF3) (.bool ST3)
                  exact bodyPost_ret (v := .tuple #[.agg #[.slice none 0 0, .int .i64 0, .int .i64 0], .agg #[.slice s8.a s8.n s8.c, .slice p8.a p8.n p8.c, .int .i64 LF3, .bool ST3], .int .i64 E3]) (by simp [results, Try.results22, go_sem, q0, q1, q2, r0, r1, r2, r3]) rfl ⟨⟨⟨none, 0, 0⟩, s8, p8, by unfold jlV dkV; rw [← HLF3.out, ← HST3.out]; rfl, Se.nil_ _ _, hdi.step (Below.refl _ _).drew⟩, hbl.drew⟩
end Go.Proofs.Ytgbkhmoplocmkaa
