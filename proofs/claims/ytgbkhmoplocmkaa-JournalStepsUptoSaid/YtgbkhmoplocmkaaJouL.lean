/- Journals: Same of two journals, the law's few. -/
import Derived.Test.YtgbkhmoplocmkaaJouM
namespace Go.Proofs.Ytgbkhmoplocmkaa
open Go.RowKit Go.Shelf
set_option linter.unusedSimpArgs false
set_option linter.unusedVariables false
set_option maxRecDepth 20000
attribute [local go_sem] Oper.semAt_some

def sameJ (a b : Jl) : Bool := a.many == b.many && (a.synced == b.synced && decide (a.recs = b.recs))
theorem sameJ_self (a : Jl) : sameJ a a = true := by simp [sameJ]
set_option maxRecDepth 100000 in
set_option maxHeartbeats 2000000 in
theorem JSame_any {P Q : Nat → Prop} (a b : Jl) (sa sb : Sl) (w : World) (ha : Se w P sa a.recs) (hb : Se w Q sb b.recs) :
    Calls Try.prog 14 #[jlV sa a, jlV sb b] w fun e w' => e = .returned (.bool (sameJ a b)) ∧ Below w.heap.size w w' := by
  obtain ⟨W0, hW0⟩ : ∃ W0, ((w.alloc (.cells #[.slice sa.a sa.n sa.c, .int .i64 a.many, .int .i64 a.synced] 29)).alloc (.cells #[.slice sb.a sb.n sb.c, .int .i64 b.many, .int .i64 b.synced] 29)) = W0 := ⟨_, rfl⟩
  have hB1 : Box3 W0 w.heap.size (.slice sa.a sa.n sa.c) (.int .i64 a.many) (.int .i64 a.synced) := by rw [← hW0]; exact (Box3.new ..).step ((Below.refl _ _).alloc (Nat.le_refl _) _)
  have hB2 : Box3 W0 (w.heap.size + 1) (.slice sb.a sb.n sb.c) (.int .i64 b.many) (.int .i64 b.synced) := by rw [← hW0]; exact Box3.at_ _ _ _ _ _ _ (by simp)
  have hG0 : Below w.heap.size w W0 := by rw [← hW0]; exact ((Below.refl _ _).alloc (Nat.le_refl _) _).alloc (by simp) _
  have HG := Lib.hid hG0
  have HW0 := Lib.hid hW0
  obtain ⟨q0, q1, q2, qf0, qf1, qf2, qz⟩ := hB1
  obtain ⟨r0, r1, r2, rf0, rf1, rf2, rz⟩ := hB2
  have HC : Hid (Calls Try.prog 24 #[.slice sa.a sa.n sa.c, .slice sb.a sb.n sb.c] W0 fun e w' => e = .returned (.bool (decide (a.recs = b.recs))) ∧ Below W0.heap.size W0 w') := Lib.hid (SameRecords_any a.recs b.recs sa sb W0 (ha.step hG0) (hb.step hG0))
  clear ha hb hG0 hW0
  obtain ⟨E, hE⟩ : ∃ E, E = sameJ a b := ⟨_, rfl⟩
  rw [← hE]
  have HE := Lib.hid hE
  clear hE
  unfold jlV
  cases t1 : (a.many == b.many)
  · have HV : Hid (E = false) := Lib.hid (by rw [HE.out]; simp [sameJ, t1])
    obtain rfl := HV.out
    clear HV HE HC
    go_enter Try.func14, Try.ntmps14
    go_wp2_with fail
    rw [HW0.out]
    go_wp2_with fail
    go_ret
    exact ⟨rfl, HG.out⟩
  · cases t2 : (a.synced == b.synced)
    · have HV : Hid (E = false) := Lib.hid (by rw [HE.out]; simp [sameJ, t1, t2])
      obtain rfl := HV.out
      clear HV HE HC
      go_enter Try.func14, Try.ntmps14
      go_wp2_with fail
      rw [HW0.out]
      go_wp2_with fail
      go_ret
      exact ⟨rfl, HG.out⟩
    · have HV : Hid (E = decide (a.recs = b.recs)) := Lib.hid (by rw [HE.out]; simp [sameJ, t1, t2])
      clear HE
      go_enter Try.func14, Try.ntmps14
      go_wp2_with fail
      rw [HW0.out]
      go_wp2_with fail
      refine HC.out.mono ?_
      rintro e w1 ⟨rfl, hb1⟩
      rw [← HV.out]
      have HB1 := Lib.hid (HG.out.trans (hb1.mono HG.out.size))
      clear hb1
      go_wp2_with fail
      go_ret
      exact ⟨rfl, HB1.out⟩

/-- the sum that few forms -/
def fewN (rs : List (List Int)) : Int := rs.foldl (fun n b => wrap64 (n + wrap64 (1 + b.length))) 0
def fewB (d : Dk) (rs : List (List Int)) : Bool := decide (d.secs.length ≤ 40) && (decide (d.pend.length ≤ 40) && decide (fewN rs ≤ 4000))
theorem fewN_snoc {rs : List (List Int)} {k : Nat} {x : List Int} (h : rs[k]? = some x) : fewN (rs.take (k + 1)) = wrap64 (fewN (rs.take k) + wrap64 (1 + x.length)) := foldl_take_succ _ _ h
set_option maxRecDepth 100000 in
set_option maxHeartbeats 2000000 in
theorem few_any {P Q : Nat → Prop} (d : Dk) (sv pv su : Sl) (rs : List (List Int)) (w : World) (hd : Di w P sv pv d) (hr : Se w Q su rs) :
    Calls Try.prog 11 #[dkV sv pv d, .slice su.a su.n su.c] w fun e w' => e = .returned (.bool (fewB d rs)) ∧ Below w.heap.size w w' := by
  have hs := hd.1.len
  have hp := hd.2.len
  have hn := hr.len
  have hle := hr.le
  have HR := Lib.hid hr
  obtain ⟨A, m, c⟩ := sv
  obtain ⟨D, m2, c2⟩ := pv
  obtain ⟨X, nx, cx⟩ := su
  simp only at hs hp hn
  subst hs hp hn
  clear hd hr
  obtain ⟨W0, hW0⟩ : ∃ W0, (w.alloc (.cells #[.slice A d.secs.length c, .slice D d.pend.length c2, .int .i64 d.left, .bool d.stopped] 25)) = W0 := ⟨_, rfl⟩
  have hB1 : Box4 W0 w.heap.size (.slice A d.secs.length c) (.slice D d.pend.length c2) (.int .i64 d.left) (.bool d.stopped) := by rw [← hW0]; exact Box4.new ..
  have hG0 : Below w.heap.size w W0 := by rw [← hW0]; exact (Below.refl _ _).alloc (Nat.le_refl _) _
  have HG := Lib.hid hG0
  have HW0 := Lib.hid hW0
  have HRX := Lib.hid (HR.out.step hG0)
  obtain ⟨q0, q1, q2, q3, qf0, qf1, qf2, qf3, qz⟩ := hB1
  clear hG0 hW0
  obtain ⟨E, hE⟩ : ∃ E, E = fewB d rs := ⟨_, rfl⟩
  rw [← hE]
  have HE := Lib.hid hE
  clear hE
  unfold dkV
  simp only
  go_enter Try.func11, Try.ntmps11
  go_wp2_with fail
  rw [HW0.out]
  go_loopw [5, 10] (fun t5 t10 wr => ∃ (k : Nat) (n : Int), k ≤ rs.length ∧ t10 = .int .i64 k ∧ t5 = .int .i64 n ∧ n = fewN (rs.take k) ∧ W0 = wr) (fun _ t10 _ => rs.length - (intOf t10).toNat)
  case atStart => exact ⟨0, 0, Nat.zero_le _, rfl, rfl, rfl, rfl⟩
  case round =>
    obtain ⟨k, n, hk, rfl, rfl, hn, rfl⟩ := hrel
    have HN := Lib.hid hn
    clear hn
    by_cases hlt : k < rs.length
    · obtain ⟨bA, oA, v, s, hA, hbA, hsk, hby, hcv⟩ := HRX.out.at_ hlt
      simp only at hA
      subst hA
      obtain ⟨v, nv, cv⟩ := v
      obtain rfl : nv = s.length := hby.1.1
      have hsl := hby.le
      obtain ⟨n2, hn2⟩ : ∃ x, x = wrap64 (n + wrap64 (1 + s.length)) := ⟨_, rfl⟩
      have HN2 : Hid (n2 = fewN (rs.take (k + 1))) := Lib.hid (by rw [hn2, fewN_snoc hsk, HN.out])
      have HN3 := Lib.hid hn2
      have hkl : decide ((k : Int) < (rs.length : Int)) = true := decide_eq_true (by omega)
      simp only at hcv
      clear hby hsk hn2
      go_wp2_with fail
      go_roundw
      case rel => exact ⟨k + 1, n2, by omega, by go_num, by rw [HN3.out], HN2.out, trivial⟩
      case measure => simp [intOf]; omega
    · obtain rfl : k = rs.length := by omega
      have HV : Hid (E = (decide (d.secs.length ≤ 40) && (decide (d.pend.length ≤ 40) && decide (n ≤ 4000)))) := Lib.hid (by rw [HE.out, HN.out, List.take_length]; rfl)
      cases t1 : decide (d.secs.length ≤ 40)
      · have HF : Hid (E = false) := Lib.hid (by rw [HV.out, t1]; rfl)
        obtain rfl := HF.out
        have t1i : decide ((d.secs.length : Int) ≤ 40) = false := by simp at t1 ⊢; omega
        clear HV HF HE
        go_wp2_with fail
        go_ret
        exact ⟨rfl, HG.out⟩
      · have t1i : decide ((d.secs.length : Int) ≤ 40) = true := by simp at t1 ⊢; omega
        cases t2 : decide (d.pend.length ≤ 40)
        · have HF : Hid (E = false) := Lib.hid (by rw [HV.out, t1, t2]; rfl)
          obtain rfl := HF.out
          have t2i : decide ((d.pend.length : Int) ≤ 40) = false := by simp at t2 ⊢; omega
          clear HV HF HE
          go_wp2_with fail
          go_ret
          exact ⟨rfl, HG.out⟩
        · have t2i : decide ((d.pend.length : Int) ≤ 40) = true := by simp at t2 ⊢; omega
          have HF : Hid (E = decide (n ≤ 4000)) := Lib.hid (by rw [HV.out, t1, t2]; rfl)
          clear HV HE
          go_wp2_with fail
          go_ret
          exact ⟨ret_bool (by rw [HF.out]), HG.out⟩
end Go.Proofs.Ytgbkhmoplocmkaa
