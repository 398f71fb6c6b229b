/- reaches; AverageReached, walked. -/
import Derived.Test.YtimaealmmjdjkaaAvgN
import Derived.IntWalk
namespace Go.Proofs.Ytimaealmmjdjkaa
open Go.RowKit Go.Shelf
set_option linter.unusedSimpArgs false
set_option linter.unusedVariables false

theorem and_1023 (x : Int) : ∃ b, bits BinOp.and IntKind.i64 x 1023 = b ∧ 0 ≤ b ∧ b ≤ 1023 := by
  refine ⟨_, rfl, ?_⟩
  have e : bits BinOp.and IntKind.i64 x 1023 = IntKind.i64.wrap ((BitVec.ofInt 64 x &&& BitVec.ofInt 64 1023).toNat : Int) := rfl
  rw [e, BitVec.toNat_and]
  have h : (BitVec.ofInt 64 x).toNat &&& (BitVec.ofInt 64 1023).toNat ≤ 1023 := Nat.le_trans Nat.and_le_right (by decide)
  rw [IntWalk.i64_in _ (by omega)]
  omega
theorem Owns.lit_at {α : Type} {w : World} {base : Nat} {e : TypeId} {sz : Nat} {en : α → List Value} {ys : List α} (hen : ∀ y, (en y).length = sz) {cs : Array Value} (g : Nat) (hg : g = w.heap.size) (hcs : cs.toList = ys.flatMap en) (hb : base ≤ w.heap.size) (hm : ys.length ≤ maxLen) :
    Owns (w.alloc (.cells cs e)) base e sz en (.slice (some ⟨g, 0, none⟩) ys.length ys.length) ys := by subst hg; exact Owns.lit hen hcs hb hm
theorem cell_here (w : World) (cs : Array Value) (t : TypeId) (o : Nat) (v : Value) (h : cs[o]? = some v) : CellAt (w.alloc (.cells cs t)) w.heap.size o v := ⟨by simp [go_sem]; simpa using h, by simp⟩

set_option maxHeartbeats 4000000 in
theorem reaches_any {w : World} (xs : List At) (A : Option Addr) (c : Nat) (cr g : Int) (goal : Ra) (hx : Reads w w.heap.size A 5 At.enc xs) (hm : xs.length ≤ 500) (hnc : A = none → c = 0) (hgo : goal.i64) :
    Calls Try.prog 24 #[.slice A xs.length c, .int .i64 cr, .int .i64 g, goal.v] w fun e w' => e = .returned (.bool (reachB xs cr g goal)) ∧ Below w.heap.size w w' := by
  have HGO := Lib.hid hgo
  obtain ⟨i0, hinf, hz0, hz1, hz2⟩ := info_parts Try.infoAt
  obtain ⟨zs, hzs⟩ : ∃ zs, zs = xs ++ [⟨0, 0, g, 0, cr⟩] := ⟨_, rfl⟩
  have hzl : zs.length ≤ 1000 := by rw [hzs]; simp; omega
  have hreach : reachB xs cr g goal = ((meanA zs).2 == 0 && ((cmpP (meanA zs).1 goal).2 == 0 && decide (0 ≤ (cmpP (meanA zs).1 goal).1))) := by rw [hzs]; rfl
  have hmi := meanA_i64 zs
  obtain ⟨⟨⟨n, d⟩, E⟩, hme⟩ : ∃ r, r = meanA zs := ⟨_, rfl⟩
  rw [← hme] at hreach hmi
  simp only at hreach
  obtain ⟨⟨cn, ce⟩, hcm⟩ : ∃ r, r = cmpP ⟨n, d⟩ goal := ⟨_, rfl⟩
  rw [← hcm] at hreach
  simp only at hreach
  have HZ := Lib.hid hzs
  have HME := Lib.hid hme.symm
  have HCM := Lib.hid hcm.symm
  have HRE := Lib.hid hreach
  have HMI := Lib.hid hmi
  clear hzs hme hcm hreach hmi hgo
  have G := Lib.hid ((Below.refl w.heap.size w).alloc (Nat.le_refl _) (.cells #[.int .i64 goal.num, .int .i64 goal.den] 29))
  have RL := Lib.hid ((hx.alloc (Nat.le_refl _) (.cells #[.int .i64 goal.num, .int .i64 goal.den] 29)).more (B' := (w.alloc (.cells #[.int .i64 goal.num, .int .i64 goal.den] 29)).heap.size) (by simp))
  have C0 := Lib.hid (cell_here w #[.int .i64 goal.num, .int .i64 goal.den] 29 0 _ rfl)
  have C1 := Lib.hid (cell_here w #[.int .i64 goal.num, .int .i64 goal.den] 29 1 _ rfl)
  clear hx
  unfold Ra.v
  go_enter Try.func24, Try.ntmps24
  go_wp2_with (at_builtin; refine stop_mk ?_)
  have hO := Owns.lit_at (w := (w.alloc (.cells #[.int .i64 goal.num, .int .i64 goal.den] 29))) (base := (w.alloc (.cells #[.int .i64 goal.num, .int .i64 goal.den] 29)).heap.size) (e := 43) (cs := #[]) (ys := ([] : List At)) At.enc_len (w.heap.size + 1) (by simp) rfl (Nat.le_refl _) (by simp)
  refine stop_out (wpList_append_reads (en := At.enc) (sz := 5) _ rfl _ _ _ rfl At.enc_len At.enc_one (w.alloc (.cells #[.int .i64 goal.num, .int .i64 goal.den] 29)).heap.size 43 i0 _ 40 Try.underlying22 hinf hz0 hz1 hz2 rfl (by omega) _ [] rfl hO (w.alloc (.cells #[.int .i64 goal.num, .int .i64 goal.den] 29)).heap.size A c xs rfl (RL.out.alloc (Nat.le_refl _) _) hnc (by simp [maxLen]; omega) (by simp; omega) (by simp) ?_)
  intro va wa hoa hga _ _
  have S_wa : Below (w.alloc (.cells #[.int .i64 goal.num, .int .i64 goal.den] 29)).heap.size (w.alloc (.cells #[.int .i64 goal.num, .int .i64 goal.den] 29)) wa := ((Below.refl _ _).alloc (Nat.le_refl _) _).grown hga (by simp) (fun q e => hO.base_le q e)
  obtain ⟨Aa, ca, rfl, _, _⟩ := hoa.shape
  simp only [List.nil_append] at hoa
  have OA := Lib.hid hoa
  have HS := Lib.hid S_wa
  clear hga hO hoa S_wa
  go_wp2_with fail
  refine (try_any 0 0 g cr _).mono ?_
  rintro e w2 ⟨rfl, hb_w2⟩
  have OA := Lib.hid (OA.out.below hb_w2 (Nat.le_refl _))
  have HS := Lib.hid (HS.out.trans (hb_w2.mono HS.out.size))
  clear hb_w2
  go_wp2_with (at_builtin; refine stop_mk ?_)
  refine stop_out (wpList_append_reads (en := At.enc) (sz := 5) _ rfl _ _ _ rfl At.enc_len At.enc_one (w.alloc (.cells #[.int .i64 goal.num, .int .i64 goal.den] 29)).heap.size 43 i0 _ 40 Try.underlying22 hinf hz0 hz1 hz2 rfl (by omega) _ xs rfl (OA.out.alloc _) (w2.heap.size + 1) (some ⟨w2.heap.size, 0, none⟩) 1 [⟨0, 0, g, 0, cr⟩] rfl (reads_one w2 At.enc ⟨0, 0, g, 0, cr⟩ _ _ rfl 5 w2.heap.size rfl) (fun h => by cases h) (by simp [maxLen]; omega) (by simp; omega) (Nat.le_trans HS.out.size (by simp)) ?_)
  intro vb w3 hob hgb _ _
  rw [← HZ.out] at hob
  have S_w3 : Below (w.alloc (.cells #[.int .i64 goal.num, .int .i64 goal.den] 29)).heap.size (w.alloc (.cells #[.int .i64 goal.num, .int .i64 goal.den] 29)) w3 := (HS.out.alloc HS.out.size _).grown hgb (Nat.le_trans HS.out.size (by simp)) (fun q e => OA.out.base_le q e)
  obtain ⟨Ab, cb, rfl, _, _⟩ := hob.shape
  have OB := Lib.hid (hob.reads At.enc_len)
  clear hgb hob OA HS
  have G := Lib.hid (G.out.trans (S_w3.mono G.out.size))
  have C0 := Lib.hid (C0.out.step S_w3)
  have C1 := Lib.hid (C1.out.step S_w3)
  have z_w3 := S_w3.size
  go_wp2_with fail
  refine (Mean_any zs Ab cb _ OB.out (by omega)).mono ?_
  rw [HME.out]
  simp only [Ra.v]
  rintro e w4 ⟨rfl, hb_w4⟩
  have S_w4 : Below w3.heap.size w3 w4 := (Below.refl _ w3).trans (hb_w4.mono (by (try simp) <;> omega))
  have G := Lib.hid (G.out.trans (S_w4.mono G.out.size))
  have C0 := Lib.hid (C0.out.step S_w4)
  have C1 := Lib.hid (C1.out.step S_w4)
  have OB := Lib.hid ((OB.out.below S_w4).more S_w4.size)
  have z_w4 := S_w4.size
  obtain ⟨c0, cz⟩ := C0.out
  obtain ⟨c1, _⟩ := C1.out
  go_wp2_with fail
  refine (RaCompare_any ⟨n, d⟩ goal HMI.out HGO.out _).mono ?_
  rw [HCM.out]
  rintro e w5 ⟨rfl, hb_w5⟩
  clear c0 cz c1
  have S_w5 : Below w4.heap.size w4 w5 := ((Below.refl _ w4).alloc (by (try simp) <;> omega) _).trans (hb_w5.mono (by (try simp) <;> omega))
  have G := Lib.hid (G.out.trans (S_w5.mono G.out.size))
  have C0 := Lib.hid (C0.out.step S_w5)
  have C1 := Lib.hid (C1.out.step S_w5)
  have OB := Lib.hid ((OB.out.below S_w5).more S_w5.size)
  have z_w5 := S_w5.size
  cases e1 : (E == 0) <;> cases e2 : (ce == 0)
  all_goals
    go_wp2_with fail
    all_goals go_ret
    all_goals exact ⟨ret_bool (by rw [HRE.out]; simp [*]), G.out⟩

set_option maxHeartbeats 4000000 in
theorem AverageReached_any {w : World} (xs : List At) (A : Option Addr) (c : Nat) (hx : Reads w w.heap.size A 5 At.enc xs) (hq : ∀ y ∈ xs, At.ok y) (hm : xs.length ≤ maxLen) (hnc : A = none → c = 0) (cr : Int) (wcr : (Lit.int .i64 cr).wf = true) (goal : Ra) (hgk : goal.ok) :
    Calls Try.prog 9 #[.slice A xs.length c, .int .i64 cr, goal.v] w fun e w' => e = .returned (.bool true) ∧ Below w.heap.size w w' := by
  unfold maxLen at hm
  have hgo := Ra.ok_i64 hgk
  have hcr : I64 cr := bounds_i64 wcr
  have HGO := Lib.hid hgo
  have G := Lib.hid (Below.refl w.heap.size w)
  have RL := Lib.hid hx
  clear hx hgo
  obtain ⟨b, hb, hb0, hb1⟩ := and_1023 cr
  obtain ⟨n, hn, hn1, hn2⟩ : ∃ n, 1 + b % 60 = n ∧ 1 ≤ n ∧ n ≤ 60 := ⟨_, rfl, by omega, by omega⟩
  have i1 : I64 n := I64_of (by omega) (by omega)
  have HN := Lib.hid i1
  clear i1
  unfold Ra.v
  go_enter Try.func9, Try.ntmps9
  go_wp2_with fail
  refine (sane_any _).mono ?_
  rintro e w1 ⟨rfl, hb_w1⟩
  have S_w1 : Below w.heap.size w w1 := ((Below.refl _ w).alloc (by (try simp) <;> omega) _).trans (hb_w1.mono (by (try simp) <;> omega))
  have G := Lib.hid (G.out.trans (S_w1.mono G.out.size))
  have RL := Lib.hid ((RL.out.below S_w1).more S_w1.size)
  have z_w1 := S_w1.size
  have C0 := Lib.hid (CellAt.new (cs := #[.int .i64 goal.num, .int .i64 goal.den]) (t := 29) w.heap.size rfl hb_w1 (by simp) 0 _ rfl)
  have C1 := Lib.hid (CellAt.new (cs := #[.int .i64 goal.num, .int .i64 goal.den]) (t := 29) w.heap.size rfl hb_w1 (by simp) 1 _ rfl)
  by_cases hf : xs.length ≤ 20
  rotate_left
  · have hd : decide ((20 : Int) < (xs.length : Int)) = true := by simp; omega
    go_wp2_with fail
    go_ret
    exact ⟨rfl, G.out⟩
  have hd : decide ((20 : Int) < (xs.length : Int)) = false := by simp; omega
  obtain ⟨c0, cz⟩ := C0.out
  obtain ⟨c1, _⟩ := C1.out
  rcases needed_law (xs := xs) (cr := n) (goal := goal) (by omega) hn1 hn2 with ⟨E, he, hE⟩ | ⟨he, hr⟩ | ⟨g, he, hg, hr, hr2⟩
  · have HE := Lib.hid he
    clear he
    go_wp2_with fail
    refine (Needed_any xs A c n goal _ RL.out (by omega) HN.out HGO.out).mono ?_
    rw [HE.out]
    rintro e w2 ⟨rfl, hb_w2⟩
    go_wp2_with fail
    go_ret
    exact ⟨rfl, G.out.trans (hb_w2.mono G.out.size)⟩
  · have HE := Lib.hid he
    have HR := Lib.hid hr
    clear he hr
    go_wp2_with fail
    refine (Needed_any xs A c n goal _ RL.out (by omega) HN.out HGO.out).mono ?_
    rw [HE.out]
    rintro e w2 ⟨rfl, hb_w2⟩
    have S_w2 : Below w1.heap.size w1 w2 := (Below.refl _ w1).trans (hb_w2.mono (by (try simp) <;> omega))
    have G := Lib.hid (G.out.trans (S_w2.mono G.out.size))
    have RL := Lib.hid ((RL.out.below S_w2).more S_w2.size)
    have C0 := Lib.hid (C0.out.step S_w2)
    have C1 := Lib.hid (C1.out.step S_w2)
    have z_w2 := S_w2.size
    clear c0 c1 cz
    obtain ⟨c0, cz⟩ := C0.out
    obtain ⟨c1, _⟩ := C1.out
    go_wp2_with fail
    refine (reaches_any xs A c n 12 goal RL.out (by omega) hnc HGO.out).mono ?_
    rw [HR.out]
    rintro e w3 ⟨rfl, hb_w3⟩
    have S_w3 : Below w2.heap.size w2 w3 := (Below.refl _ w2).trans (hb_w3.mono (by (try simp) <;> omega))
    have G := Lib.hid (G.out.trans (S_w3.mono G.out.size))
    have RL := Lib.hid ((RL.out.below S_w3).more S_w3.size)
    have C0 := Lib.hid (C0.out.step S_w3)
    have C1 := Lib.hid (C1.out.step S_w3)
    have z_w3 := S_w3.size
    go_wp2_with fail
    go_ret
    exact ⟨rfl, G.out⟩
  · have HE := Lib.hid he
    have HR := Lib.hid hr
    have HR2 := Lib.hid hr2
    clear he hr hr2
    go_wp2_with fail
    refine (Needed_any xs A c n goal _ RL.out (by omega) HN.out HGO.out).mono ?_
    rw [HE.out]
    rintro e w2 ⟨rfl, hb_w2⟩
    have S_w2 : Below w1.heap.size w1 w2 := (Below.refl _ w1).trans (hb_w2.mono (by (try simp) <;> omega))
    have G := Lib.hid (G.out.trans (S_w2.mono G.out.size))
    have RL := Lib.hid ((RL.out.below S_w2).more S_w2.size)
    have C0 := Lib.hid (C0.out.step S_w2)
    have C1 := Lib.hid (C1.out.step S_w2)
    have z_w2 := S_w2.size
    clear c0 c1 cz
    obtain ⟨c0, cz⟩ := C0.out
    obtain ⟨c1, _⟩ := C1.out
    have g1 : decide ((g : Int) ≤ 12) = true := by simp; omega
    go_wp2_with fail
    refine (reaches_any xs A c n g goal RL.out (by omega) hnc HGO.out).mono ?_
    rw [HR.out]
    rintro e w3 ⟨rfl, hb_w3⟩
    have S_w3 : Below w2.heap.size w2 w3 := (Below.refl _ w2).trans (hb_w3.mono (by (try simp) <;> omega))
    have G := Lib.hid (G.out.trans (S_w3.mono G.out.size))
    have RL := Lib.hid ((RL.out.below S_w3).more S_w3.size)
    have C0 := Lib.hid (C0.out.step S_w3)
    have C1 := Lib.hid (C1.out.step S_w3)
    have z_w3 := S_w3.size
    clear c0 c1 cz
    obtain ⟨c0, cz⟩ := C0.out
    obtain ⟨c1, _⟩ := C1.out
    by_cases hg0 : g = 0
    · have hz : ((g : Int) == 0) = true := by simp [hg0]
      clear hg0
      go_wp2_with fail
      go_ret
      exact ⟨rfl, G.out⟩
    · have hz : ((g : Int) == 0) = false := by simp [hg0]
      have HR3 : Hid (reachB xs n ((g : Int) - 1) goal = false) := Lib.hid (HR2.out.resolve_left hg0)
      clear hg0
      go_wp2_with fail
      refine (reaches_any xs A c n ((g : Int) - 1) goal RL.out (by omega) hnc HGO.out).mono ?_
      rw [HR3.out]
      rintro e w4 ⟨rfl, hb_w4⟩
      go_wp2_with fail
      go_ret
      exact ⟨rfl, G.out.trans (hb_w4.mono G.out.size)⟩
end Go.Proofs.Ytimaealmmjdjkaa
