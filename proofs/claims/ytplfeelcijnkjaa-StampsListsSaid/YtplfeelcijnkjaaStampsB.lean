/- The walks of Known, Of, Next and of their references; of the small functions on lists. -/
import Derived.Test.YtplfeelcijnkjaaStampsA
namespace Go.Proofs.Ytplfeelcijnkjaa
open Go.RowKit

def knownS (s : St) : Int × Int := if s.good then (8 * s.time + s.campus, 0) else (0, 80)

theorem good_bounds {s : St} (h : s.good = true) : 1 ≤ s.time ∧ s.time ≤ 1048576 ∧ 0 ≤ s.campus ∧ s.campus ≤ 6 ∧ 1 ≤ s.no ∧ s.no ≤ 1048576 := by
  simp [St.good] at h; omega

set_option maxHeartbeats 1000000 in
theorem Known_any (s : St) (w : World) :
    Calls Try.prog 11 #[s.v] w fun e w' => e = .returned (.tuple #[.int .i64 (knownS s).1, .int .i64 (knownS s).2]) ∧ Below w.heap.size w w' := by
  cases hg : s.good
  · have h1 : checkS s = 80 := by simp [checkS, hg]
    have h2 : knownS s = (0, 80) := by simp [knownS, hg]
    rw [h2]
    have H1 := Lib.hid h1
    clear hg h1 h2
    obtain ⟨t, c, n⟩ := s
    unfold St.v
    go_enter Try.func11, Try.ntmps11
    go_wp2_with fail
    refine (Check_any ⟨t, c, n⟩ _).mono ?_
    rw [H1.out]
    rintro e w1 ⟨rfl, hb1⟩
    go_wp2_with fail
    go_ret2
    exact ⟨rfl, ((Below.refl _ _).alloc (Nat.le_refl _) _).trans (hb1.mono (by simp))⟩
  · have h1 : checkS s = 0 := by simp [checkS, hg]
    have h2 : knownS s = (8 * s.time + s.campus, 0) := by simp [knownS, hg]
    rw [h2]
    have H1 := Lib.hid h1
    obtain ⟨b1, b2, b3, b4, _, _⟩ := good_bounds hg
    clear hg h1 h2
    obtain ⟨t, c, n⟩ := s
    simp only at b1 b2 b3 b4
    unfold St.v
    go_enter Try.func11, Try.ntmps11
    go_wp2_with fail
    refine (Check_any ⟨t, c, n⟩ _).mono ?_
    rw [H1.out]
    rintro e w1 ⟨rfl, hb1⟩
    obtain ⟨hcc, hff⟩ := bcell hb1
    go_wp2_with fail
    go_ret2
    exact ⟨rfl, ((Below.refl _ _).alloc (Nat.le_refl _) _).trans (hb1.mono (by simp))⟩

set_option maxHeartbeats 1000000 in
theorem RKnown_any (s : St) (w : World) :
    Calls Try.prog 12 #[s.v] w fun e w' => e = .returned (.tuple #[.int .i64 (knownS s).1, .int .i64 (knownS s).2]) ∧ Below w.heap.size w w' := by
  cases hg : s.good
  · have h1 : checkS s = 80 := by simp [checkS, hg]
    have h2 : knownS s = (0, 80) := by simp [knownS, hg]
    rw [h2]
    have H1 := Lib.hid h1
    clear hg h1 h2
    obtain ⟨t, c, n⟩ := s
    unfold St.v
    go_enter Try.func12, Try.ntmps12
    go_wp2_with fail
    refine (RCheck_any ⟨t, c, n⟩ _).mono ?_
    rw [H1.out]
    rintro e w1 ⟨rfl, hb1⟩
    go_wp2_with fail
    go_ret2
    exact ⟨rfl, ((Below.refl _ _).alloc (Nat.le_refl _) _).trans (hb1.mono (by simp))⟩
  · have h1 : checkS s = 0 := by simp [checkS, hg]
    have h2 : knownS s = (8 * s.time + s.campus, 0) := by simp [knownS, hg]
    rw [h2]
    have H1 := Lib.hid h1
    obtain ⟨b1, b2, b3, b4, _, _⟩ := good_bounds hg
    clear hg h1 h2
    obtain ⟨t, c, n⟩ := s
    simp only at b1 b2 b3 b4
    unfold St.v
    go_enter Try.func12, Try.ntmps12
    go_wp2_with fail
    refine (RCheck_any ⟨t, c, n⟩ _).mono ?_
    rw [H1.out]
    rintro e w1 ⟨rfl, hb1⟩
    obtain ⟨hcc, hff⟩ := bcell hb1
    go_wp2_with fail
    go_ret2
    exact ⟨rfl, ((Below.refl _ _).alloc (Nat.le_refl _) _).trans (hb1.mono (by simp))⟩

/-- a known time's two parts; an error's number beside them -/
def ofS (k : Int) : Int × Int × Int := if (⟨k.tdiv 8, k.tmod 8, 1⟩ : St).good then (k.tdiv 8, k.tmod 8, 0) else (0, 0, 80)

set_option maxHeartbeats 1000000 in
theorem Of_any (k : Int) (hk : (Lit.int .i64 k).wf = true) (w : World) :
    Calls Try.prog 13 #[.int .i64 k] w fun e w' => e = .returned (.tuple #[.int .i64 (ofS k).1, .int .i64 (ofS k).2.1, .int .i64 (ofS k).2.2]) ∧ Below w.heap.size w w' := by
  obtain ⟨k0, k1⟩ := bounds_i64 hk
  clear hk
  have hz : Below w.heap.size w w := Below.refl _ _
  cases hg : (⟨k.tdiv 8, k.tmod 8, 1⟩ : St).good
  · have h1 : checkS ⟨k.tdiv 8, k.tmod 8, 1⟩ = 80 := by simp [checkS, hg]
    have h2 : ofS k = (0, 0, 80) := by simp [ofS, hg]
    rw [h2]
    have H1 := Lib.hid h1
    clear hg h1 h2
    go_enter Try.func13, Try.ntmps13
    go_wp2_with fail
    refine (Check_any ⟨k.tdiv 8, k.tmod 8, 1⟩ _).mono ?_
    rw [H1.out]
    rintro e w1 ⟨rfl, hb1⟩
    go_wp2_with fail
    go_ret3
    exact ⟨rfl, hb1⟩
  · have h1 : checkS ⟨k.tdiv 8, k.tmod 8, 1⟩ = 0 := by simp [checkS, hg]
    have h2 : ofS k = (k.tdiv 8, k.tmod 8, 0) := by simp [ofS, hg]
    rw [h2]
    have H1 := Lib.hid h1
    clear hg h1 h2
    go_enter Try.func13, Try.ntmps13
    go_wp2_with fail
    refine (Check_any ⟨k.tdiv 8, k.tmod 8, 1⟩ _).mono ?_
    rw [H1.out]
    rintro e w1 ⟨rfl, hb1⟩
    go_wp2_with fail
    go_ret3
    exact ⟨rfl, hb1⟩

set_option maxHeartbeats 1000000 in
theorem ROf_any (k : Int) (hk : (Lit.int .i64 k).wf = true) (w : World) :
    Calls Try.prog 14 #[.int .i64 k] w fun e w' => e = .returned (.tuple #[.int .i64 (ofS k).1, .int .i64 (ofS k).2.1, .int .i64 (ofS k).2.2]) ∧ Below w.heap.size w w' := by
  obtain ⟨k0, k1⟩ := bounds_i64 hk
  clear hk
  by_cases hneg : k < 0
  · have h2 : ofS k = (0, 0, 80) := by
      have : (⟨k.tdiv 8, k.tmod 8, 1⟩ : St).good = false := by
        simp [St.good]
        intro h
        exfalso
        have h3 : k.tdiv 8 ≤ 0 := by
          obtain ⟨m, rfl⟩ : ∃ m : Int, k = -m := ⟨-k, by omega⟩
          rw [Int.neg_tdiv, Int.tdiv_eq_ediv_of_nonneg (by omega)]
          omega
        omega
      simp [ofS, this]
    rw [h2]
    clear h2
    go_enter Try.func14, Try.ntmps14
    go_wp2_with fail
    go_ret3
    exact ⟨rfl, Below.refl _ _⟩
  · have hpos : 0 ≤ k := by omega
    have e1 : k.tdiv 8 = k / 8 := Int.tdiv_eq_ediv_of_nonneg hpos
    have e2 : k.tmod 8 = k % 8 := Int.tmod_eq_emod_of_nonneg hpos
    have e0 : ofS k = if (⟨k / 8, k % 8, 1⟩ : St).good then (k / 8, k % 8, 0) else (0, 0, 80) := by simp only [ofS, e1, e2]
    clear e1 e2 hneg
    cases hg : (⟨k / 8, k % 8, 1⟩ : St).good
    · have h1 : checkS ⟨k / 8, k % 8, 1⟩ = 80 := by simp [checkS, hg]
      have h2 : ofS k = (0, 0, 80) := by simp [e0, hg]
      rw [h2]
      have H1 := Lib.hid h1
      clear hg h1 h2 e0
      go_enter Try.func14, Try.ntmps14
      go_wp2_with fail
      refine (RCheck_any ⟨k / 8, k % 8, 1⟩ _).mono ?_
      rw [H1.out]
      rintro e w1 ⟨rfl, hb1⟩
      go_wp2_with fail
      go_ret3
      exact ⟨rfl, ((Below.refl _ _).alloc (Nat.le_refl _) _).trans (hb1.mono (by simp))⟩
    · have h1 : checkS ⟨k / 8, k % 8, 1⟩ = 0 := by simp [checkS, hg]
      have h2 : ofS k = (k / 8, k % 8, 0) := by simp [e0, hg]
      rw [h2]
      have H1 := Lib.hid h1
      clear hg h1 h2 e0
      go_enter Try.func14, Try.ntmps14
      go_wp2_with fail
      refine (RCheck_any ⟨k / 8, k % 8, 1⟩ _).mono ?_
      rw [H1.out]
      rintro e w1 ⟨rfl, hb1⟩
      obtain ⟨hcc, hff⟩ := bcell hb1
      go_wp2_with fail
      go_quiet (fail)
      go_wp2_with fail
      go_ret3
      exact ⟨rfl, below_drewN (((Below.refl _ _).alloc (Nat.le_refl _) _).trans (hb1.mono (by simp))) _⟩

theorem rcompare_any (a b : Int) (w : World) :
    Calls Try.prog 29 #[.int .i64 a, .int .i64 b] w fun e w' => e = .returned (.int .i64 (cmpI a b)) ∧ w = w' := by
  go_enter Try.func29, Try.ntmps29
  go_wp2
  all_goals go_ret
  all_goals refine ⟨ret_int ?_, rfl⟩
  all_goals (unfold cmpI; (repeat' split) <;> omega)

set_option maxHeartbeats 1000000 in
theorem RCompare_any (a b : St) (w : World) :
    Calls Try.prog 18 #[a.v, b.v] w fun e w' => e = .returned (.int .i64 (cmpS a b)) ∧ Below w.heap.size w w' := by
  obtain ⟨ta, ca, na⟩ := a
  obtain ⟨tb, cb, nb⟩ := b
  unfold St.v
  obtain ⟨x, hx⟩ : ∃ x, x = cmpI ta tb := ⟨_, rfl⟩
  obtain ⟨y, hy⟩ : ∃ x, x = cmpI ca cb := ⟨_, rfl⟩
  obtain ⟨z, hz⟩ : ∃ x, x = cmpI na nb := ⟨_, rfl⟩
  have hv : cmpS ⟨ta, ca, na⟩ ⟨tb, cb, nb⟩ = if x = 0 then (if y = 0 then (if z = 0 then 0 else z) else y) else x := by simp [cmpS, firstNZ, hx, hy, hz]
  have X := Lib.hid hx
  have Y := Lib.hid hy
  have Z := Lib.hid hz
  have HV := Lib.hid hv
  clear hx hy hz hv
  go_enter Try.func18, Try.ntmps18
  go_wp2_with fail
  refine (rcompare_any _ _ _).mono ?_
  rw [← X.out]
  rintro e w1 ⟨rfl, rfl⟩
  cases qx : x == 0
  · have QX := Lib.hid qx
    go_wp2_with fail
    go_ret
    exact ⟨ret_int (by rw [HV.out, if_neg (by simpa using QX.out)]), by go_grown⟩
  · have QX := Lib.hid qx
    go_wp2_with fail
    refine (rcompare_any _ _ _).mono ?_
    rw [← Y.out]
    rintro e w1 ⟨rfl, rfl⟩
    cases qy : y == 0
    · have QY := Lib.hid qy
      go_wp2_with fail
      go_ret
      exact ⟨ret_int (by rw [HV.out, if_pos (by simpa using QX.out), if_neg (by simpa using QY.out)]), by go_grown⟩
    · have QY := Lib.hid qy
      go_wp2_with fail
      refine (rcompare_any _ _ _).mono ?_
      rw [← Z.out]
      rintro e w1 ⟨rfl, rfl⟩
      go_wp2_with fail
      go_ret
      exact ⟨ret_int (by rw [HV.out, if_pos (by simpa using QX.out), if_pos (by simpa using QY.out)]; split <;> simp_all), by go_grown⟩

theorem few_any {α : Type} (xs : List α) (A : Option Addr) (c : Nat) (w : World) :
    Calls Try.prog 19 #[.slice A xs.length c] w fun e w' => e = .returned (.bool (decide (xs.length ≤ 40))) ∧ w = w' := by
  go_enter Try.func19, Try.ntmps19
  go_wp2
  go_ret
  exact ⟨ret_bool (by simp; omega), rfl⟩

def okN (l : St) (seen : Int) : Bool := decide (0 ≤ l.campus) && decide (l.campus ≤ 6) && decide (0 ≤ l.time) && decide (l.time ≤ 1048576) && decide (0 ≤ seen) && decide (seen ≤ 1048576) && decide (0 ≤ l.no) && decide (l.no ≤ 1048576)
def nextS (l : St) (seen : Int) : St × Int :=
  if okN l seen then (if l.time = 1048576 ∨ seen = 1048576 ∨ l.no = 1048576 then (⟨0, 0, 0⟩, 2) else (⟨1 + max l.time seen, l.campus, 1 + l.no⟩, 0)) else (⟨0, 0, 0⟩, 80)

set_option maxHeartbeats 2000000 in
theorem Next_any (l : St) (seen : Int) (w : World) :
    Calls Try.prog 20 #[l.v, .int .i64 seen] w fun e w' => e = .returned (.tuple #[(nextS l seen).1.v, .int .i64 (nextS l seen).2]) ∧ Below w.heap.size w w' := by
  obtain ⟨t, c, n⟩ := l
  cases hok : okN ⟨t, c, n⟩ seen
  · have h2 : nextS ⟨t, c, n⟩ seen = (⟨0, 0, 0⟩, 80) := by simp [nextS, hok]
    rw [h2]
    have HO := Lib.hid hok
    clear hok h2
    unfold St.v
    go_enter Try.func20, Try.ntmps20
    go_wp2_with (go_at_call 26; refine (within_any _ _ _ _).mono ?_; rintro e w' ⟨rfl, rfl⟩)
    all_goals first
      | (exfalso; have ho := HO.out; simp only [okN] at ho; simp_all; done)
      | (exfalso; have ho := HO.out; simp only [okN] at ho; simp_all; omega)
      | (refine bodyPost_ret (v := .tuple #[.agg #[.int .i64 0, .int .i64 0, .int .i64 0], .int .i64 80]) (by simp [results, Try.results20, go_sem]) rfl ⟨rfl, by go_grown⟩)
  · have hb := hok
    simp [okN] at hb
    obtain ⟨⟨⟨⟨⟨⟨⟨b1, b2⟩, b3⟩, b4⟩, b5⟩, b6⟩, b7⟩, b8⟩ := hb
    have d1 : (decide (0 ≤ c) && decide (c ≤ 6)) = true := by simp [b1, b2]
    have d2 : (decide (0 ≤ t) && decide (t ≤ 1048576)) = true := by simp [b3, b4]
    have d3 : (decide (0 ≤ seen) && decide (seen ≤ 1048576)) = true := by simp [b5, b6]
    have d4 : (decide (0 ≤ n) && decide (n ≤ 1048576)) = true := by simp [b7, b8]
    by_cases hlim : t = 1048576 ∨ seen = 1048576 ∨ n = 1048576
    · have h2 : nextS ⟨t, c, n⟩ seen = (⟨0, 0, 0⟩, 2) := by simp only [nextS, hok, hlim, if_true]
      rw [h2]
      have hch : ∀ m, m = max t seen → checkS ⟨1 + m, c, 1 + n⟩ = 80 := fun m hm => by
        have : (⟨1 + m, c, 1 + n⟩ : St).good = false := by
          simp [St.good]; omega
        simp [checkS, this]
      have HC := Lib.hid hch
      clear hch h2 hok hlim
      by_cases hm : t < seen
      · have hmx : max t seen = seen := by omega
        have HC1 := Lib.hid (HC.out seen hmx.symm)
        try rw [hmx]
        clear hmx HC
        unfold St.v
        go_enter Try.func20, Try.ntmps20
        go_wp2_with (go_at_call 26; refine (within_any _ _ _ _).mono ?_; rintro e w' ⟨rfl, rfl⟩)
        refine (Check_any ⟨1 + seen, c, 1 + n⟩ _).mono ?_
        rw [HC1.out]
        rintro e w1 ⟨rfl, hb1⟩
        obtain ⟨hcc, hff⟩ := bcell hb1
        have G1 : Below w.heap.size w w1 := (((Below.refl _ _).alloc (Nat.le_refl _) _).alloc (by simp) _).trans (hb1.mono (by simp; omega))
        have z1 := G1.size
        obtain ⟨hq, _, _⟩ := below_at (w.heap.size + 1) (by simp) hb1 (by simp)
        go_wp2_with fail
        exact bodyPost_ret (v := .tuple #[.agg #[.int .i64 0, .int .i64 0, .int .i64 0], .int .i64 2]) (by simp [results, Try.results20, go_sem, hq]) rfl ⟨rfl, by go_grown⟩
      · have hmx : max t seen = t := by omega
        have HC1 := Lib.hid (HC.out t hmx.symm)
        try rw [hmx]
        clear hmx HC
        unfold St.v
        go_enter Try.func20, Try.ntmps20
        go_wp2_with (go_at_call 26; refine (within_any _ _ _ _).mono ?_; rintro e w' ⟨rfl, rfl⟩)
        refine (Check_any ⟨1 + t, c, 1 + n⟩ _).mono ?_
        rw [HC1.out]
        rintro e w1 ⟨rfl, hb1⟩
        obtain ⟨hcc, hff⟩ := bcell hb1
        have G1 : Below w.heap.size w w1 := (((Below.refl _ _).alloc (Nat.le_refl _) _).alloc (by simp) _).trans (hb1.mono (by simp; omega))
        have z1 := G1.size
        obtain ⟨hq, _, _⟩ := below_at (w.heap.size + 1) (by simp) hb1 (by simp)
        go_wp2_with fail
        exact bodyPost_ret (v := .tuple #[.agg #[.int .i64 0, .int .i64 0, .int .i64 0], .int .i64 2]) (by simp [results, Try.results20, go_sem, hq]) rfl ⟨rfl, by go_grown⟩
    · have h2 : nextS ⟨t, c, n⟩ seen = (⟨1 + max t seen, c, 1 + n⟩, 0) := by simp only [nextS, hok, hlim, if_true, if_false]
      rw [h2]
      have hch : ∀ m, m = max t seen → checkS ⟨1 + m, c, 1 + n⟩ = 0 := fun m hm => by
        have : (⟨1 + m, c, 1 + n⟩ : St).good = true := by
          simp [St.good]; omega
        simp [checkS, this]
      have HC := Lib.hid hch
      clear hch h2 hok hlim
      by_cases hm : t < seen
      · have hmx : max t seen = seen := by omega
        have HC1 := Lib.hid (HC.out seen hmx.symm)
        try rw [hmx]
        clear hmx HC
        unfold St.v
        go_enter Try.func20, Try.ntmps20
        go_wp2_with (go_at_call 26; refine (within_any _ _ _ _).mono ?_; rintro e w' ⟨rfl, rfl⟩)
        refine (Check_any ⟨1 + seen, c, 1 + n⟩ _).mono ?_
        rw [HC1.out]
        rintro e w1 ⟨rfl, hb1⟩
        obtain ⟨hcc, hff⟩ := bcell hb1
        have G1 : Below w.heap.size w w1 := (((Below.refl _ _).alloc (Nat.le_refl _) _).alloc (by simp) _).trans (hb1.mono (by simp; omega))
        have z1 := G1.size
        obtain ⟨hq, _, _⟩ := below_at (w.heap.size + 1) (by simp) hb1 (by simp)
        go_wp2_with fail
        exact bodyPost_ret (v := .tuple #[.agg #[.int .i64 (1 + seen), .int .i64 c, .int .i64 (1 + n)], .int .i64 0]) (by simp [results, Try.results20, go_sem, hq]) rfl ⟨rfl, by go_grown⟩
      · have hmx : max t seen = t := by omega
        have HC1 := Lib.hid (HC.out t hmx.symm)
        try rw [hmx]
        clear hmx HC
        unfold St.v
        go_enter Try.func20, Try.ntmps20
        go_wp2_with (go_at_call 26; refine (within_any _ _ _ _).mono ?_; rintro e w' ⟨rfl, rfl⟩)
        refine (Check_any ⟨1 + t, c, 1 + n⟩ _).mono ?_
        rw [HC1.out]
        rintro e w1 ⟨rfl, hb1⟩
        obtain ⟨hcc, hff⟩ := bcell hb1
        have G1 : Below w.heap.size w w1 := (((Below.refl _ _).alloc (Nat.le_refl _) _).alloc (by simp) _).trans (hb1.mono (by simp; omega))
        have z1 := G1.size
        obtain ⟨hq, _, _⟩ := below_at (w.heap.size + 1) (by simp) hb1 (by simp)
        go_wp2_with fail
        exact bodyPost_ret (v := .tuple #[.agg #[.int .i64 (1 + t), .int .i64 c, .int .i64 (1 + n)], .int .i64 0]) (by simp [results, Try.results20, go_sem, hq]) rfl ⟨rfl, by go_grown⟩
end Go.Proofs.Ytplfeelcijnkjaa
