/- The reference's Check and ends; Few, SameCut. -/
import Derived.Test.YtjpnbpfbdkbknaaFlowA
import Derived.Deep.DeepCutAuto
namespace Go.Proofs.Ytjpnbpfbdkbknaa
open Go.RowKit Go.Shelf
set_option linter.unusedSimpArgs false
set_option linter.unusedVariables false

theorem all_take_snoc {α : Type} {xs : List α} {p : α → Bool} {k : Nat} {x : α} (h : ∀ j (hj : j < xs.length), j < k → p xs[j] = true) (hk : xs[k]? = some x) (hx : p x = true) : ∀ j (hj : j < xs.length), j < k + 1 → p xs[j] = true := by
  intro j hj hlt
  rcases Nat.lt_or_ge j k with h1 | h1
  · exact h j hj h1
  · obtain rfl : j = k := by omega
    rw [List.getElem?_eq_getElem hj] at hk
    injection hk with hk
    rw [hk, hx]
theorem all_true {α : Type} {xs : List α} {p : α → Bool} (h : ∀ j (hj : j < xs.length), p xs[j] = true) : xs.all p = true := by
  rw [List.all_eq_true]
  intro x hx
  obtain ⟨j, hj, rfl⟩ := List.getElem_of_mem hx
  exact h j hj
theorem all_no {α : Type} {xs : List α} {p : α → Bool} {k : Nat} {x : α} (hk : xs[k]? = some x) (hx : p x = false) : xs.all p = false := by
  rw [List.all_eq_false]
  exact ⟨x, List.mem_of_getElem? hk, by simp [hx]⟩

set_option maxHeartbeats 4000000 in
theorem RCheck_any (n : Int) (xs : List Ed) (A : Option Addr) (c : Nat) (w : World) (hx : Reads w w.heap.size A 3 Ed.enc xs) (hl : xs.length ≤ 9223372036854775807) :
    Calls Try.prog 18 #[.int .i64 n, .slice A xs.length c] w fun e w' => e = .returned (.int .i64 (chkN n xs)) ∧ Below w.heap.size w w' := by
  have HX := Lib.hid hx
  clear hx
  by_cases h1 : 2 ≤ n ∧ n ≤ 4096 ∧ xs.length ≤ 65536
  · obtain ⟨h1, h2, h3⟩ := h1
    have e1 : decide (n < 2) = false := by simp; omega
    have e2 : decide (4096 < n) = false := by simp; omega
    have e3 : decide ((65536 : Int) < (xs.length : Int)) = false := by simp; omega
    have ec : chkN n xs = if xs.all (okE n) then 0 else 180 := by
      unfold chkN okN
      simp only [decide_eq_true h1, decide_eq_true h2, decide_eq_true h3, Bool.true_and]
    have HE := Lib.hid ec
    clear ec h1 h2
    go_enter Try.func18, Try.ntmps18
    go_wp2_with fail
    go_loopw [5] (fun i wr => ∃ k : Nat, k ≤ xs.length ∧ i = .int .i64 k ∧ (∀ j (hj : j < xs.length), j < k → okE n xs[j] = true) ∧ Below w.heap.size w wr) (fun i _ => xs.length - (intOf i).toNat)
    case atStart => exact ⟨0, Nat.zero_le _, rfl, fun _ _ h => absurd h (by omega), by go_grown⟩
    case round =>
      obtain ⟨k, hk, rfl, hno, hB⟩ := hrel
      have HNO := Lib.hid hno
      clear hno
      by_cases hlt : k < xs.length
      · obtain ⟨bb, off, x, rfl, hbl, hxk, hc⟩ := (HX.out.below hB).at_ hlt
        have c0 := hc 0 _ rfl
        have c1 := hc 1 _ rfl
        have c2 := hc 2 _ rfl
        simp only [Nat.add_zero] at c0
        have HXK := Lib.hid hxk
        have hb2 : bb < wr.heap.size := by have := hB.size; omega
        have HB := Lib.hid hB
        clear hc hxk hB
        obtain ⟨f, t, m⟩ := x
        go_upto_region 7 with fail
        obtain ⟨W7, hW7⟩ : ∃ W, W = wr.alloc (.cells #[.int .i64 f, .int .i64 t, .int .i64 m] 39) := ⟨_, rfl⟩
        have k0 : W7.cell? ⟨wr.heap.size, 0, none⟩ = some (.int .i64 f) := by rw [hW7]; simp [go_sem]
        have k1 : W7.cell? ⟨wr.heap.size, 1, none⟩ = some (.int .i64 t) := by rw [hW7]; simp [go_sem]
        have k2 : W7.cell? ⟨wr.heap.size, 2, none⟩ = some (.int .i64 m) := by rw [hW7]; simp [go_sem]
        have HB7 : Hid (Below w.heap.size w W7) := Lib.hid (by rw [hW7]; exact HB.out.alloc HB.out.size _)
        rw [← hW7]
        clear hW7 c0 c1 c2 hb2
        go_cut [64] (fun v wx => v = .bool (!okE n ⟨f, t, m⟩) ∧ W7 = wx)
        case first =>
          have ways : okE n ⟨f, t, m⟩ = true ∧ decide (f < 0) = false ∧ decide (n ≤ f) = false ∧ decide (t < 0) = false ∧ decide (n ≤ t) = false ∧ (f == t) = false ∧ decide (m < 0) = false ∧ decide (1073741824 < m) = false ∨
            okE n ⟨f, t, m⟩ = false ∧ (decide (f < 0) = true ∨ decide (f < 0) = false ∧ (decide (n ≤ f) = true ∨ decide (n ≤ f) = false ∧ (decide (t < 0) = true ∨ decide (t < 0) = false ∧ (decide (n ≤ t) = true ∨ decide (n ≤ t) = false ∧ ((f == t) = true ∨ (f == t) = false ∧ (decide (m < 0) = true ∨ decide (m < 0) = false ∧ decide (1073741824 < m) = true)))))) := by
            simp [okE]; omega
          rcases ways with ⟨h, e4, e5, e6, e7, e8, e9, e10⟩ | ⟨h, e4 | ⟨e4, e5 | ⟨e5, e6 | ⟨e6, e7 | ⟨e7, e8 | ⟨e8, e9 | ⟨e9, e10⟩⟩⟩⟩⟩⟩⟩
          all_goals
            have HO := Lib.hid h
            clear h
            go_wp2_with fail
            go_meet
            exact ⟨by rw [HO.out]; rfl, rfl⟩
        case rest =>
          obtain ⟨rfl, rfl⟩ := hcut
          clear k0 k1 k2
          obtain ⟨bv, hbv⟩ : ∃ b, b = !okE n ⟨f, t, m⟩ := ⟨_, rfl⟩
          rw [← hbv]
          cases bv
          · have HO : Hid (okE n ⟨f, t, m⟩ = true) := Lib.hid (by simpa using hbv.symm)
            clear hbv
            go_wp2_with fail
            go_roundw
            case rel => exact ⟨k + 1, by omega, by go_num, all_take_snoc HNO.out HXK.out HO.out, HB7.out⟩
            case measure => simp [intOf]; omega
          · have HO : Hid (okE n ⟨f, t, m⟩ = false) := Lib.hid (by simpa using hbv.symm)
            clear hbv
            go_wp2_with fail
            go_ret
            exact ⟨by rw [HE.out, all_no HXK.out HO.out]; rfl, HB7.out⟩
      · obtain rfl : k = xs.length := by omega
        have HA : Hid (xs.all (okE n) = true) := Lib.hid (all_true (fun j hj => HNO.out j hj hj))
        go_wp2_with fail
        go_ret
        exact ⟨by rw [HE.out, HA.out]; rfl, hB⟩
  · have ec : chkN n xs = 180 := by
      unfold chkN
      rw [if_neg]
      intro h
      obtain ⟨h2, h3, h4, _⟩ := okN_out h
      exact h1 ⟨h2, h3, h4⟩
    rw [ec]
    have ways : decide (n < 2) = true ∨ (decide (n < 2) = false ∧ decide (4096 < n) = true) ∨ (decide (n < 2) = false ∧ decide (4096 < n) = false ∧ decide ((65536 : Int) < (xs.length : Int)) = true) := by simp; omega
    clear h1 ec
    rcases ways with e1 | ⟨e1, e2⟩ | ⟨e1, e2, e3⟩
    all_goals
      go_enter Try.func18, Try.ntmps18
      go_wp2_with fail
      go_ret
      exact ⟨rfl, by go_grown⟩

theorem ends_any (n a b : Int) (xs : List Ed) (A : Option Addr) (c : Nat) (w : World) (hx : Reads w w.heap.size A 3 Ed.enc xs) (hl : xs.length ≤ 9223372036854775807) :
    Calls Try.prog 24 #[.int .i64 n, .slice A xs.length c, .int .i64 a, .int .i64 b] w fun e w' => e = .returned (.bool (okX n xs a b)) ∧ Below w.heap.size w w' := by
  have HC := Lib.hid (RCheck_any n xs A c w hx hl)
  unfold okX
  unfold chkN at HC
  cases h0 : okN n xs
  · simp only [h0, Bool.false_and, if_false, Bool.false_eq_true] at HC ⊢
    clear h0
    go_enter Try.func24, Try.ntmps24
    go_wp2_with fail
    refine (HC.out).mono ?_
    rintro e w1 ⟨rfl, hb1⟩
    go_wp2_with fail
    go_ret
    exact ⟨rfl, hb1⟩
  · simp only [h0, Bool.true_and, if_true] at HC ⊢
    clear h0
    have ways : okV n a b = true ∧ decide (0 ≤ a) = true ∧ decide (a < n) = true ∧ decide (0 ≤ b) = true ∧ decide (b < n) = true ∧ (a != b) = true ∨
      okV n a b = false ∧ (decide (0 ≤ a) = false ∨ decide (0 ≤ a) = true ∧ (decide (a < n) = false ∨ decide (a < n) = true ∧ (decide (0 ≤ b) = false ∨ decide (0 ≤ b) = true ∧ (decide (b < n) = false ∨ decide (b < n) = true ∧ (a != b) = false)))) := by
      simp [okV]; omega
    rcases ways with ⟨h, e1, e2, e3, e4, e5⟩ | ⟨h, e1 | ⟨e1, e2 | ⟨e2, e3 | ⟨e3, e4 | ⟨e4, e5⟩⟩⟩⟩⟩
    all_goals
      simp only [h, if_false, if_true, Bool.false_eq_true]
      clear h
      go_enter Try.func24, Try.ntmps24
      go_wp2_with fail
      refine (HC.out).mono ?_
      rintro e w1 ⟨rfl, hb1⟩
      go_wp2_with fail
      go_ret
      exact ⟨rfl, hb1⟩

def fewN (n : Int) (l : List Ed) : Bool := decide (n ≤ 40) && decide ((l.length : Int) ≤ 60)
theorem Few_any (n : Int) (xs : List Ed) (A : Option Addr) (c : Nat) (w : World) :
    Calls Try.prog 12 #[.int .i64 n, .slice A xs.length c] w fun e w' => e = .returned (.bool (fewN n xs)) ∧ w = w' := by
  have ways : fewN n xs = true ∧ decide (n ≤ 40) = true ∧ decide ((xs.length : Int) ≤ 60) = true ∨ fewN n xs = false ∧ (decide (n ≤ 40) = false ∨ decide (n ≤ 40) = true ∧ decide ((xs.length : Int) ≤ 60) = false) := by
    simp [fewN]; omega
  rcases ways with ⟨h, e1, e2⟩ | ⟨h, e1 | ⟨e1, e2⟩⟩
  all_goals
    rw [h]
    clear h
    go_enter Try.func12, Try.ntmps12
    go_wp2_with fail
    go_ret
    exact ⟨rfl, rfl⟩

def boolE (b : Bool) : List Value := [.bool b]
theorem same_take {xs ys : List Bool} {k : Nat} {x y : Bool} (h : xs.take k = ys.take k) (hx : xs[k]? = some x) (hy : ys[k]? = some y) (e : x = y) : xs.take (k + 1) = ys.take (k + 1) := by
  rw [List.take_add_one, List.take_add_one, h, hx, hy, e]
set_option maxHeartbeats 2000000 in
theorem SameCut_any (xs ys : List Bool) (A D : Option Addr) (c d : Nat) (w : World) (hx : Reads w w.heap.size A 1 boolE xs) (hy : Reads w w.heap.size D 1 boolE ys) (hl : xs.length ≤ 9223372036854775807) :
    Calls Try.prog 21 #[.slice A xs.length c, .slice D ys.length d] w fun e w' => e = .returned (.bool (decide (xs = ys))) ∧ Below w.heap.size w w' := by
  have HX := Lib.hid hx
  have HY := Lib.hid hy
  clear hx hy
  by_cases hlen : xs.length = ys.length
  · have q1 : ((xs.length : Int) != (ys.length : Int)) = false := by simp [hlen]
    have HL := Lib.hid hlen
    clear hlen
    go_enter Try.func21, Try.ntmps21
    go_wp2_with fail
    go_loopw [5] (fun i wr => ∃ k : Nat, k ≤ xs.length ∧ i = .int .i64 k ∧ xs.take k = ys.take k ∧ Below w.heap.size w wr) (fun i _ => xs.length - (intOf i).toNat)
    case atStart => exact ⟨0, Nat.zero_le _, rfl, by simp, by go_grown⟩
    case round =>
      obtain ⟨k, hk, rfl, hno, hB⟩ := hrel
      have HNO := Lib.hid hno
      clear hno
      by_cases hlt : k < xs.length
      · have hlt2 : k < ys.length := by rw [← HL.out]; exact hlt
        obtain ⟨ba, oa, x, rfl, hba, hxk, hca⟩ := (HX.out.below hB).at_ hlt
        obtain ⟨bb, ob, y, rfl, hbb, hyk, hcb⟩ := (HY.out.below hB).at_ hlt2
        have c0 := hca 0 _ rfl
        have c1 := hcb 0 _ rfl
        simp only [Nat.add_zero, Nat.mul_one] at c0 c1
        have HXK := Lib.hid hxk
        have HYK := Lib.hid hyk
        have hba2 : ba < wr.heap.size := by have := hB.size; omega
        have hbb2 : bb < wr.heap.size := by have := hB.size; omega
        have HB := Lib.hid hB
        clear hca hcb hxk hyk hB
        cases x <;> cases y
        case true.true | false.false =>
          go_wp2_with fail
          go_quiet (fail)
          go_wp2_with fail
          exact ⟨⟨k + 1, by omega, by go_num, same_take HNO.out HXK.out HYK.out rfl, below_drewN HB.out _⟩, by simp [intOf]; omega⟩
        all_goals
          have HE : Hid (xs ≠ ys) := Lib.hid (fun e => by have := HXK.out; rw [e, HYK.out] at this; cases this)
          go_wp2_with fail
          go_quiet (fail)
          go_wp2_with fail
          go_ret
          exact ⟨by rw [decide_eq_false HE.out]; rfl, below_drewN HB.out _⟩
      · obtain rfl : k = xs.length := by omega
        have HA : Hid (xs = ys) := Lib.hid (by
          have h := HNO.out
          rw [List.take_of_length_le (Nat.le_refl _), List.take_of_length_le (by rw [HL.out]; exact Nat.le_refl _)] at h
          exact h)
        go_wp2_with fail
        go_ret
        exact ⟨by rw [decide_eq_true HA.out]; rfl, hB⟩
  · have q1 : ((xs.length : Int) != (ys.length : Int)) = true := by simp; omega
    have HE : Hid (xs ≠ ys) := Lib.hid (fun e => hlen (by rw [e]))
    clear hlen
    rw [decide_eq_false HE.out]
    go_enter Try.func21, Try.ntmps21
    go_wp2_with fail
    go_ret
    exact ⟨rfl, by go_grown⟩
end Go.Proofs.Ytjpnbpfbdkbknaa
