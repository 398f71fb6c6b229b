/- kinds; the two functions that it holds; the reference's better. -/
import Derived.Test.YtimaealmmjdjkaaAvgG
namespace Go.Proofs.Ytimaealmmjdjkaa
open Go.RowKit Go.Shelf
set_option linter.unusedSimpArgs false
set_option linter.unusedVariables false

def repl1 (a b : At) : Bool := decide (b.grade < a.grade) || (decide (a.grade = b.grade) && decide (a.term < b.term))
def repl2 (a b : At) : Bool := decide (b.term ≤ a.term)

theorem kinds_any (w : World) :
    Calls Try.prog 31 #[] w fun e w' => e = .returned (.agg #[.bool true, .func (.func 48) #[] #[], .bool true, .func (.func 49) #[] #[], .bool false, .nilFunc]) ∧ Below w.heap.size w w' := by
  go_enter Try.func31, Try.ntmps31
  go_wp2_with fail
  exact bodyPost_ret (v := .agg #[.bool true, .func (.func 48) #[] #[], .bool true, .func (.func 49) #[] #[], .bool false, .nilFunc]) (by simp [results, Try.results31, go_sem]) rfl ⟨rfl, by go_grown⟩

set_option maxHeartbeats 2000000 in
theorem kinds1_any (a b : At) (w : World) :
    Calls Try.prog 48 #[a.v, b.v] w fun e w' => e = .returned (.bool (repl1 a b)) ∧ Below w.heap.size w w' := by
  obtain ⟨c, t, g, p, k⟩ := a
  obtain ⟨c', t', g', p', k'⟩ := b
  unfold At.v
  have hcase : decide (g' < g) = true ∨ (decide (g' < g) = false ∧ (g == g') = false) ∨ (decide (g' < g) = false ∧ (g == g') = true) := by
    simp; omega
  rcases hcase with d1 | ⟨d1, d2⟩ | ⟨d1, d2⟩
  all_goals
    go_enter Try.func48, Try.ntmps48
    go_wp2_with fail
    go_ret
    refine ⟨ret_bool ?_, by go_grown⟩
    unfold repl1
    simp_all

theorem kinds2_any (a b : At) (w : World) :
    Calls Try.prog 49 #[a.v, b.v] w fun e w' => e = .returned (.bool (repl2 a b)) ∧ Below w.heap.size w w' := by
  obtain ⟨c, t, g, p, k⟩ := a
  obtain ⟨c', t', g', p', k'⟩ := b
  unfold At.v
  go_enter Try.func49, Try.ntmps49
  go_wp2_with fail
  go_ret
  exact ⟨ret_bool rfl, by go_grown⟩

/-- the attempt k counts rather than the attempt i -/
def betterB (kind : Int) (a b : At) (k i : Nat) : Bool :=
  if kind = 0 then (if a.grade ≠ b.grade then decide (b.grade < a.grade) else if a.term ≠ b.term then decide (a.term < b.term) else decide (k < i))
  else if a.term ≠ b.term then decide (b.term < a.term) else decide (i < k)

set_option maxHeartbeats 4000000 in
theorem better_any (xs : List At) (A : Option Addr) (c : Nat) (kind : Int) (k i : Nat) (a b : At) (ha : xs[k]? = some a) (hb : xs[i]? = some b) (w : World) (hx : Reads w w.heap.size A 5 At.enc xs) (hl : xs.length ≤ 9223372036854775807) :
    Calls Try.prog 33 #[.slice A xs.length c, .int .i64 kind, .int .i64 k, .int .i64 i] w fun e w' => e = .returned (.bool (betterB kind a b k i)) ∧ Below w.heap.size w w' := by
  have hk : k < xs.length := (List.getElem?_eq_some_iff.1 ha).1
  have hi : i < xs.length := (List.getElem?_eq_some_iff.1 hb).1
  obtain ⟨b1, o1, x, rfl, hbl1, hxk, hc⟩ := hx.at_ hk
  rw [ha] at hxk
  obtain rfl := Option.some.inj hxk
  obtain ⟨b2, o2, y, e2, hbl2, hyk, hd⟩ := hx.at_ hi
  rw [hb] at hyk
  obtain rfl := Option.some.inj hyk
  simp only [Option.some.injEq, Addr.mk.injEq] at e2
  obtain ⟨rfl, rfl, _⟩ := e2
  have p0 := hc 0 _ rfl
  have p1 := hc 1 _ rfl
  have p2 := hc 2 _ rfl
  have p3 := hc 3 _ rfl
  have p4 := hc 4 _ rfl
  have r0 := hd 0 _ rfl
  have r1 := hd 1 _ rfl
  have r2 := hd 2 _ rfl
  have r3 := hd 3 _ rfl
  have r4 := hd 4 _ rfl
  simp only [Nat.add_zero] at p0 r0
  clear hx hc hd ha hb hxk hyk
  obtain ⟨x0, x1, x2, x3, x4⟩ := a
  obtain ⟨y0, y1, y2, y3, y4⟩ := b
  simp only at p0 p1 p2 p3 p4 r0 r1 r2 r3 r4
  by_cases hkd : kind = 0
  · have d0 : (kind == 0) = true := by simp [hkd]
    by_cases hg : x2 = y2
    · have d1 : (x2 == y2) = true := by simp [hg]
      have d1' : (x2 != y2) = false := by simp [hg]
      by_cases ht : x1 = y1
      · have d2 : (x1 == y1) = true := by simp [ht]
        have d2' : (x1 != y1) = false := by simp [ht]
        have HV : Hid (betterB kind ⟨x0, x1, x2, x3, x4⟩ ⟨y0, y1, y2, y3, y4⟩ k i = decide (k < i)) := Lib.hid (by simp [betterB, hkd, hg, ht])
        clear hkd hg ht
        go_enter Try.func33, Try.ntmps33
        go_wp2_with fail
        go_ret
        refine ⟨ret_bool (by rw [HV.out]), by go_grown⟩
      · have d2 : (x1 == y1) = false := by simp [ht]
        have d2' : (x1 != y1) = true := by simp [ht]
        have HV : Hid (betterB kind ⟨x0, x1, x2, x3, x4⟩ ⟨y0, y1, y2, y3, y4⟩ k i = decide (x1 < y1)) := Lib.hid (by simp [betterB, hkd, hg, ht])
        clear hkd hg ht
        go_enter Try.func33, Try.ntmps33
        go_wp2_with fail
        go_ret
        refine ⟨ret_bool (by rw [HV.out]), by go_grown⟩
    · have d1 : (x2 == y2) = false := by simp [hg]
      have d1' : (x2 != y2) = true := by simp [hg]
      have HV : Hid (betterB kind ⟨x0, x1, x2, x3, x4⟩ ⟨y0, y1, y2, y3, y4⟩ k i = decide (y2 < x2)) := Lib.hid (by simp [betterB, hkd, hg])
      clear hkd hg
      go_enter Try.func33, Try.ntmps33
      go_wp2_with fail
      go_ret
      refine ⟨ret_bool (by rw [HV.out]), by go_grown⟩
  · have d0 : (kind == 0) = false := by simp [hkd]
    by_cases ht : x1 = y1
    · have d2 : (x1 == y1) = true := by simp [ht]
      have d2' : (x1 != y1) = false := by simp [ht]
      have HV : Hid (betterB kind ⟨x0, x1, x2, x3, x4⟩ ⟨y0, y1, y2, y3, y4⟩ k i = decide (i < k)) := Lib.hid (by simp [betterB, hkd, ht])
      clear hkd ht
      go_enter Try.func33, Try.ntmps33
      go_wp2_with fail
      go_ret
      refine ⟨ret_bool (by rw [HV.out]), by go_grown⟩
    · have d2 : (x1 == y1) = false := by simp [ht]
      have d2' : (x1 != y1) = true := by simp [ht]
      have HV : Hid (betterB kind ⟨x0, x1, x2, x3, x4⟩ ⟨y0, y1, y2, y3, y4⟩ k i = decide (y1 < x1)) := Lib.hid (by simp [betterB, hkd, ht])
      clear hkd ht
      go_enter Try.func33, Try.ntmps33
      go_wp2_with fail
      go_ret
      refine ⟨ret_bool (by rw [HV.out]), by go_grown⟩
end Go.Proofs.Ytimaealmmjdjkaa
