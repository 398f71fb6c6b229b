/- The small functions on lists of stamps: both, Same, Few, in. -/
import Derived.Test.YtplfeelcijnkjaaStampsM
import Derived.BigRegion
namespace Go.Proofs.Ytplfeelcijnkjaa
open Go.RowKit
set_option linter.unusedSimpArgs false
set_option linter.unusedVariables false

theorem both_any (A D : Option Addr) (n c m d : Nat) (w : World) :
    Calls Try.prog 31 #[.slice A n c, .slice D m d] w fun e w' =>
      e = .returned (.func (.func 34) #[] #[.pointer (some ⟨w.heap.size, 0, none⟩), .pointer (some ⟨w.heap.size + 1, 0, none⟩)]) ∧
      w' = (w.alloc (.cells #[.slice A n c] 33)).alloc (.cells #[.slice D m d] 33) := by
  go_enter Try.func31, Try.ntmps31
  go_wp2_with fail
  go_ret
  exact ⟨rfl, rfl⟩

set_option maxHeartbeats 1000000 in
theorem Same_any (us vs : List St) (A D : Option Addr) (c d : Nat) (w : World) (hx : Reads w w.heap.size A 3 St.enc us) (hy : Reads w w.heap.size D 3 St.enc vs) (hl : us.length ≤ 9223372036854775807) :
    Calls Try.prog 24 #[.slice A us.length c, .slice D vs.length d] w fun e w' => e = .returned (.bool (decide (us = vs))) ∧ Below w.heap.size w w' := by
  have HX := Lib.hid hx
  have HY := Lib.hid hy
  clear hx hy
  by_cases hlen : us.length = vs.length
  · have hd : ((us.length : Int) == (vs.length : Int)) = true := by simp [hlen]
    go_enter Try.func24, Try.ntmps24
    go_wp2_with fail
    go_loopw [5] (fun i wr => ∃ k : Nat, k ≤ us.length ∧ i = .int .i64 k ∧ (∀ j, j < k → us[j]? = vs[j]?) ∧ Below w.heap.size w wr) (fun i _ => us.length - (intOf i).toNat)
    case atStart => exact ⟨0, Nat.zero_le _, rfl, fun _ h => absurd h (by omega), Below.refl _ _⟩
    case round =>
      obtain ⟨k, hk, rfl, hno, hb⟩ := hrel
      have HNO := Lib.hid hno
      clear hno
      by_cases hlt : k < us.length
      · obtain ⟨ba, oa, x, rfl, hba, hxk, hca⟩ := (HX.out.below hb).at_ hlt
        obtain ⟨bb, ob, y, rfl, hbb, hyk, hcb⟩ := (HY.out.below hb).at_ (k := k) (by omega)
        have a0 := hca 0 _ rfl
        have a1 := hca 1 _ rfl
        have a2 := hca 2 _ rfl
        have b0 := hcb 0 _ rfl
        have b1 := hcb 1 _ rfl
        have b2 := hcb 2 _ rfl
        simp only [Nat.add_zero] at a0 b0
        clear hca hcb
        have HXK := Lib.hid hxk
        have HYK := Lib.hid hyk
        clear hxk hyk
        have hlt2 : k < vs.length := by omega
        have hs := hb.size
        by_cases hxy : x = y
        · subst hxy
          go_wp2_with fail
          go_region
          go_wp2_with fail
          go_roundw
          case rel => exact ⟨k + 1, by omega, by go_num, fun j hj => by
            by_cases hjk : j = k
            · rw [hjk, HXK.out, HYK.out]
            · exact HNO.out j (by omega), by go_grown⟩
          case measure => simp [intOf]; omega
        · have HNE : Hid (us ≠ vs) := Lib.hid (fun e => hxy (by
            have h1 := HXK.out
            rw [e, HYK.out] at h1
            exact (Option.some.inj h1).symm))
          obtain ⟨tx, cx, nx⟩ := x
          obtain ⟨ty, cy, ny⟩ := y
          have hc : ¬ tx = ty ∨ (tx = ty ∧ ¬ cx = cy) ∨ (tx = ty ∧ cx = cy ∧ ¬ nx = ny) := by
            simp only [St.mk.injEq] at hxy
            omega
          rcases hc with h | ⟨rfl, h⟩ | ⟨rfl, rfl, h⟩
          all_goals
            go_wp2_with fail
            go_region
            go_wp2_with fail
            go_ret
            exact ⟨ret_bool (by simp [HNE.out]), by go_grown⟩
      · obtain rfl : k = us.length := by omega
        go_wp2_with fail
        go_ret
        refine ⟨ret_bool ?_, hb⟩
        have e : us = vs := List.ext_getElem? (fun i => by
          by_cases hi : i < us.length
          · exact HNO.out i hi
          · rw [List.getElem?_eq_none (by omega), List.getElem?_eq_none (by omega)])
        simp [e]
  · have hd : ((us.length : Int) == (vs.length : Int)) = false := by simp; omega
    go_enter Try.func24, Try.ntmps24
    go_wp2_with fail
    go_ret
    refine ⟨ret_bool ?_, Below.refl _ _⟩
    have : us ≠ vs := fun e => hlen (by rw [e])
    simp [this]

set_option maxHeartbeats 1000000 in
theorem in_any (us : List St) (s : St) (A : Option Addr) (c : Nat) (w : World) (hx : Reads w w.heap.size A 3 St.enc us) (hl : us.length ≤ 9223372036854775807) :
    Calls Try.prog 25 #[.slice A us.length c, s.v] w fun e w' => e = .returned (.bool (decide (s ∈ us))) ∧ Below w.heap.size w w' := by
  have HX := Lib.hid hx
  clear hx
  unfold St.v
  go_enter Try.func25, Try.ntmps25
  go_wp2_with fail
  go_loopw [5] (fun i wr => ∃ k : Nat, k ≤ us.length ∧ i = .int .i64 k ∧ (∀ j, j < k → us[j]? ≠ some s) ∧ Below (w.heap.size + 1) (w.alloc (.cells #[.int .i64 s.time, .int .i64 s.campus, .int .i64 s.no] 23)) wr) (fun i _ => us.length - (intOf i).toNat)
  case atStart => exact ⟨0, Nat.zero_le _, rfl, fun _ h => absurd h (by omega), Below.refl _ _⟩
  case round =>
    obtain ⟨k, hk, rfl, hno, hB⟩ := hrel
    have HNO := Lib.hid hno
    clear hno
    have hB2 := hB.drew
    obtain ⟨hb, sc, sf, sz, _⟩ := below_new hB
    have s0 := sc 0
    have s1 := sc 1
    have s2 := sc 2
    simp at s0 s1 s2
    have HB := Lib.hid hB
    clear sc sf hB hB2
    by_cases hlt : k < us.length
    · obtain ⟨ba, oa, x, rfl, hba, hxk, hca⟩ := (HX.out.below hb).at_ hlt
      have a0 := hca 0 _ rfl
      have a1 := hca 1 _ rfl
      have a2 := hca 2 _ rfl
      simp only [Nat.add_zero] at a0
      clear hca
      have HXK := Lib.hid hxk
      clear hxk
      have hs := hb.size
      by_cases hxy : x = s
      · subst hxy
        have HM : Hid (x ∈ us) := Lib.hid (List.mem_of_getElem? HXK.out)
        go_wp2_with fail
        go_region
        go_wp2_with fail
        go_ret
        exact ⟨ret_bool (by simp [HM.out]), hb.drew⟩
      · have HNE : Hid (us[k]? ≠ some s) := Lib.hid (by rw [HXK.out]; intro e; exact hxy (Option.some.inj e))
        obtain ⟨tx, cx, nx⟩ := x
        obtain ⟨ty, cy, ny⟩ := s
        have hc : ¬ tx = ty ∨ (tx = ty ∧ ¬ cx = cy) ∨ (tx = ty ∧ cx = cy ∧ ¬ nx = ny) := by
          simp only [St.mk.injEq] at hxy
          omega
        rcases hc with h | ⟨rfl, h⟩ | ⟨rfl, rfl, h⟩
        all_goals
          go_wp2_with fail
          go_region
          go_wp2_with fail
          go_roundw
          case rel => exact ⟨k + 1, by omega, by go_num, fun j hj => by
            by_cases hjk : j = k
            · rw [hjk]; exact HNE.out
            · exact HNO.out j (by omega), HB.out.drew⟩
          case measure => simp [intOf]; omega
    · obtain rfl : k = us.length := by omega
      go_wp2_with fail
      go_ret
      refine ⟨ret_bool ?_, hb⟩
      have e : s ∉ us := fun hm => by
        obtain ⟨i, hi, e⟩ := List.getElem_of_mem hm
        exact HNO.out i hi (by rw [List.getElem?_eq_getElem hi, e])
      simp [e]
end Go.Proofs.Ytplfeelcijnkjaa
