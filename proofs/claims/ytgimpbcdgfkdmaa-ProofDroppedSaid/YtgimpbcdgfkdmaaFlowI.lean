/- Max. -/
import Derived.Test.YtgimpbcdgfkdmaaFlowH
import Derived.Deep.RegionWith
namespace Go.Proofs.Ytgimpbcdgfkdmaa.Fl
open Go.RowKit Go.Shelf
set_option linter.unusedSimpArgs false
set_option linter.unusedVariables false

set_option maxHeartbeats 2000000 in
theorem least_any {P : Nat → Prop} {B F n : Nat} {l : List Ed} {adj : List (List Nat)} {xs : List Int} (r : Nat) (k : Int) (be bw : Nat) (w : World) (h : Net w P B F n l adj) (hf : FlAt w F xs) (hb : Bd l xs) (hm : ∀ e ∈ l, e.m ≤ 1073741824) (hr : r < 2 * l.length) (hr2 : r < 200000)
    (he : One w be (.int .i64 k) 3) (hw : One w bw (.pointer (some ⟨B, 0, none⟩)) 91) :
    Calls Try.prog 54 #[.int .i64 r, .pointer (some ⟨be, 0, none⟩), .pointer (some ⟨bw, 0, none⟩)] w fun e w' => e = .returned (.tuple #[]) ∧ ∃ W, Below w.heap.size w W ∧ w' = W.setCell ⟨be, 0, none⟩ (.int .i64 (min k (capR l xs r))) := by
  have S := Lib.hid (fun W (hW : Below w.heap.size w W) => capacity_any (P := P) r W (h.step hW) (hf.step hW) hb hm hr hr2)
  have c0 := he.cell
  have c1 := hw.cell
  have f0 := he.free
  have z0 := he.lt
  have z1 := hw.lt
  have HE := Lib.hid he
  have c0d : w.drew.cell? ⟨be, 0, none⟩ = some (.int .i64 k) := c0
  have c1d : w.drew.cell? ⟨bw, 0, none⟩ = some (.pointer (some ⟨B, 0, none⟩)) := c1
  clear h hf hb hm he hw
  have hmin : min k (capR l xs r) = if capR l xs r < k then capR l xs r else k := by
    split <;> omega
  rw [hmin]
  clear hmin
  go_enter Try.func54, Try.ntmps54
  go_wp2_with fail
  go_region_with (go_at_call 55; refine (S.out _ (by first | exact (Below.refl _ _).drew | exact Below.refl _ _)).mono ?_; rintro e w1 ⟨rfl, hb1⟩; have d0 := (hb1.cell (p := ⟨be, 0, none⟩) z0).trans c0d; have d1 := (hb1.cell (p := ⟨bw, 0, none⟩) z1).trans c1d; have d2 := (hb1.frozen (p := ⟨be, 0, none⟩) z0).trans f0; have d3 := hb1.size)
  all_goals
    go_end0
    exact ⟨rfl, w1, by first | exact hb1 | exact hb1.drew | exact ((Below.refl _ _).drew).trans hb1, rfl⟩
theorem pushy_any {P : Nat → Prop} {B F n : Nat} {l : List Ed} {adj : List (List Nat)} {xs : List Int} (r : Nat) (k : Int) (be bw : Nat) (w : World) (h : Net w P B F n l adj) (hf : FlAt w F xs) (hxl : xs.length = l.length) (hr : r < 2 * l.length) (hr2 : r < 200000)
    (hz : -4611686018427387904 ≤ xs.getD (r / 2) 0 ∧ xs.getD (r / 2) 0 ≤ 4611686018427387904) (hk : -4611686018427387000 ≤ k ∧ k ≤ 4611686018427387000)
    (he : One w be (.int .i64 k) 3) (hw : One w bw (.pointer (some ⟨B, 0, none⟩)) 91) :
    Calls Try.prog 56 #[.int .i64 r, .pointer (some ⟨bw, 0, none⟩), .pointer (some ⟨be, 0, none⟩)] w fun e w' => e = .returned (.tuple #[]) ∧ w' = w.setCell ⟨F, r / 2, none⟩ (.int .i64 ((pushR xs k r).getD (r / 2) 0)) := by
  have S := Lib.hid (push_any (P := P) r k w h hf hxl hr hr2 hz hk)
  have c0 := he.cell
  have c1 := hw.cell
  clear h hf he hw
  go_enter Try.func56, Try.ntmps56
  go_wp2_with fail
  refine (S.out).mono ?_
  rintro e w1 ⟨rfl, rfl⟩
  go_wp2_with fail
  go_end0
  exact ⟨rfl, rfl⟩
end Go.Proofs.Ytgimpbcdgfkdmaa.Fl
