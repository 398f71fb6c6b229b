/- slices.Clip; math/bits.Mul at 1; slices.Repeat at one sector; New. -/
import Derived.Test.YtgbkhmoplocmkaaDskC
import Derived.Laws.Bits64b
import Derived.Laws.MakeOwn
import Derived.Laws.CopyOwn
import Derived.Deep.RegionHeldLaw
import Derived.IntWalk
namespace Go.Proofs.Ytgbkhmoplocmkaa
open Go.RowKit Go.Shelf
set_option linter.unusedSimpArgs false
set_option linter.unusedVariables false
set_option maxRecDepth 20000

/-- x[:hi:max] of a slice -/
theorem run_slice_three {P : Program} {t e : TypeId} {i : TypeInfo} (ht : P.underlying t = some (.slice e)) (hi : P.info? e = some i) (A : Option Addr) (n c : Nat) (k k2 : IntKind) (hh mm : Int) (h0 : 0 ≤ hh) (h1 : hh ≤ mm) (h2 : mm ≤ c) (W : World) :
    (Instr.slice t (.slice A n c) none (some (.int k hh)) (some (.int k2 mm))).run P W = .ok (.slice A hh.toNat mm.toNat) W := by
  have hb := fun code => run_sliceBound (P := P) (w := W) k2 mm c code (by omega) h2
  have hb2 := fun code => run_sliceBound (P := P) (w := W) k hh mm.toNat code h0 (by omega)
  simp [Instr.slice, run_underlying ht, Instr.sliceBounds, hb, hb2, sizeOf, typeInfo, hi, Addr.add]
theorem clip_any {α : Type} (xs : List α) (A : Option Addr) (c : Nat) (w : World) (h : xs.length ≤ c) (hc : c ≤ maxLen) :
    Calls Try.prog 52 #[.slice A xs.length c] w fun e w' => e = .returned (.slice A xs.length xs.length) ∧ w = w' := by
  obtain ⟨i0, hinf, hz0, hz1, hz2⟩ := info_parts Try.infoWr
  unfold maxLen at hc
  have hsl := fun W => run_slice_three (P := Try.prog) Try.underlying23 hinf A xs.length c .i64 .i64 (xs.length : Int) (xs.length : Int) (by omega) (by omega) (by omega) W
  simp only [Int.toNat_natCast] at hsl
  clear hinf hz0 hz1 hz2
  go_enter Try.func52, Try.ntmps52
  go_wp2_with fail
  go_ret
  exact ⟨rfl, rfl⟩

theorem and_mask (n : Nat) (h : n ≤ 4096) : bits BinOp.and IntKind.u64 (n : Int) 4294967295 = (n : Int) := by
  have h1 := bits_and_u64_nat n 4294967295 (by omega) (by omega)
  have e : n &&& 4294967295 = n := by
    have := Nat.and_two_pow_sub_one_eq_mod n 32
    simp only [Nat.reducePow, Nat.reduceSub] at this
    rw [this]
    omega
  rw [e] at h1
  exact h1
theorem mul64_any (n : Nat) (h : n ≤ 4096) (w : World) :
    Calls Try.prog 74 #[.int .u64 1, .int .u64 n] w fun e w' => e = .returned (.tuple #[.int .u64 0, .int .u64 n]) ∧ w = w' := by
  have a1 : bits BinOp.and IntKind.u64 1 4294967295 = 1 := by decide
  have a2 := and_mask n h
  have a3 : bits BinOp.and IntKind.u64 0 4294967295 = 0 := by decide
  have a4 : (n : Int) / 4294967296 = 0 := by omega
  go_enter Try.func74, Try.ntmps74
  go_wp2_with fail
  go_ret2
  exact ⟨rfl, rfl⟩
theorem mul_any (n : Nat) (h : n ≤ 4096) (w : World) :
    Calls Try.prog 68 #[.int .u64 1, .int .u64 n] w fun e w' => e = .returned (.tuple #[.int .u64 0, .int .u64 n]) ∧ w = w' := by
  go_enter Try.func68, Try.ntmps68
  go_wp2_with fail
  refine (mul64_any n h _).mono ?_
  rintro e w1 ⟨rfl, rfl⟩
  go_wp2_with fail
  go_ret2
  exact ⟨rfl, rfl⟩

theorem made_one (x : Value) (n : Nat) (h : x.cells = #[x]) : madeCells x.cells n = (List.replicate n x).toArray := by
  apply Array.ext
  · simp [size_madeCells]
  · intro i h1 h2
    simp [madeCells, h, Nat.mod_one]
/-- a sector of zeros, as cells -/
def zero128 : Array Value := (zeroSec.map (Value.int .u8)).toArray
theorem make128 (W : World) : (Instr.makeSlice 35 (.int .i64 128) (.int .i64 128)).run Try.prog W = .ok (.slice (some ⟨W.heap.size, 0, none⟩) 128 128) (W.alloc (.cells zero128 5)) := by
  obtain ⟨i0, hinf, hz0, hz1, hz2⟩ := info_parts Try.infoByte
  have h := run_make (P := Try.prog) W 35 5 i0 (.int .u8 0) Try.underlying35 hinf hz0 .i64 .i64 128 128 (by decide) (by decide) (by rw [hz2]; decide) (by decide)
  rw [h, hz1]
  have e : madeCells (Value.int .u8 0).cells (Int.toNat 128 * 1) = zero128 := by
    rw [made_one _ _ rfl]
    unfold zero128 zeroSec
    rw [List.map_replicate]
    rfl
  rw [e]
  rfl
theorem flat_byte (l : List Int) : l.flatMap byteE = l.map (Value.int .u8) := by induction l <;> simp_all [byteE]
theorem zero_list : zero128.toList = zeroSec.flatMap byteE := by rw [flat_byte]; rfl
theorem zero_bounds : ∀ b ∈ zeroSec, 0 ≤ b ∧ b < 256 := by
  intro b hb
  unfold zeroSec at hb
  obtain ⟨_, rfl⟩ := List.mem_replicate.1 hb
  omega
theorem zero_len : zeroSec.length = 128 := by decide +kernel
theorem zero_by (w : World) : By (w.alloc (.cells zero128 5)) (fun b => w.heap.size ≤ b) ⟨some ⟨w.heap.size, 0, none⟩, 128, 128⟩ zeroSec := by
  refine ⟨?_, zero_bounds⟩
  have h := SlR.of_owns (xs := zeroSec) (e := 5) (base := w.heap.size) byteE_len (Owns.lit (ys := zeroSec) byteE_len zero_list (Nat.le_refl _) (by rw [zero_len]; decide))
  rw [zero_len] at h
  exact h

/-- k headers of one sector, the rest nil -/
def slRow (s : Sl) (k n : Nat) : List Value := List.replicate k (.slice s.a s.n s.c) ++ List.replicate (n - k) (.slice none 0 0)
theorem slRow_len (s : Sl) {k n : Nat} (h : k ≤ n) : (slRow s k n).length = n := by simp [slRow]; omega
theorem slRow_splice (s : Sl) {k m n : Nat} (h : k + m ≤ n) : splice (slRow s k n) k (List.replicate m (.slice s.a s.n s.c)) = slRow s (k + m) n := by
  unfold splice slRow
  rw [List.take_left' (by simp), List.length_replicate, ← List.append_assoc, List.replicate_append_replicate, List.drop_append]
  simp
  omega
theorem slRow_get (s : Sl) {k n j : Nat} (h : j < k) : (slRow s k n)[j]? = some (.slice s.a s.n s.c) := by
  unfold slRow
  rw [List.getElem?_append_left (by simpa using h)]
  simp [h]
theorem slRow_done (w : World) (s : Sl) (g n : Nat) (t : TypeId) (hg : w.heap[g]? = some (.cells (slRow s n n).toArray t (0, 0))) (hn : n ≤ maxLen) (P : Nat → Prop) (hP : P g) : SlR w P 1 slE ⟨some ⟨g, 0, none⟩, n, n⟩ (List.replicate n s) := by
  refine ⟨by simp, Nat.le_refl _, hn, (fun h => by cases h), fun hp => ⟨g, 0, rfl, (Array.getElem?_eq_some_iff.1 hg).1, fun i x j v hi hj => ?_⟩, fun _ a e => by cases e; exact hP⟩
  have hil : i < n := by have := (List.getElem?_eq_some_iff.1 hi).1; simpa using this
  rw [List.getElem?_replicate, if_pos hil] at hi
  injection hi with hi
  subst hi
  have hj0 : j = 0 := by have := (List.getElem?_eq_some_iff.1 hj).1; simp [slE] at this; exact this
  subst hj0
  simp [slE] at hj
  subst hj
  simp only [World.cell?, hg, Nat.zero_add, Nat.mul_one, Nat.add_zero]
  have := slRow_get s (n := n) hil
  simpa using this
theorem made_nils (n : Nat) : madeCells (Value.slice none 0 0).cells n = (slRow ⟨none, 0, 0⟩ 0 n).toArray := by
  apply Array.ext
  · simp [size_madeCells, slRow]
  · intro i h1 h2
    simp [madeCells, slRow, Value.cells, Nat.mod_one]

set_option maxHeartbeats 2000000 in
theorem repeat_any (v : Sl) (b : Nat) (n : Nat) (h1 : 1 ≤ n) (hn : n ≤ 4096) (w : World) (hb : CellAt w b 0 (.slice v.a v.n v.c)) :
    Calls Try.prog 49 #[.slice (some ⟨b, 0, none⟩) 1 1, .int .i64 n] w fun e w' => (∃ A n' c, e = .returned (.slice A n' c) ∧ SlR w' (fun b => w.heap.size ≤ b) 1 slE ⟨A, n', c⟩ (List.replicate n v)) ∧ Below w.heap.size w w' := by
  obtain ⟨i0, hinf, hz0, hz1, hz2⟩ := info_parts Try.infoSl
  have hmk := fun W => run_make (P := Try.prog) W 22 35 i0 (.slice none 0 0) Try.underlying22 hinf hz0 .i64 .i64 (n : Int) (n : Int) (by omega) (by omega) (by rw [hz2]; omega) (by omega)
  rw [hz1] at hmk
  simp only [Int.toNat_natCast, Nat.mul_one, made_nils] at hmk
  have hszE : (Try.prog.info? 35).map (·.size) = some 1 := by rw [hinf]; simp [hz1]
  have hsl1 := fun (k : Nat) (hk : k ≤ n) W => run_slice_from (P := Try.prog) Try.underlying22 hinf (some ⟨w.heap.size, 0, none⟩) n n .i64 (k : Int) (by omega) (by omega) W
  have hsl2 := fun (k : Nat) (hk : k ≤ n) W => run_slice_to (P := Try.prog) Try.underlying22 hinf (some ⟨w.heap.size, 0, none⟩) n n .i64 (k : Int) (by omega) (by omega) W
  rw [hz1] at hsl1
  have HS1 := Lib.hid hsl1
  have HS2 := Lib.hid hsl2
  have HZ := Lib.hid hszE
  clear hinf hz0 hz1 hz2 hsl1 hsl2 hszE
  obtain ⟨row, hrow⟩ : ∃ row, row = slRow ⟨none, 0, 0⟩ 0 n := ⟨_, rfl⟩
  rw [← hrow] at hmk
  have hrl : row.length = n := by rw [hrow]; exact slRow_len _ (Nat.zero_le _)
  have HRW := Lib.hid hrow
  have HRL := Lib.hid hrl
  clear hrow hrl
  have HBC := Lib.hid hb
  clear hb
  have hmn : min 1 n = 1 := by omega
  have HMN := Lib.hid hmn
  clear hmn
  go_enter Try.func49, Try.ntmps49
  go_wp2_with fail
  refine (mul_any n hn _).mono ?_
  rintro e w1 ⟨rfl, rfl⟩
  go_wp2_with (refine wpList_copy_splice rfl (.tmp 31) (.tmp 32) _ _ rfl 35 Try.underlying22 HZ.out (some ⟨w.heap.size, 0, none⟩) (some ⟨b, 0, none⟩) n n 1 1 rfl rfl w.heap.size 0 row _ (heap_alloc_new w _) [.slice v.a v.n v.c] HMN.out.symm ?c1 ?c2 ?c3 w.heap.size w ((Below.refl _ _).alloc (Nat.le_refl _) _) (Nat.le_refl _) ?_)
  case c1 =>
    intro j u hj
    match j with
    | 0 =>
      simp at hj
      subst hj
      have := ((Below.refl w.heap.size w).alloc (Nat.le_refl _) (.cells row.toArray 35)).cell (p := ⟨b, 0, none⟩) HBC.out.2
      simpa [Go.WideShapes.add_plain] using this.trans HBC.out.1
    | j + 1 => simp at hj
  case c2 => rw [HRL.out]; simp; omega
  case c3 => intro u hu; simp at hu; subst hu; rfl
  intro w2 hg2 hb2
  have hr2 : splice row 0 [.slice v.a v.n v.c] = slRow v 1 n := by
    have := slRow_splice v (k := 0) (m := 1) (n := n) (by omega)
    rw [HRW.out]
    simpa [slRow] using this
  have HG2 : Hid (w2.heap[w.heap.size]? = some (.cells (slRow v 1 n).toArray 35 (0, 0))) := Lib.hid (by rw [← hr2]; exact hg2.out)
  clear hg2 hr2
  go_wp2_with fail
  go_loopw [8] (fun i wr => ∃ k : Nat, 1 ≤ k ∧ k ≤ n ∧ i = .int .i64 k ∧ wr.heap[w.heap.size]? = some (.cells (slRow v k n).toArray 35 (0, 0)) ∧ Below w.heap.size w wr) (fun i _ => n - (intOf i).toNat)
  case atStart => exact ⟨1, Nat.le_refl _, h1, rfl, HG2.out, hb2⟩
  case round =>
    clear hb2 HG2
    obtain ⟨k, hk1, hk, rfl, hgr, hB⟩ := hrel
    have HGR := Lib.hid hgr
    have HB := Lib.hid hB
    clear hgr hB
    by_cases hlt : k < n
    · have hs1 := HS1.out k hk
      have hs2 := HS2.out k hk
      simp only [if_neg (show ¬ n = (k : Int).toNat by simp; omega), Option.map_some, Go.WideShapes.add_plain, Int.toNat_natCast, Nat.mul_one, Nat.zero_add] at hs1
      simp only [Int.toNat_natCast] at hs2
      obtain ⟨m, hm⟩ : ∃ m, m = min k (n - k) := ⟨_, rfl⟩
      have hm1 : 1 ≤ m ∧ k + m ≤ n := by omega
      have hnk : ¬ n = k := by omega
      have HM := Lib.hid hm
      obtain ⟨hm1, hm2⟩ := hm1
      have hmk2 : m ≤ k := by omega
      clear hm
      have CPY : Hid (∀ j u, (List.replicate m (Value.slice v.a v.n v.c))[j]? = some u → wr.drew.cell? ((⟨w.heap.size, 0, none⟩ : Addr).add j) = some u) := Lib.hid (fun j u hj => by
        rw [Go.WideShapes.add_plain, Nat.zero_add]
        have hjm : j < m := by have := (List.getElem?_eq_some_iff.1 hj).1; simpa using this
        rw [List.getElem?_replicate, if_pos hjm] at hj
        injection hj with hj
        subst hj
        have h3 := slRow_get v (n := n) (show j < k by omega)
        show wr.cell? _ = _
        simp only [World.cell?, HGR.out]
        simpa using h3)
      go_wp2_with fail
      go_region_held_law (fun _ => True) (trivial) ((refine step_copy_splice (by rfl) (.tmp 41) (.tmp 44) _ _ (by rfl) 35 Try.underlying22 HZ.out (some ⟨w.heap.size, k, none⟩) (some ⟨w.heap.size, 0, none⟩) (n - k) (n - k) k n (by rfl) (by rfl) w.heap.size k (slRow v k n) 35 HGR.out (List.replicate m (.slice v.a v.n v.c)) (by rw [List.length_replicate]; exact HM.out) (fun _ => ⟨rfl, _, rfl, fun j u hj => CPY.out j u hj⟩) (by rw [List.length_replicate, slRow_len v hk]; exact hm2) (fun u hu => by rw [(List.mem_replicate.1 hu).2]; rfl) w.heap.size w HB.out.drew (Nat.le_refl _) ?_; intro w4 hg4 hb4))
      have HG4 : Hid (w4.heap[w.heap.size]? = some (.cells (slRow v (k + m) n).toArray 35 (0, 0))) := Lib.hid (by rw [← slRow_splice v hm2]; exact hg4.out)
      clear hg4
      have hwr : IntKind.i64.wrap ((k : Int) + (m : Int)) = (k : Int) + (m : Int) := IntWalk.i64_in _ (by omega)
      go_simp
      go_wp2_with fail
      go_roundw
      case rel => exact ⟨k + m, by omega, hm2, by simp [hwr], HG4.out, hb4⟩
      case measure => simp [intOf, hwr]; omega
    · obtain rfl : k = n := by omega
      go_wp2_with fail
      go_ret
      exact ⟨⟨_, _, _, rfl, slRow_done _ v _ _ _ HGR.out (by unfold maxLen; omega) _ (Nat.le_refl _)⟩, HB.out⟩

theorem newD_no {n : Int} (h : ¬ (1 ≤ n ∧ n ≤ 4096)) : newD n = (Dk.zero, 1) := by unfold newD; rw [if_neg h]
theorem newD_yes {n : Nat} (h1 : 1 ≤ n) (h : n ≤ 4096) : newD (n : Int) = (⟨List.replicate n zeroSec, [], -1, false⟩, 0) := by unfold newD; rw [if_pos (by omega)]; rfl
theorem se_replicate {w : World} {P : Nat → Prop} {s v : Sl} {n : Nat} {bs : List Int} (h : SlR w P 1 slE s (List.replicate n v)) (hb : By w P v bs) : Se w P s (List.replicate n bs) := by
  refine ⟨_, h, by simp, fun i x b hx hbs => ?_⟩
  have e1 : x = v := by rw [List.getElem?_replicate] at hx; split at hx <;> simp_all
  have e2 : b = bs := by rw [List.getElem?_replicate] at hbs; split at hbs <;> simp_all
  rw [e1, e2]; exact hb

theorem cell_set_if (w : World) (a b : Addr) (v : Value) (h : (w.cell? a).isSome = true) : (w.setCell a v).cell? b = if b = a then some v else w.cell? b := by
  by_cases e : b = a
  · subst e; rw [if_pos rfl]; exact World.cell?_setCell_same' _ _ _ h
  · rw [if_neg e]; first | exact World.cell?_setCell_other _ _ _ _ e | exact World.cell?_setCell_other _ _ _ _ (Ne.symm e)
/-- four cells of one block, written one after another -/
def put4 (W : World) (b : Nat) (v0 v1 v2 v3 : Value) : World := (((W.setCell ⟨b, 0, none⟩ v0).setCell ⟨b, 1, none⟩ v1).setCell ⟨b, 2, none⟩ v2).setCell ⟨b, 3, none⟩ v3
theorem put4_cells {W : World} {b : Nat} {x0 x1 x2 x3 : Value} (h0 : W.cell? ⟨b, 0, none⟩ = some x0) (h1 : W.cell? ⟨b, 1, none⟩ = some x1) (h2 : W.cell? ⟨b, 2, none⟩ = some x2) (h3 : W.cell? ⟨b, 3, none⟩ = some x3) (v0 v1 v2 v3 : Value) :
    (put4 W b v0 v1 v2 v3).cell? ⟨b, 0, none⟩ = some v0 ∧ (put4 W b v0 v1 v2 v3).cell? ⟨b, 1, none⟩ = some v1 ∧ (put4 W b v0 v1 v2 v3).cell? ⟨b, 2, none⟩ = some v2 ∧ (put4 W b v0 v1 v2 v3).cell? ⟨b, 3, none⟩ = some v3 := by
  have e0 : (W.setCell ⟨b, 0, none⟩ v0).cell? ⟨b, 0, none⟩ = some v0 ∧ (W.setCell ⟨b, 0, none⟩ v0).cell? ⟨b, 1, none⟩ = some x1 ∧ (W.setCell ⟨b, 0, none⟩ v0).cell? ⟨b, 2, none⟩ = some x2 ∧ (W.setCell ⟨b, 0, none⟩ v0).cell? ⟨b, 3, none⟩ = some x3 := by
    refine ⟨?_, ?_, ?_, ?_⟩ <;> rw [cell_set_if _ _ _ _ (by rw [h0]; rfl)] <;> simp [h1, h2, h3]
  obtain ⟨a0, a1, a2, a3⟩ := e0
  unfold put4
  generalize W.setCell ⟨b, 0, none⟩ v0 = W1 at *
  have e1 : (W1.setCell ⟨b, 1, none⟩ v1).cell? ⟨b, 0, none⟩ = some v0 ∧ (W1.setCell ⟨b, 1, none⟩ v1).cell? ⟨b, 1, none⟩ = some v1 ∧ (W1.setCell ⟨b, 1, none⟩ v1).cell? ⟨b, 2, none⟩ = some x2 ∧ (W1.setCell ⟨b, 1, none⟩ v1).cell? ⟨b, 3, none⟩ = some x3 := by
    refine ⟨?_, ?_, ?_, ?_⟩ <;> rw [cell_set_if _ _ _ _ (by rw [a1]; rfl)] <;> simp [a0, a2, a3]
  obtain ⟨b0, b1, b2, b3⟩ := e1
  generalize W1.setCell ⟨b, 1, none⟩ v1 = W2 at *
  have e2 : (W2.setCell ⟨b, 2, none⟩ v2).cell? ⟨b, 0, none⟩ = some v0 ∧ (W2.setCell ⟨b, 2, none⟩ v2).cell? ⟨b, 1, none⟩ = some v1 ∧ (W2.setCell ⟨b, 2, none⟩ v2).cell? ⟨b, 2, none⟩ = some v2 ∧ (W2.setCell ⟨b, 2, none⟩ v2).cell? ⟨b, 3, none⟩ = some x3 := by
    refine ⟨?_, ?_, ?_, ?_⟩ <;> rw [cell_set_if _ _ _ _ (by rw [b2]; rfl)] <;> simp [b0, b1, b3]
  obtain ⟨c0, c1, c2, c3⟩ := e2
  generalize W2.setCell ⟨b, 2, none⟩ v2 = W3 at *
  refine ⟨?_, ?_, ?_, ?_⟩ <;> rw [cell_set_if _ _ _ _ (by rw [c3]; rfl)] <;> simp [c0, c1, c2]
theorem put4_below {B b : Nat} {w W : World} (h : Below B w W) (hb : B ≤ b) (v0 v1 v2 v3 : Value) : Below B w (put4 W b v0 v1 v2 v3) :=
  (((h.setCell (by exact hb) _).setCell (by exact hb) _).setCell (by exact hb) _).setCell (by exact hb) _
/-- what lies outside the block of the four cells is as it was -/
theorem put4_keep {W : World} {b : Nat} (v0 v1 v2 v3 : Value) : W.grownBy (put4 W b v0 v1 v2 v3) (some b) :=
  ⟨rfl, rfl, rfl, by simp [put4, World.setCell], fun k hk hne => by
    have hkb : k ≠ b := fun e => hne (by rw [e])
    unfold put4
    rw [Below.heap_setCell _ _ _ _ hkb, Below.heap_setCell _ _ _ _ hkb, Below.heap_setCell _ _ _ _ hkb, Below.heap_setCell _ _ _ _ hkb]⟩

set_option maxHeartbeats 2000000 in
theorem New_any (n : Int) (hn : -9223372036854775808 ≤ n ∧ n ≤ 9223372036854775807) (w : World) :
    Calls Try.prog 25 #[.int .i64 n] w fun e w' => (∃ sv pv, e = .returned (.tuple #[dkV sv pv (newD n).1, .int .i64 (newD n).2]) ∧ Di w' (fun b => w.heap.size ≤ b) sv pv (newD n).1) ∧ Below w.heap.size w w' := by
  obtain ⟨n0, n1⟩ := hn
  by_cases h : 1 ≤ n ∧ n ≤ 4096
  · obtain ⟨h1, h2⟩ := h
    obtain ⟨k, rfl⟩ : ∃ k : Nat, n = (k : Int) := ⟨n.toNat, by omega⟩
    rw [newD_yes (by omega) (by omega)]
    have hmk := make128
    have hl1 : 1 ≤ k := by omega
    have hl2 : k ≤ 4096 := by omega
    go_enter Try.func25, Try.ntmps25
    go_wp2_with fail
    have HY : Hid (By ((w.alloc (.cells #[.slice none 0 0, .slice none 0 0, .int .i64 0, .bool false] 25)).alloc (.cells zero128 5)) (fun b => w.heap.size + 1 ≤ b) ⟨some ⟨w.heap.size + 1, 0, none⟩, 128, 128⟩ zeroSec) := Lib.hid (by have := zero_by (w.alloc (.cells #[.slice none 0 0, .slice none 0 0, .int .i64 0, .bool false] 25)); simpa using this)
    refine (repeat_any ⟨some ⟨w.heap.size + 1, 0, none⟩, 128, 128⟩ (w.heap.size + 1 + 1) k hl1 hl2 _ ?hc).mono ?_
    case hc =>
      have := cell_here ((w.alloc (.cells #[.slice none 0 0, .slice none 0 0, .int .i64 0, .bool false] 25)).alloc (.cells zero128 5)) #[.slice (some ⟨w.heap.size + 1, 0, none⟩) 128 128] 35 0 _ rfl
      simpa using this
    rintro e w1 ⟨⟨A, n', c, rfl, hR⟩, hb1⟩
    have hb1' : Below (w.heap.size + 1) (w.alloc (.cells #[.slice none 0 0, .slice none 0 0, .int .i64 0, .bool false] 25)) w1 := (((Below.refl _ _).alloc (by simp) _).alloc (by simp) _).trans (hb1.mono (by simp <;> omega))
    have hy2 : Below ((w.alloc (.cells #[.slice none 0 0, .slice none 0 0, .int .i64 0, .bool false] 25)).alloc (.cells zero128 5)).heap.size ((w.alloc (.cells #[.slice none 0 0, .slice none 0 0, .int .i64 0, .bool false] 25)).alloc (.cells zero128 5)) w1 := ((Below.refl _ _).alloc (Nat.le_refl _) _).trans (hb1.mono (by simp))
    have HSE := Lib.hid (se_replicate (P := fun b => w.heap.size + 1 ≤ b) (hR.mono (fun b h => by simp at h; omega)) (HY.out.step hy2))
    obtain ⟨lc, lf, lz⟩ := below_at w.heap.size rfl hb1' (by omega)
    have l0 := lc 0
    have l1 := lc 1
    have l2 := lc 2
    have l3 := lc 3
    have f0 := lf 0
    have f1 := lf 1
    have f2 := lf 2
    have f3 := lf 3
    simp at l0 l1 l2 l3
    have G1 : Below w.heap.size w w1 := ((Below.refl _ _).alloc (Nat.le_refl _) _).trans (hb1'.mono (by omega))
    clear lc lf hb1 hb1' hy2 hR
    go_wp2_with fail
    have hc := put4_cells l0 l1 l2 l3 (.slice A n' c) (.slice none 0 0) (.int .i64 (-1)) (.bool false)
    have hk := put4_keep (W := w1) (b := w.heap.size) (.slice A n' c) (.slice none 0 0) (.int .i64 (-1)) (.bool false)
    have hB := put4_below G1 (Nat.le_refl _) (.slice A n' c) (.slice none 0 0) (.int .i64 (-1)) (.bool false)
    have hD : Di (put4 w1 w.heap.size (.slice A n' c) (.slice none 0 0) (.int .i64 (-1)) (.bool false)) (fun b => w.heap.size ≤ b) ⟨A, n', c⟩ ⟨none, 0, 0⟩ ⟨List.replicate k zeroSec, [], -1, false⟩ :=
      ⟨(HSE.out.keep (Kp.of_grown hk (by omega))).mono (fun b h => by omega), Pe.nil_ _ _⟩
    obtain ⟨c0, c1, c2, c3⟩ := hc
    unfold put4 at c0 c1 c2 c3
    exact bodyPost_ret (v := .tuple #[.agg #[.slice A n' c, .slice none 0 0, .int .i64 (-1), .bool false], .int .i64 0]) (by simp [results, Try.results25, go_sem, c0, c1, c2, c3]) rfl ⟨⟨⟨A, n', c⟩, ⟨none, 0, 0⟩, rfl, hD⟩, hB⟩
  · rw [newD_no h]
    have hc : decide (n < 1) = true ∨ (decide (n < 1) = false ∧ decide ((4096 : Int) < n) = true) := by simp; omega
    unfold Dk.zero dkV
    clear h
    rcases hc with d1 | ⟨d1, d2⟩
    all_goals
      go_enter Try.func25, Try.ntmps25
      go_wp2_with fail
      exact bodyPost_ret (v := .tuple #[.agg #[.slice none 0 0, .slice none 0 0, .int .i64 0, .bool false], .int .i64 1]) (by simp [results, Try.results25, go_sem]) rfl ⟨⟨⟨none, 0, 0⟩, ⟨none, 0, 0⟩, rfl, Di.zero _ _⟩, by go_grown⟩
end Go.Proofs.Ytgbkhmoplocmkaa
