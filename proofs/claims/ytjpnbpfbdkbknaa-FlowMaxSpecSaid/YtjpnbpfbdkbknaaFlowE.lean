/- math/bits.Mul at 1; slices.Repeat of one number. -/
import Derived.Test.YtjpnbpfbdkbknaaFlowD
import Derived.Laws.Bits64b
import Derived.Laws.MakeOwn
import Derived.Laws.CopyOwn
import Derived.Deep.RegionHeldLaw
import Derived.IntWalk
namespace Go.Proofs.Ytjpnbpfbdkbknaa
open Go.RowKit Go.Shelf
set_option linter.unusedSimpArgs false
set_option linter.unusedVariables false

def CellAt (W : World) (b o : Nat) (v : Value) : Prop := W.cell? ⟨b, o, none⟩ = some v ∧ b < W.heap.size
theorem CellAt.step {W W' : World} {b o : Nat} {v : Value} (h : CellAt W b o v) (hb : Below W.heap.size W W') : CellAt W' b o v :=
  ⟨(hb.cell (p := ⟨b, o, none⟩) h.2).trans h.1, Nat.lt_of_lt_of_le h.2 hb.size⟩
theorem Try.infoInt : (Try.prog.info? 3).map (fun i => (i.zero, i.size, i.bytes)) = some (some (.int .i64 0), 1, 8) := by kernel_rfl
theorem and_mask (n : Nat) (h : n ≤ 4096) : bits BinOp.and IntKind.u64 (n : Int) 4294967295 = (n : Int) := by
  have h1 := bits_and_u64_nat n 4294967295 (by omega) (by omega)
  have e : n &&& 4294967295 = n := by
    have := Nat.and_two_pow_sub_one_eq_mod n 32
    simp only [Nat.reducePow, Nat.reduceSub] at this
    rw [this]
    omega
  rw [e] at h1
  exact h1
theorem mul64_any (n : Nat) (h : n ≤ 4096) (w : World) :
    Calls Try.prog 45 #[.int .u64 1, .int .u64 n] w fun e w' => e = .returned (.tuple #[.int .u64 0, .int .u64 n]) ∧ w = w' := by
  have a1 : bits BinOp.and IntKind.u64 1 4294967295 = 1 := by decide
  have a2 := and_mask n h
  have a3 : bits BinOp.and IntKind.u64 0 4294967295 = 0 := by decide
  have a4 : (n : Int) / 4294967296 = 0 := by omega
  go_enter Try.func45, Try.ntmps45
  go_wp2_with fail
  go_ret2
  exact ⟨rfl, rfl⟩
theorem mul_any (n : Nat) (h : n ≤ 4096) (w : World) :
    Calls Try.prog 42 #[.int .u64 1, .int .u64 n] w fun e w' => e = .returned (.tuple #[.int .u64 0, .int .u64 n]) ∧ w = w' := by
  go_enter Try.func42, Try.ntmps42
  go_wp2_with fail
  refine (mul64_any n h _).mono ?_
  rintro e w1 ⟨rfl, rfl⟩
  go_wp2_with fail
  go_ret2
  exact ⟨rfl, rfl⟩

theorem made_one (x : Value) (n : Nat) (h : x.cells = #[x]) : madeCells x.cells n = (List.replicate n x).toArray := by
  apply Array.ext
  · simp [size_madeCells]
  · intro i h1 h2
    simp [madeCells, h, Nat.mod_one]
/-- k times a number, the rest zero -/
def slRow (s : Int) (k n : Nat) : List Value := List.replicate k (.int .i64 s) ++ List.replicate (n - k) (.int .i64 0)
theorem slRow_len (s : Int) {k n : Nat} (h : k ≤ n) : (slRow s k n).length = n := by simp [slRow]; omega
theorem slRow_splice (s : Int) {k m n : Nat} (h : k + m ≤ n) : splice (slRow s k n) k (List.replicate m (.int .i64 s)) = slRow s (k + m) n := by
  unfold splice slRow
  rw [List.take_left' (by simp), List.length_replicate, ← List.append_assoc, List.replicate_append_replicate, List.drop_append]
  simp
  omega
theorem slRow_get (s : Int) {k n j : Nat} (h : j < k) : (slRow s k n)[j]? = some (.int .i64 s) := by
  unfold slRow
  rw [List.getElem?_append_left (by simpa using h)]
  simp [h]
theorem made_nils (n : Nat) : madeCells (Value.int .i64 0).cells n = (slRow 0 0 n).toArray := by
  apply Array.ext
  · simp [size_madeCells, slRow]
  · intro i h1 h2
    simp [madeCells, slRow, Value.cells, Nat.mod_one]

theorem slRow_done {w : World} {g n : Nat} (v : Int) (h : w.heap[g]? = some (.cells (slRow v n n).toArray 3 (0, 0))) : FlAt w g (List.replicate n v) := by
  unfold FlAt
  rw [h]
  simp [slRow]
set_option maxHeartbeats 2000000 in
theorem repeat_any (v : Int) (b : Nat) (n : Nat) (h1 : 1 ≤ n) (hn : n ≤ 4096) (w : World) (hb : CellAt w b 0 (.int .i64 v)) :
    Calls Try.prog 40 #[.slice (some ⟨b, 0, none⟩) 1 1, .int .i64 n] w fun e w' => (e = .returned (.slice (some ⟨w.heap.size, 0, none⟩) n n) ∧ FlAt w' w.heap.size (List.replicate n v)) ∧ Below w.heap.size w w' := by
  obtain ⟨i0, hinf, hz0, hz1, hz2⟩ := info_parts Try.infoInt
  have hmk := fun W => run_make (P := Try.prog) W 23 3 i0 (.int .i64 0) Try.underlying23 hinf hz0 .i64 .i64 (n : Int) (n : Int) (by omega) (by omega) (by rw [hz2]; omega) (by omega)
  rw [hz1] at hmk
  simp only [Int.toNat_natCast, Nat.mul_one, made_nils] at hmk
  have hszE : (Try.prog.info? 3).map (·.size) = some 1 := by rw [hinf]; simp [hz1]
  have hsl1 := fun (k : Nat) (hk : k ≤ n) W => run_slice_from (P := Try.prog) Try.underlying23 hinf (some ⟨w.heap.size, 0, none⟩) n n .i64 (k : Int) (by omega) (by omega) W
  have hsl2 := fun (k : Nat) (hk : k ≤ n) W => run_slice_to (P := Try.prog) Try.underlying23 hinf (some ⟨w.heap.size, 0, none⟩) n n .i64 (k : Int) (by omega) (by omega) W
  rw [hz1] at hsl1
  have HS1 := Lib.hid hsl1
  have HS2 := Lib.hid hsl2
  have HZ := Lib.hid hszE
  clear hinf hz0 hz1 hz2 hsl1 hsl2 hszE
  obtain ⟨row, hrow⟩ : ∃ row, row = slRow 0 0 n := ⟨_, rfl⟩
  rw [← hrow] at hmk
  have hrl : row.length = n := by rw [hrow]; exact slRow_len _ (Nat.zero_le _)
  have HRW := Lib.hid hrow
  have HRL := Lib.hid hrl
  clear hrow hrl
  have HBC := Lib.hid hb
  clear hb
  have hmn : min 1 n = 1 := by omega
  have HMN := Lib.hid hmn
  clear hmn
  go_enter Try.func40, Try.ntmps40
  go_wp2_with fail
  refine (mul_any n hn _).mono ?_
  rintro e w1 ⟨rfl, rfl⟩
  go_wp2_with (refine wpList_copy_splice rfl (.tmp 31) (.tmp 32) _ _ rfl 3 Try.underlying23 HZ.out (some ⟨w.heap.size, 0, none⟩) (some ⟨b, 0, none⟩) n n 1 1 rfl rfl w.heap.size 0 row _ (heap_alloc_new w _) [.int .i64 v] HMN.out.symm ?c1 ?c2 ?c3 w.heap.size w ((Below.refl _ _).alloc (Nat.le_refl _) _) (Nat.le_refl _) ?_)
  case c1 =>
    intro j u hj
    match j with
    | 0 =>
      simp at hj
      subst hj
      have := ((Below.refl w.heap.size w).alloc (Nat.le_refl _) (.cells row.toArray 3)).cell (p := ⟨b, 0, none⟩) HBC.out.2
      simpa [Go.WideShapes.add_plain] using this.trans HBC.out.1
    | j + 1 => simp at hj
  case c2 => rw [HRL.out]; simp; omega
  case c3 => intro u hu; simp at hu; subst hu; rfl
  intro w2 hg2 hb2
  have hr2 : splice row 0 [.int .i64 v] = slRow v 1 n := by
    have := slRow_splice v (k := 0) (m := 1) (n := n) (by omega)
    rw [HRW.out]
    simpa [slRow] using this
  have HG2 : Hid (w2.heap[w.heap.size]? = some (.cells (slRow v 1 n).toArray 3 (0, 0))) := Lib.hid (by rw [← hr2]; exact hg2.out)
  clear hg2 hr2
  go_wp2_with fail
  go_loopw [8] (fun i wr => ∃ k : Nat, 1 ≤ k ∧ k ≤ n ∧ i = .int .i64 k ∧ wr.heap[w.heap.size]? = some (.cells (slRow v k n).toArray 3 (0, 0)) ∧ Below w.heap.size w wr) (fun i _ => n - (intOf i).toNat)
  case atStart => exact ⟨1, Nat.le_refl _, h1, rfl, HG2.out, hb2⟩
  case round =>
    clear hb2 HG2
    obtain ⟨k, hk1, hk, rfl, hgr, hB⟩ := hrel
    have HGR := Lib.hid hgr
    have HB := Lib.hid hB
    clear hgr hB
    by_cases hlt : k < n
    · have hs1 := HS1.out k hk
      have hs2 := HS2.out k hk
      simp only [if_neg (show ¬ n = (k : Int).toNat by simp; omega), Option.map_some, Go.WideShapes.add_plain, Int.toNat_natCast, Nat.mul_one, Nat.zero_add] at hs1
      simp only [Int.toNat_natCast] at hs2
      obtain ⟨m, hm⟩ : ∃ m, m = min k (n - k) := ⟨_, rfl⟩
      have hm1 : 1 ≤ m ∧ k + m ≤ n := by omega
      have hnk : ¬ n = k := by omega
      have HM := Lib.hid hm
      obtain ⟨hm1, hm2⟩ := hm1
      have hmk2 : m ≤ k := by omega
      clear hm
      have CPY : Hid (∀ j u, (List.replicate m (Value.int .i64 v))[j]? = some u → wr.drew.cell? ((⟨w.heap.size, 0, none⟩ : Addr).add j) = some u) := Lib.hid (fun j u hj => by
        rw [Go.WideShapes.add_plain, Nat.zero_add]
        have hjm : j < m := by have := (List.getElem?_eq_some_iff.1 hj).1; simpa using this
        rw [List.getElem?_replicate, if_pos hjm] at hj
        injection hj with hj
        subst hj
        have h3 := slRow_get v (n := n) (show j < k by omega)
        show wr.cell? _ = _
        simp only [World.cell?, HGR.out]
        simpa using h3)
      go_wp2_with fail
      go_region_held_law (fun _ => True) (trivial) ((refine step_copy_splice (by rfl) (.tmp 41) (.tmp 44) _ _ (by rfl) 3 Try.underlying23 HZ.out (some ⟨w.heap.size, k, none⟩) (some ⟨w.heap.size, 0, none⟩) (n - k) (n - k) k n (by rfl) (by rfl) w.heap.size k (slRow v k n) 3 HGR.out (List.replicate m (.int .i64 v)) (by rw [List.length_replicate]; exact HM.out) (fun _ => ⟨rfl, _, rfl, fun j u hj => CPY.out j u hj⟩) (by rw [List.length_replicate, slRow_len v hk]; exact hm2) (fun u hu => by rw [(List.mem_replicate.1 hu).2]; rfl) w.heap.size w HB.out.drew (Nat.le_refl _) ?_; intro w4 hg4 hb4))
      have HG4 : Hid (w4.heap[w.heap.size]? = some (.cells (slRow v (k + m) n).toArray 3 (0, 0))) := Lib.hid (by rw [← slRow_splice v hm2]; exact hg4.out)
      clear hg4
      have hwr : IntKind.i64.wrap ((k : Int) + (m : Int)) = (k : Int) + (m : Int) := IntWalk.i64_in _ (by omega)
      go_simp
      go_wp2_with fail
      go_roundw
      case rel => exact ⟨k + m, by omega, hm2, by simp [hwr], HG4.out, hb4⟩
      case measure => simp [intOf, hwr]; omega
    · obtain rfl : k = n := by omega
      go_wp2_with fail
      go_ret
      exact ⟨⟨rfl, slRow_done v HGR.out⟩, HB.out⟩

end Go.Proofs.Ytjpnbpfbdkbknaa
