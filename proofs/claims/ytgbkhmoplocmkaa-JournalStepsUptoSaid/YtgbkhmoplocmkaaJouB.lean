/- Journals: bytes in a whole block; put, numeral. -/
import Derived.Test.YtgbkhmoplocmkaaJouA
import Derived.Test.YtgbkhmoplocmkaaDskL
import Derived.Laws.Rows
import Derived.Laws.MakeOwn
namespace Go.Proofs.Ytgbkhmoplocmkaa
open Go.RowKit Go.Shelf
set_option linter.unusedSimpArgs false
set_option linter.unusedVariables false
set_option maxRecDepth 20000

/-- bytes that fill a block -/
def Bk (w : World) (t : TypeId) (F : Nat) (xs : List Int) : Prop := w.heap[F]? = some (.cells (xs.map (Value.int .u8)).toArray t (0, 0))
section
variable {w w' : World} {t : TypeId} {F : Nat} {xs : List Int}
theorem Bk.lt (h : Bk w t F xs) : F < w.heap.size := (Array.getElem?_eq_some_iff.1 h).1
theorem Bk.step (h : Bk w t F xs) (hb : Below w.heap.size w w') : Bk w' t F xs := (hb.block F h.lt).trans h
theorem Bk.cell (h : Bk w t F xs) {i : Nat} (hi : i < xs.length) : w.cell? ⟨F, i, none⟩ = some (.int .u8 (xs.getD i 0)) := by
  unfold Bk at h
  simp [World.cell?, h, List.getD_eq_getElem?_getD, List.getElem?_eq_getElem hi]
theorem Bk.free (h : Bk w t F xs) (i : Nat) : w.frozen? ⟨F, i, none⟩ = false := by
  unfold Bk at h
  simp [World.frozen?, h]
theorem Bk.set (h : Bk w t F xs) (i : Nat) (v : Int) : Bk (w.setCell ⟨F, i, none⟩ (.int .u8 v)) t F (xs.set i v) := by
  unfold Bk at *
  rw [heap_setCell_same w F i _ _ _ h]
  congr 2
  apply Array.ext'
  simp [List.map_set]
/-- a part of it, as a slice -/
theorem Bk.by_ (h : Bk w t F xs) (off n c : Nat) (hn : off + n ≤ xs.length) (hc : n ≤ c) (hm : c ≤ maxLen) (P : Nat → Prop) (hP : P F) (hx : ∀ b ∈ xs, 0 ≤ b ∧ b < 256) :
    By w P ⟨some ⟨F, off, none⟩, n, c⟩ ((xs.drop off).take n) := by
  refine ⟨⟨by simp; omega, hc, hm, (fun h => by cases h), fun hp => ⟨F, off, rfl, h.lt, fun i x j v hi hj => ?_⟩, fun _ a e => by cases e; exact hP⟩, fun b hb => hx b (List.mem_of_mem_drop (List.mem_of_mem_take hb))⟩
  rw [List.getElem?_take] at hi
  split at hi
  case isFalse => cases hi
  case isTrue hlt =>
    rw [List.getElem?_drop] at hi
    cases j with
    | succ j => simp [byteE] at hj
    | zero =>
      simp [byteE] at hj
      subst hj
      have := h.cell (i := off + i) (by omega)
      rw [List.getD_eq_getElem?_getD, hi] at this
      simpa using this
end

/-- the bytes of a number, the most significant first -/
def beB (n : Int) : Nat → List Int
  | 0 => []
  | k + 1 => n / 256 ^ k % 256 :: beB n k
theorem beB_len (n : Int) : ∀ k, (beB n k).length = k
  | 0 => rfl
  | k + 1 => by simp [beB, beB_len n k]
theorem beB_byte (n : Int) : ∀ k, ∀ b ∈ beB n k, 0 ≤ b ∧ b < 256
  | 0, b, h => by simp [beB] at h
  | k + 1, b, h => by
    simp only [beB, List.mem_cons] at h
    rcases h with rfl | h
    · omega
    · exact beB_byte n k b h
/-- bytes laid over others -/
def layB (xs : List Int) (off : Nat) (ys : List Int) : List Int := xs.take off ++ (ys ++ xs.drop (off + ys.length))
theorem layB_len {xs : List Int} {off : Nat} {ys : List Int} (h : off + ys.length ≤ xs.length) : (layB xs off ys).length = xs.length := by
  unfold layB
  simp
  omega
theorem layB_nil (xs : List Int) (off : Nat) : layB xs off [] = xs := by simp [layB]
/-- one byte more, ahead of those that were laid -/
theorem layB_cons {xs : List Int} {off : Nat} {ys : List Int} (v : Int) (h : off + 1 + ys.length ≤ xs.length) : (layB xs (off + 1) ys).set off v = layB xs off (v :: ys) := by
  unfold layB
  rw [List.take_add_one, List.getElem?_eq_getElem (by omega)]
  simp only [Option.toList_some, List.append_assoc]
  rw [List.set_append_right _ _ (by simp; omega)]
  simp only [List.length_take, List.length_cons, Nat.min_eq_left (by omega : off ≤ xs.length), Nat.sub_self]
  simp
  rw [show off + 1 + ys.length = off + (ys.length + 1) by omega]
theorem layB_byte {xs : List Int} {off : Nat} {ys : List Int} (h1 : ∀ b ∈ xs, 0 ≤ b ∧ b < 256) (h2 : ∀ b ∈ ys, 0 ≤ b ∧ b < 256) : ∀ b ∈ layB xs off ys, 0 ≤ b ∧ b < 256 := by
  intro b hb
  unfold layB at hb
  simp only [List.mem_append] at hb
  rcases hb with h | h | h
  · exact h1 b (List.mem_of_mem_take h)
  · exact h2 b h
  · exact h1 b (List.mem_of_mem_drop h)

set_option maxHeartbeats 2000000 in
theorem put_any {t : TypeId} {F : Nat} {xs : List Int} (off m c : Nat) (n : Int) (w : World) (h : Bk w t F xs) (hm : off + m ≤ xs.length) (h8 : m ≤ 8) (hn : 0 ≤ n ∧ n < 18446744073709551616) :
    Calls Try.prog 64 #[.slice (some ⟨F, off, none⟩) m c, .int .u64 n] w fun e w' => e = .returned (.tuple #[]) ∧ Bk w' t F (layB xs off (beB n m)) ∧ Below F w w' := by
  have HB := Lib.hid h
  have HN := Lib.hid hn
  clear h hn
  go_enter Try.func64, Try.ntmps64
  go_wp2_with fail
  go_loopw [7] (fun i wr => ∃ k : Nat, k ≤ m ∧ i = .int .i64 k ∧ Bk wr t F (layB xs (off + (m - k)) (beB n k)) ∧ Below F w wr) (fun i _ => m - (intOf i).toNat)
  case atStart => exact ⟨0, Nat.zero_le _, rfl, by rw [beB, layB_nil]; exact HB.out, Below.refl _ _⟩
  case round =>
    obtain ⟨k, hk, rfl, hb, hw⟩ := hrel
    by_cases hlt : k < m
    · have hl : (layB xs (off + (m - k)) (beB n k)).length = xs.length := layB_len (by rw [beB_len]; omega)
      have hf0 := hb.free (off + (m - 1 - k))
      have hc0 := hb.cell (i := off + (m - 1 - k)) (by omega)
      have hbl := hb.lt
      have HK := Lib.hid hb
      have HW := Lib.hid hw
      have HL := Lib.hid hl
      clear hb hw hl
      generalize (layB xs (off + (m - k)) (beB n k)).getD (off + (m - 1 - k)) 0 = u0 at hc0
      go_wp2_with fail
      have hv : n / 2 ^ (8 * k) % 256 = n / 256 ^ k % 256 := by rw [Int.pow_mul]; rfl
      go_roundw
      case rel =>
        refine ⟨k + 1, by omega, by go_num, ?_, HW.out.setCell (Nat.le_refl _) _⟩
        have h1 := HK.out.set (off + (m - 1 - k)) (n / 2 ^ (8 * k) % 256)
        rw [show off + (m - k) = off + (m - 1 - k) + 1 by omega, layB_cons _ (by rw [beB_len]; omega)] at h1
        rw [show off + (m - (k + 1)) = off + (m - 1 - k) by omega, beB, ← hv]
        exact h1
      case measure => simp [intOf]; omega
    · obtain rfl : k = m := by omega
      have hb2 : Bk wr t F (layB xs off (beB n k)) := by simpa using hb
      go_wp2_with fail
      go_end0
      exact ⟨rfl, hb2, hw⟩

/-- make([]byte, n) -/
def zeroRow (n : Nat) : Array Value := ((List.replicate n (0 : Int)).map (Value.int .u8)).toArray
theorem made_bytes (n : Nat) : madeCells (Value.int .u8 0).cells n = zeroRow n := by
  unfold zeroRow
  apply Array.ext
  · simp [size_madeCells]
  · intro i h1 h2
    simp [madeCells, Value.cells, Nat.mod_one]
theorem run_make_bytes (n : Nat) (hn : n ≤ 1000000) (W : World) : (Instr.makeSlice 35 (.int .i64 n) (.int .i64 n)).run Try.prog W = .ok (.slice (some ⟨W.heap.size, 0, none⟩) n n) (W.alloc (.cells (zeroRow n) 5)) := by
  obtain ⟨i0, hinf, hz0, hz1, hz2⟩ := info_parts Try.infoByte
  have h := run_make (P := Try.prog) W 35 5 i0 (.int .u8 0) Try.underlying35 hinf hz0 .i64 .i64 (n : Int) (n : Int) (by omega) (by omega) (by rw [hz2]; omega) (by omega)
  rw [hz1] at h
  simp only [Int.toNat_natCast, Nat.mul_one, made_bytes] at h
  exact h
theorem Bk.made (w : World) (t : TypeId) (xs : List Int) : Bk (w.alloc (.cells (xs.map (Value.int .u8)).toArray t)) t w.heap.size xs := heap_alloc_new w _
theorem zeros_byte (n : Nat) : ∀ b ∈ List.replicate n (0 : Int), 0 ≤ b ∧ b < 256 := by
  intro b hb
  obtain ⟨_, rfl⟩ := List.mem_replicate.1 hb
  omega
theorem layB_all {xs ys : List Int} (h : ys.length = xs.length) : layB xs 0 ys = ys := by
  unfold layB
  rw [Nat.zero_add, h, List.drop_length]
  simp

set_option maxHeartbeats 2000000 in
theorem numeral_any (m : Nat) (n : Int) (w : World) (h8 : m ≤ 8) (hn : 0 ≤ n ∧ n < 18446744073709551616) :
    Calls Try.prog 66 #[.int .u64 n, .int .i64 m] w fun e w' => e = .returned (.slice (some ⟨w.heap.size, 0, none⟩) m m) ∧ Bk w' 5 w.heap.size (beB n m) ∧ Below w.heap.size w w' := by
  have hmk := run_make_bytes m (by omega)
  have HB : Hid (Bk (w.alloc (.cells (zeroRow m) 5)) 5 w.heap.size (List.replicate m 0)) := Lib.hid (Bk.made w _ _)
  have HW : Hid (Below w.heap.size w (w.alloc (.cells (zeroRow m) 5))) := Lib.hid ((Below.refl _ _).alloc (by omega) _)
  have HN := Lib.hid hn
  clear hn
  go_enter Try.func66, Try.ntmps66
  go_wp2_with fail
  go_loopw [0, 6] (fun u i wr => ∃ k : Nat, k ≤ m ∧ i = .int .i64 ((m : Int) - 1 - k) ∧ u = .int .u64 (n / 256 ^ k) ∧ Bk wr 5 w.heap.size (layB (List.replicate m 0) (m - k) (beB n k)) ∧ Below w.heap.size w wr) (fun u i _ => (intOf i + 1).toNat)
  case atStart => exact ⟨0, Nat.zero_le _, by simp, by simp, by rw [beB, layB_nil]; exact HB.out, HW.out⟩
  case round =>
    obtain ⟨k, hk, rfl, rfl, hb, hw⟩ := hrel
    by_cases hlt : k < m
    · have hl : (layB (List.replicate m 0) (m - k) (beB n k)).length = m := by rw [layB_len (by rw [beB_len]; simp; omega)]; simp
      have hf0 := hb.free (m - 1 - k)
      have hc0 := hb.cell (i := m - 1 - k) (by omega)
      have hbl := hb.lt
      have HK := Lib.hid hb
      have HW2 := Lib.hid hw
      have hdv : n / 256 ^ k / 256 = n / 256 ^ (k + 1) := by rw [Int.pow_succ, Int.ediv_ediv_of_nonneg (Int.le_of_lt (Int.pow_pos (by omega)))]
      obtain ⟨q, hq⟩ : ∃ q, q = n / 256 ^ k := ⟨_, rfl⟩
      have hq0 : 0 ≤ q ∧ q < 18446744073709551616 := by
        rw [hq]
        exact ⟨Int.ediv_nonneg HN.out.1 (Int.le_of_lt (Int.pow_pos (by omega))), Int.lt_of_le_of_lt (Int.ediv_le_self _ HN.out.1) HN.out.2⟩
      have hmod : q.tmod 256 = q % 256 := Int.tmod_eq_emod_of_nonneg hq0.1
      have hdiv : q.tdiv 256 = q / 256 := Int.tdiv_eq_ediv_of_nonneg hq0.1
      have hw1 : IntKind.u64.wrap (q % 256) = q % 256 := by rw [IntKind.wrap_u64]; omega
      have hw3 : IntKind.u64.wrap (q / 256) = q / 256 := by rw [IntKind.wrap_u64]; omega
      obtain ⟨j, hj⟩ : ∃ j, j = m - 1 - k := ⟨_, rfl⟩
      have hji : (m : Int) - 1 - k = j := by omega
      rw [← hq]
      rw [hji]
      rw [← hj] at hf0 hc0
      rw [← hq] at hdv
      have HL := Lib.hid hl
      have HQ := Lib.hid hq
      have HJ := Lib.hid hj
      have HJI := Lib.hid hji
      have HD := Lib.hid hdv
      have hjm : j < m := by omega
      clear hb hw hl hq hj hji hdv
      generalize (layB (List.replicate m 0) (m - k) (beB n k)).getD j 0 = u0 at hc0
      go_wp2_with fail
      go_roundw
      case rel =>
        refine ⟨k + 1, by omega, by have := HJI.out; rw [show ((j : Int) - 1) = (m : Int) - 1 - ((k + 1 : Nat) : Int) by omega], by rw [HD.out], ?_, HW2.out.setCell (Nat.le_refl _) _⟩
        have h1 := HK.out.set j (q % 256)
        have hj := HJ.out
        rw [show m - k = j + 1 by omega, layB_cons _ (by rw [beB_len, List.length_replicate]; omega)] at h1
        rw [show m - (k + 1) = j by omega, beB, ← HQ.out]
        exact h1
      case measure => simp [intOf]
    · obtain rfl : k = m := by omega
      have hb2 : Bk wr 5 w.heap.size (beB n k) := by simpa [layB_all (xs := List.replicate k 0) (ys := beB n k) (by rw [beB_len]; simp)] using hb
      go_wp2_with fail
      go_ret
      exact ⟨rfl, hb2, hw⟩
end Go.Proofs.Ytgbkhmoplocmkaa
