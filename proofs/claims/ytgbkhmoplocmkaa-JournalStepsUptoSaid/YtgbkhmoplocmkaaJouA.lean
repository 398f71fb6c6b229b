/- Journals: checksums and numbers of bytes, as plain functions, and the functions of both sides that compute them. -/
import Derived.Test.YtgbkhmoplocmkaaDskA
import Derived.Laws.BitsAllLaws
namespace Go.Proofs.Ytgbkhmoplocmkaa
open Go.RowKit Go.Shelf
set_option linter.unusedSimpArgs false
set_option linter.unusedVariables false
set_option maxRecDepth 20000

def xor32 (a b : Int) : Int := bits .xor .u32 a b
def stepC (n : Int) : Int := if n % 2 = 1 then xor32 (n / 2) 3988292384 else n / 2
def iterC : Nat → Int → Int
  | 0, n => n
  | k + 1, n => stepC (iterC k n)
def byteC (n c : Int) : Int := iterC 8 (xor32 n c)
def crcG (bs : List Int) : Int := bs.foldl byteC 4294967295
def sumB (bs : List Int) : Int := xor32 (crcG bs) 4294967295
def numB (bs : List Int) : Int := bs.foldl (fun n c => 256 * n + c) 0

def U32 (n : Int) : Prop := 0 ≤ n ∧ n < 4294967296
theorem xor32_range (a b : Int) : U32 (xor32 a b) := by
  have h : xor32 a b = IntKind.u32.wrap ((BitVec.ofInt 32 a ^^^ BitVec.ofInt 32 b).toNat : Int) := rfl
  rw [h, IntKind.wrap_u32']
  unfold U32
  omega
theorem xor32_nat {a b : Int} (ha : U32 a) (hb : U32 b) : xor32 a b = ((a.toNat ^^^ b.toNat : Nat) : Int) := u32_xor a b ha.1 ha.2 hb.1 hb.2
theorem half_range {n : Int} (h : U32 n) : U32 (n / 2) := by unfold U32 at *; omega
theorem stepC_range {n : Int} (h : U32 n) : U32 (stepC n) := by
  unfold stepC
  split
  · exact xor32_range _ _
  · exact half_range h
theorem iterC_range {n : Int} (h : U32 n) : ∀ k, U32 (iterC k n)
  | 0 => h
  | k + 1 => stepC_range (iterC_range h k)
theorem byteC_range (n c : Int) : U32 (byteC n c) := iterC_range (xor32_range _ _) 8
theorem crcG_from (n : Int) (h : U32 n) : ∀ bs : List Int, U32 (bs.foldl byteC n)
  | [] => h
  | b :: bs => crcG_from _ (byteC_range n b) bs
theorem crcG_range (bs : List Int) : U32 (crcG bs) := crcG_from _ (by unfold U32; omega) bs
theorem sumB_range (bs : List Int) : U32 (sumB bs) := xor32_range _ _
theorem and_one {n : Int} (h : U32 n) : bits .and .u32 n 1 = n % 2 := by
  have hh : 0 ≤ n ∧ n < 4294967296 := h
  rw [u32_and n 1 hh.1 hh.2 (by omega) (by omega)]
  have : n.toNat &&& (1 : Int).toNat = n.toNat % 2 := by simp [Nat.and_one_is_mod]
  rw [this]
  omega
theorem xor32_zero {n : Int} (h : U32 n) : xor32 n 0 = n := by
  have hh : 0 ≤ n ∧ n < 4294967296 := h
  rw [xor32_nat h (by unfold U32; omega)]
  simp
  omega
/-- the program's step -/
theorem step_eq {n : Int} (h : U32 n) : bits .xor .u32 (n / 2) (3988292384 * bits .and .u32 n 1 % 4294967296) = stepC n := by
  rw [and_one h]
  unfold stepC
  have hh : 0 ≤ n ∧ n < 4294967296 := h
  rcases (by omega : n % 2 = 0 ∨ n % 2 = 1) with e | e
  · rw [e, if_neg (by omega)]
    exact xor32_zero (half_range h)
  · rw [e, if_pos rfl]
    rfl
theorem max_xor {n : Int} (h : U32 n) : bits .xor .u32 IntKind.u32.max n = xor32 n 4294967295 := by
  have hm : U32 4294967295 := by unfold U32; omega
  have e : bits .xor .u32 IntKind.u32.max n = xor32 4294967295 n := rfl
  rw [e, xor32_nat hm h, xor32_nat h hm, Nat.xor_comm]
theorem or_byte {m x : Int} (hm : 0 ≤ m ∧ m < 72057594037927936) (hx : 0 ≤ x ∧ x < 256) : bits .or .u64 (IntKind.u64.wrap (m * 256)) x = 256 * m + x := by
  have hw : IntKind.u64.wrap (m * 256) = m * 256 := by rw [IntKind.wrap_u64]; omega
  rw [hw, u64_or _ _ (by omega) (by omega) (by omega) (by omega)]
  have h1 : (m * 256).toNat = m.toNat <<< 8 := by rw [Nat.shiftLeft_eq]; omega
  rw [h1, ← Nat.shiftLeft_add_eq_or_of_lt (by omega), Nat.shiftLeft_eq]
  omega
theorem iterC_succ' (n : Int) : ∀ k, iterC (k + 1) n = stepC (iterC k n) := fun _ => rfl
theorem foldl_take_succ {α β : Type} (f : β → α → β) (b : β) {xs : List α} {k : Nat} {x : α} (h : xs[k]? = some x) : (xs.take (k + 1)).foldl f b = f ((xs.take k).foldl f b) x := by
  rw [List.take_add_one, h, List.foldl_append]
  rfl
theorem By.len {w : World} {P : Nat → Prop} {s : Sl} {bs : List Int} (h : By w P s bs) : bs.length = s.n ∧ bs.length ≤ s.c ∧ s.c ≤ maxLen := ⟨h.1.1.symm, by have := h.1.1; have := h.1.2.1; omega, h.1.2.2.1⟩
theorem By.le {w : World} {P : Nat → Prop} {s : Sl} {bs : List Int} (h : By w P s bs) : bs.length ≤ 9223372036854775807 := by
  have := h.len
  unfold maxLen at this
  omega
theorem By.at_ {w : World} {P : Nat → Prop} {s : Sl} {bs : List Int} (h : By w P s bs) {k : Nat} (hk : k < bs.length) : ∃ b off x, s.a = some ⟨b, off, none⟩ ∧ b < w.heap.size ∧ bs[k]? = some x ∧ 0 ≤ x ∧ x < 256 ∧ w.cell? ⟨b, off + k, none⟩ = some (.int .u8 x) := by
  obtain ⟨b, off, x, e, hb, hx, hc⟩ := h.1.reads.at_ hk
  have := hc 0 _ rfl
  simp only [Nat.mul_one, Nat.add_zero] at this
  have hr := h.2 x (List.mem_of_getElem? hx)
  exact ⟨b, off, x, e, hb, hx, hr.1, hr.2, this⟩

theorem numB_from : ∀ (bs : List Int) (n : Int), 0 ≤ n → (∀ b ∈ bs, 0 ≤ b ∧ b < 256) → 0 ≤ bs.foldl (fun n c => 256 * n + c) n ∧ bs.foldl (fun n c => 256 * n + c) n + 1 ≤ (n + 1) * 256 ^ bs.length
  | [], n, hn, _ => by simp; omega
  | b :: bs, n, hn, h => by
    have h2 := h b (by simp)
    have h1 := numB_from bs (256 * n + b) (by omega) (fun x hx => h x (by simp [hx]))
    refine ⟨h1.1, Int.le_trans h1.2 ?_⟩
    rw [List.length_cons, Int.pow_succ, Int.mul_comm (256 ^ bs.length) 256, ← Int.mul_assoc]
    exact Int.mul_le_mul_of_nonneg_right (by omega) (Int.le_of_lt (Int.pow_pos (by omega)))
theorem numB_lt (bs : List Int) (h : ∀ b ∈ bs, 0 ≤ b ∧ b < 256) : 0 ≤ numB bs ∧ numB bs < 256 ^ bs.length := by
  have := numB_from bs 0 (by omega) h
  unfold numB
  omega
theorem numB_lt7 (bs : List Int) (h : ∀ b ∈ bs, 0 ≤ b ∧ b < 256) (hl : bs.length ≤ 7) : 0 ≤ numB bs ∧ numB bs < 72057594037927936 := by
  have h1 := numB_lt bs h
  have h2 : (256 : Int) ^ bs.length ≤ 256 ^ 7 := by
    have := Nat.pow_le_pow_right (n := 256) (by omega) hl
    exact_mod_cast this
  omega
theorem numB_snoc {bs : List Int} {k : Nat} {x : Int} (h : bs[k]? = some x) : numB (bs.take (k + 1)) = 256 * numB (bs.take k) + x := foldl_take_succ _ _ h

set_option maxHeartbeats 2000000 in
theorem sum_any {P : Nat → Prop} (v : Sl) (bs : List Int) (w : World) (h : By w P v bs) :
    Calls Try.prog 65 #[.slice v.a v.n v.c] w fun e w' => e = .returned (.int .u32 (sumB bs)) ∧ w = w' := by
  obtain ⟨A, n, c⟩ := v
  have hl := h.le
  obtain rfl : n = bs.length := h.1.1
  have HB := Lib.hid h
  clear h
  simp only
  go_enter Try.func65, Try.ntmps65
  go_wp2_with fail
  go_loopw [3, 8] (fun n i wr => ∃ k : Nat, k ≤ bs.length ∧ i = .int .i64 k ∧ n = .int .u32 ((bs.take k).foldl byteC 4294967295) ∧ w = wr) (fun n i _ => bs.length - (intOf i).toNat)
  case atStart => exact ⟨0, Nat.zero_le _, rfl, rfl, rfl⟩
  case round =>
    obtain ⟨k, hk, rfl, rfl, rfl⟩ := hrel
    by_cases hlt : k < bs.length
    · obtain ⟨b, off, x, ha, hbl, hxk, hx0, hx1, hc⟩ := HB.out.at_ hlt
      simp only at ha
      subst ha
      obtain ⟨m, hm⟩ : ∃ m, m = (bs.take k).foldl byteC 4294967295 := ⟨_, rfl⟩
      rw [← hm]
      have hcv : IntKind.u32.wrap x = x := by rw [IntKind.wrap_u32']; omega
      have HM := Lib.hid hm
      have HX := Lib.hid hxk
      clear hm hxk
      go_wp2_with fail
      obtain ⟨y, hy⟩ : ∃ y, y = bits BinOp.xor IntKind.u32 m x := ⟨_, rfl⟩
      rw [← hy]
      have hy0 : U32 y := hy ▸ xor32_range m x
      have HY := Lib.hid hy
      clear hy
      go_loopw [3, 16] (fun n i wr => ∃ j : Nat, j ≤ 8 ∧ i = .int .i64 j ∧ n = .int .u32 (iterC j y) ∧ w = wr) (fun n i _ => 8 - (intOf i).toNat)
      case atStart => exact ⟨0, by omega, rfl, rfl, rfl⟩
      case round =>
        obtain ⟨j, hj, rfl, rfl, rfl⟩ := hrel
        by_cases hlt2 : j < 8
        · have hi0 := iterC_range hy0 j
          obtain ⟨q, hq⟩ : ∃ q, q = iterC j y := ⟨_, rfl⟩
          rw [← hq] at hi0 ⊢
          have HI := Lib.hid hi0
          have HQ := Lib.hid hq
          clear hi0 hq
          go_wp2_with fail
          go_roundw
          case rel => exact ⟨j + 1, by omega, by go_num, by rw [step_eq HI.out, HQ.out]; rfl, trivial⟩
          case measure => simp [intOf]; omega
        · obtain rfl : j = 8 := by omega
          go_wp2_with fail
          go_roundw
          case rel => exact ⟨k + 1, by omega, by go_num, by rw [foldl_take_succ _ _ HX.out, ← HM.out]; show _ = Value.int .u32 (iterC 8 (bits .xor .u32 m x)); rw [← HY.out], trivial⟩
          case measure => simp [intOf]; omega
    · obtain rfl : k = bs.length := by omega
      go_wp2_with fail
      go_ret
      exact ⟨ret_int (by
        exact max_xor (crcG_range bs)), rfl⟩

set_option maxHeartbeats 2000000 in
theorem get_any {P : Nat → Prop} (v : Sl) (bs : List Int) (w : World) (h : By w P v bs) (h8 : bs.length ≤ 7) :
    Calls Try.prog 41 #[.slice v.a v.n v.c] w fun e w' => e = .returned (.int .u64 (numB bs)) ∧ w = w' := by
  obtain ⟨A, n, c⟩ := v
  obtain rfl : n = bs.length := h.1.1
  have HB := Lib.hid h
  clear h
  simp only
  go_enter Try.func41, Try.ntmps41
  go_wp2_with fail
  go_loopw [2, 7] (fun n i wr => ∃ k : Nat, k ≤ bs.length ∧ i = .int .i64 k ∧ n = .int .u64 (numB (bs.take k)) ∧ w = wr) (fun n i _ => bs.length - (intOf i).toNat)
  case atStart => exact ⟨0, Nat.zero_le _, rfl, rfl, rfl⟩
  case round =>
    obtain ⟨k, hk, rfl, rfl, rfl⟩ := hrel
    by_cases hlt : k < bs.length
    · obtain ⟨b, off, x, ha, hbl, hxk, hx0, hx1, hc⟩ := HB.out.at_ hlt
      simp only at ha
      subst ha
      have hm7 := numB_lt7 (bs.take k) (fun b hb => HB.out.2 b (List.mem_of_mem_take hb)) (by simp; omega)
      obtain ⟨m, hm⟩ : ∃ m, m = numB (bs.take k) := ⟨_, rfl⟩
      rw [← hm] at hm7 ⊢
      have HM := Lib.hid hm
      have HX := Lib.hid hxk
      have H7 := Lib.hid hm7
      clear hm hxk hm7
      go_wp2_with fail
      go_roundw
      case rel => exact ⟨k + 1, by omega, by go_num, by rw [or_byte H7.out ⟨hx0, hx1⟩, numB_snoc HX.out, HM.out], trivial⟩
      case measure => simp [intOf]; omega
    · obtain rfl : k = bs.length := by omega
      go_wp2_with fail
      go_ret
      exact ⟨by simp, rfl⟩

set_option maxHeartbeats 2000000 in
theorem number_any {P : Nat → Prop} (v : Sl) (bs : List Int) (w : World) (h : By w P v bs) (h8 : bs.length ≤ 7) :
    Calls Try.prog 63 #[.slice v.a v.n v.c] w fun e w' => e = .returned (.int .u64 (numB bs)) ∧ w = w' := by
  obtain ⟨A, n, c⟩ := v
  obtain rfl : n = bs.length := h.1.1
  have HB := Lib.hid h
  clear h
  simp only
  go_enter Try.func63, Try.ntmps63
  go_wp2_with fail
  go_loopw [3, 4] (fun n i wr => ∃ k : Nat, k ≤ bs.length ∧ i = .int .i64 k ∧ n = .int .u64 (numB (bs.take k)) ∧ w = wr) (fun n i _ => bs.length - (intOf i).toNat)
  case atStart => exact ⟨0, Nat.zero_le _, rfl, rfl, rfl⟩
  case round =>
    obtain ⟨k, hk, rfl, rfl, rfl⟩ := hrel
    by_cases hlt : k < bs.length
    · obtain ⟨b, off, x, ha, hbl, hxk, hx0, hx1, hc⟩ := HB.out.at_ hlt
      simp only at ha
      subst ha
      have hm7 := numB_lt7 (bs.take k) (fun b hb => HB.out.2 b (List.mem_of_mem_take hb)) (by simp; omega)
      obtain ⟨m, hm⟩ : ∃ m, m = numB (bs.take k) := ⟨_, rfl⟩
      rw [← hm] at hm7 ⊢
      have hw1 : IntKind.u64.wrap (256 * m) = 256 * m := by rw [IntKind.wrap_u64]; omega
      have hw2 : IntKind.u64.wrap (256 * m + x) = 256 * m + x := by rw [IntKind.wrap_u64]; omega
      have HM := Lib.hid hm
      have HX := Lib.hid hxk
      have H7 := Lib.hid hm7
      clear hm hxk hm7
      go_wp2_with fail
      go_roundw
      case rel => exact ⟨k + 1, by omega, by go_num, by rw [numB_snoc HX.out, HM.out], trivial⟩
      case measure => simp [intOf]; omega
    · obtain rfl : k = bs.length := by omega
      go_wp2_with fail
      go_ret
      exact ⟨by simp, rfl⟩

set_option maxHeartbeats 2000000 in
theorem checksum_any {P : Nat → Prop} (v : Sl) (bs : List Int) (w : World) (h : By w P v bs) :
    Calls Try.prog 67 #[.slice v.a v.n v.c] w fun e w' => e = .returned (.int .u32 (sumB bs)) ∧ w = w' := by
  obtain ⟨A, n, c⟩ := v
  have hl := h.le
  obtain rfl : n = bs.length := h.1.1
  have HB := Lib.hid h
  clear h
  simp only
  go_enter Try.func67, Try.ntmps67
  go_wp2_with fail
  go_loopw [3, 4] (fun n i wr => ∃ k : Nat, k ≤ bs.length ∧ i = .int .i64 k ∧ n = .int .u32 ((bs.take k).foldl byteC 4294967295) ∧ w = wr) (fun n i _ => bs.length - (intOf i).toNat)
  case atStart => exact ⟨0, Nat.zero_le _, rfl, rfl, rfl⟩
  case round =>
    obtain ⟨k, hk, rfl, rfl, rfl⟩ := hrel
    by_cases hlt : k < bs.length
    · obtain ⟨b, off, x, ha, hbl, hxk, hx0, hx1, hc⟩ := HB.out.at_ hlt
      simp only at ha
      subst ha
      obtain ⟨m, hm⟩ : ∃ m, m = (bs.take k).foldl byteC 4294967295 := ⟨_, rfl⟩
      rw [← hm]
      have hcv : IntKind.u32.wrap x = x := by rw [IntKind.wrap_u32']; omega
      have HM := Lib.hid hm
      have HX := Lib.hid hxk
      clear hm hxk
      go_wp2_with fail
      obtain ⟨y, hy⟩ : ∃ y, y = bits BinOp.xor IntKind.u32 m x := ⟨_, rfl⟩
      rw [← hy]
      have hy0 : U32 y := hy ▸ xor32_range m x
      have HY := Lib.hid hy
      clear hy
      go_loopw [3, 5] (fun n i wr => ∃ j : Nat, j ≤ 8 ∧ i = .int .i64 j ∧ n = .int .u32 (iterC j y) ∧ w = wr) (fun n i _ => 8 - (intOf i).toNat)
      case atStart => exact ⟨0, by omega, rfl, rfl, rfl⟩
      case round =>
        obtain ⟨j, hj, rfl, rfl, rfl⟩ := hrel
        by_cases hlt2 : j < 8
        · have hi0 := iterC_range hy0 j
          obtain ⟨q, hq⟩ : ∃ q, q = iterC j y := ⟨_, rfl⟩
          rw [← hq] at hi0 ⊢
          have hi1 : 0 ≤ q := hi0.1
          have hmod : q.tmod 2 = q % 2 := Int.tmod_eq_emod_of_nonneg hi1
          have HI := Lib.hid hi0
          have HQ := Lib.hid hq
          have hw : IntKind.u32.wrap (q % 2) = q % 2 := by rw [IntKind.wrap_u32']; omega
          clear hi0 hq
          by_cases h2 : q % 2 = 1
          · rw [h2] at hmod hw
            go_wp2_with fail
            go_roundw
            case rel => exact ⟨j + 1, by omega, by go_num, by rw [iterC_succ', ← HQ.out]; unfold stepC; rw [if_pos h2]; rfl, trivial⟩
            case measure => simp [intOf]; omega
          · obtain h2 : q % 2 = 0 := by omega
            rw [h2] at hmod hw
            go_wp2_with fail
            go_roundw
            case rel => exact ⟨j + 1, by omega, by go_num, by rw [iterC_succ', ← HQ.out]; unfold stepC; rw [if_neg (by omega)], trivial⟩
            case measure => simp [intOf]; omega
        · obtain rfl : j = 8 := by omega
          go_wp2_with fail
          go_roundw
          case rel => exact ⟨k + 1, by omega, by go_num, by rw [foldl_take_succ _ _ HX.out, ← HM.out]; show _ = Value.int .u32 (iterC 8 (bits .xor .u32 m x)); rw [← HY.out], trivial⟩
          case measure => simp [intOf]; omega
    · obtain rfl : k = bs.length := by omega
      go_wp2_with fail
      go_ret
      exact ⟨by simp; rfl, rfl⟩
end Go.Proofs.Ytgbkhmoplocmkaa
