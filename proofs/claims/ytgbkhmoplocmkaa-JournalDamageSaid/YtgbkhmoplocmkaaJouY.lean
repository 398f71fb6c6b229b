/- Journals: plain: a byte changed is noticed. -/
import Derived.Test.YtgbkhmoplocmkaaJouX
namespace Go.Proofs.Ytgbkhmoplocmkaa
open Go.RowKit Go.Shelf
set_option linter.unusedSimpArgs false
set_option linter.unusedVariables false
set_option maxRecDepth 20000

theorem xor32_inj {a b c : Int} (ha : U32 a) (hb : U32 b) (hc : U32 c) (h : xor32 a c = xor32 b c) : a = b := by
  rw [xor32_nat ha hc, xor32_nat hb hc] at h
  have h1 : a.toNat ^^^ c.toNat = b.toNat ^^^ c.toNat := by omega
  have h2 : a.toNat = b.toNat := by
    have := congrArg (fun x => x ^^^ c.toNat) h1
    simpa [Nat.xor_assoc] using this
  unfold U32 at ha hb
  omega
theorem xor32_comm {a b : Int} (ha : U32 a) (hb : U32 b) : xor32 a b = xor32 b a := by rw [xor32_nat ha hb, xor32_nat hb ha, Nat.xor_comm]
/-- the highest bit is set -/
theorem xor32_top {a : Int} (ha : 0 ≤ a ∧ a < 2147483648) : 2147483648 ≤ xor32 a 3988292384 := by
  rw [xor32_nat (by unfold U32; omega) (by unfold U32; omega)]
  have h1 : (a.toNat ^^^ (3988292384 : Int).toNat).testBit 31 = true := by
    rw [Nat.testBit_xor, Nat.testBit_lt_two_pow (by omega : a.toNat < 2 ^ 31)]
    decide
  have h2 := Nat.ge_two_pow_of_testBit h1
  omega
theorem stepC_inj {a b : Int} (ha : U32 a) (hb : U32 b) (h : stepC a = stepC b) : a = b := by
  have ha' := ha
  have hb' := hb
  unfold U32 at ha' hb'
  unfold stepC at h
  split at h
  · split at h
    · have := xor32_inj (half_range ha) (half_range hb) (by unfold U32; omega) h
      omega
    · have := xor32_top (a := a / 2) (by omega)
      omega
  · split at h
    · have := xor32_top (a := b / 2) (by omega)
      omega
    · omega
theorem iterC_inj {a b : Int} (ha : U32 a) (hb : U32 b) : ∀ k, iterC k a = iterC k b → a = b
  | 0, h => h
  | k + 1, h => iterC_inj ha hb k (stepC_inj (iterC_range ha k) (iterC_range hb k) h)
theorem U32.byte {c : Int} (h : 0 ≤ c ∧ c < 256) : U32 c := by unfold U32; omega
theorem byteC_inj1 {a b c : Int} (ha : U32 a) (hb : U32 b) (hc : 0 ≤ c ∧ c < 256) (h : byteC a c = byteC b c) : a = b :=
  xor32_inj ha hb (.byte hc) (iterC_inj (xor32_range _ _) (xor32_range _ _) 8 h)
theorem byteC_inj2 {a b c : Int} (hb : 0 ≤ b ∧ b < 256) (hc : 0 ≤ c ∧ c < 256) (ha : U32 a) (h : byteC a b = byteC a c) : b = c := by
  have h1 := iterC_inj (xor32_range _ _) (xor32_range _ _) 8 h
  rw [xor32_comm ha (.byte hb), xor32_comm ha (.byte hc)] at h1
  exact xor32_inj (.byte hb) (.byte hc) ha h1
theorem crc_from_inj : ∀ (bs : List Int) (x y : Int), Byt bs → U32 x → U32 y → bs.foldl byteC x = bs.foldl byteC y → x = y
  | [], x, y, _, _, _, h => h
  | b :: bs, x, y, hb, hx, hy, h => byteC_inj1 hx hy (hb b (List.mem_cons_self ..)) (crc_from_inj bs _ _ (fun z hz => hb z (List.mem_cons_of_mem _ hz)) (byteC_range _ _) (byteC_range _ _) h)
/-- one byte changed: another sum -/
theorem sumB_one {xs ys : List Int} {b c : Int} (hx : Byt xs) (hy : Byt ys) (hb : 0 ≤ b ∧ b < 256) (hc : 0 ≤ c ∧ c < 256) (h : sumB (xs ++ b :: ys) = sumB (xs ++ c :: ys)) : b = c := by
  have h1 := xor32_inj (crcG_range _) (crcG_range _) (by unfold U32; omega) h
  unfold crcG at h1
  rw [List.foldl_append, List.foldl_append, List.foldl_cons, List.foldl_cons] at h1
  have h0 : U32 (xs.foldl byteC 4294967295) := crcG_range xs
  exact byteC_inj2 hb hc h0 (crc_from_inj ys _ _ hy (byteC_range _ _) (byteC_range _ _) h1)
theorem sumB_set {xs : List Int} {i : Nat} {c : Int} (hi : i < xs.length) (hx : Byt xs) (hc : 0 ≤ c ∧ c < 256) (h : sumB (xs.set i c) = sumB xs) : c = xs[i] := by
  have e1 : xs.set i c = xs.take i ++ c :: xs.drop (i + 1) := by rw [List.set_eq_take_append_cons_drop, if_pos hi]
  have e2 : xs = xs.take i ++ xs[i] :: xs.drop (i + 1) := by rw [← List.drop_eq_getElem_cons hi, List.take_append_drop]
  rw [e1] at h
  conv at h => rhs; rw [e2]
  exact sumB_one (fun z hz => hx z (List.mem_of_mem_take hz)) (fun z hz => hx z (List.mem_of_mem_drop hz)) hc (hx _ (List.getElem_mem hi)) h
/-- what a good sector tells of itself -/
theorem good_sum {s : List Int} {n : Int} (hl : s.length = 128) (hb : Byt s) (h : goodB s n = true) : s.take 4 = s.drop 124 ∧ (s.drop 4).take 4 = beB (sumB ((s.drop 8).take 116)) 4 := by
  unfold goodB at h
  simp only [Bool.and_eq_true, decide_eq_true_eq] at h
  obtain ⟨h0, _, h2⟩ := h
  have hcl : ((s.drop 12).take (s.getD 11 0).toNat).length ≤ 112 := by
    unfold shapeOk at h0
    simp at h0
    simp
    omega
  obtain ⟨g, hg⟩ : ∃ g, g = numB (s.take 4) := ⟨_, rfl⟩
  obtain ⟨pc, hpc⟩ : ∃ p, p = (s.drop 12).take (s.getD 11 0).toNat := ⟨_, rfl⟩
  obtain ⟨kd, hkd⟩ : ∃ p, p = s.getD 10 0 := ⟨_, rfl⟩
  rw [← hg, ← hpc, ← hkd] at h2
  rw [← hpc] at hcl
  have hbl := body_len n kd hcl
  clear hg hpc hkd h0 hb
  subst h2
  unfold encB at *
  obtain ⟨B, hB⟩ : ∃ B, B = bodyB n kd pc := ⟨_, rfl⟩
  rw [← hB] at hbl ⊢
  have l1 := beB_len g 4
  have l2 := beB_len (sumB B) 4
  refine ⟨?_, ?_⟩
  · rw [parts_A l1, ← List.append_assoc, ← List.append_assoc, parts_drop _ _ (by simp [l1, l2, hbl])]
  · rw [parts_drop _ _ l1, parts_A l2, ← List.append_assoc, parts_drop _ _ (by simp [l1, l2]), ← hbl, List.take_left]
theorem set_take {xs : List Int} {i n : Nat} {c : Int} (h : n ≤ i) : (xs.set i c).take n = xs.take n := by
  rw [List.take_set, List.set_eq_of_length_le (by simp; omega)]
theorem set_mid {xs : List Int} {i k n : Nat} {c : Int} (h : i < k ∨ k + n ≤ i) : ((xs.set i c).drop k).take n = (xs.drop k).take n := by
  refine List.ext_getElem? fun j => ?_
  rw [List.getElem?_take, List.getElem?_take]
  split
  · rw [List.getElem?_drop, List.getElem?_drop, List.getElem?_set_ne (by omega)]
  · rfl
/-- a byte changed: no good sector -/
theorem good_changed {s : List Int} {n m : Int} {i : Nat} {c : Int} (hl : s.length = 128) (hb : Byt s) (hi : i < 128) (hc : 0 ≤ c ∧ c < 256) (hne : s.getD i 0 ≠ c) (h : goodB s n = true) : goodB (s.set i c) m = false := by
  cases h2 : goodB (s.set i c) m
  · rfl
  · exfalso
    have hi2 : i < s.length := by omega
    have hb2 : Byt (s.set i c) := fun b hbm => by
      rcases List.mem_or_eq_of_mem_set hbm with h | rfl
      · exact hb b h
      · exact hc
    have hne2 : s[i] ≠ c := by
      rw [List.getD_eq_getElem?_getD, List.getElem?_eq_getElem hi2] at hne
      exact hne
    obtain ⟨a1, a2⟩ := good_sum hl hb h
    obtain ⟨b1, b2⟩ := good_sum (by simpa using hl) hb2 h2
    have hch : (s.set i c)[i]? = some c := List.getElem?_set_self hi2
    have hold : s[i]? = some s[i] := List.getElem?_eq_getElem hi2
    by_cases c1 : i < 4
    · have e1 : (s.set i c).drop 124 = s.drop 124 := by
        have := set_mid (xs := s) (i := i) (k := 124) (n := 4) (c := c) (by omega)
        rw [List.take_of_length_le (by simp; omega), List.take_of_length_le (by simp; omega)] at this
        exact this
      rw [e1, ← a1] at b1
      have h3 := congrArg (fun x : List Int => x[i]?) b1
      simp only [List.getElem?_take, if_pos c1, hch, hold] at h3
      exact hne2 (Option.some.inj h3).symm
    · by_cases c2 : i < 124
      · by_cases c3 : i < 8
        · rw [set_mid (xs := s) (k := 8) (n := 116) (by omega), ← a2] at b2
          have h3 := congrArg (fun x : List Int => x[i - 4]?) b2
          simp only [List.getElem?_take, if_pos (show i - 4 < 4 by omega), List.getElem?_drop, show 4 + (i - 4) = i by omega, hch, hold] at h3
          exact hne2 (Option.some.inj h3).symm
        · rw [set_mid (xs := s) (k := 4) (n := 4) (by omega), a2] at b2
          have h3 := congrArg numB b2
          have r1 := sumB_range ((s.drop 8).take 116)
          have r2 := sumB_range (((s.set i c).drop 8).take 116)
          unfold U32 at r1 r2
          rw [numB_beB _ 4 r1.1 (by simpa using r1.2), numB_beB _ 4 r2.1 (by simpa using r2.2)] at h3
          have e1 : ((s.set i c).drop 8).take 116 = ((s.drop 8).take 116).set (i - 8) c := by
            rw [List.drop_set, if_neg (by omega), List.take_set]
          rw [e1] at h3
          have h4 := sumB_set (xs := (s.drop 8).take 116) (i := i - 8) (c := c) (by simp; omega) (hb.sub 8 116) hc h3.symm
          simp only [List.getElem_take, List.getElem_drop, show 8 + (i - 8) = i by omega] at h4
          exact hne2 h4.symm
      · rw [set_take (by omega), a1] at b1
        have h3 := congrArg (fun x : List Int => x[i - 124]?) b1
        simp only [List.getElem?_drop, show 124 + (i - 124) = i by omega, hch, hold] at h3
        exact hne2 (Option.some.inj h3)
/-- the records ahead of a bad sector remain -/
theorem read_bad {ss ss' : List (List Int)} {G : Int} {rs : List (List Int)} {k : Nat} {t : List Int} (hG : 0 < G ∧ G < 4294967296) (hrl : ∀ b ∈ rs, b.length ≤ 9223372036854775696) (hk : k < (secsR G 0 rs).length)
    (hs : ∀ i, i < (secsR G 0 rs).length → ss[i]? = (secsR G 0 rs)[i]?) (hs' : ∀ i, ss'[i]? = if i = k then some t else ss[i]?) (ht : goodB t (k : Int) = false) :
    ∃ r1 b r2, rs = r1 ++ b :: r2 ∧ sumK r1 ≤ k ∧ k < sumK r1 + sectK b ∧ recsJ ss' = r1 := by
  obtain ⟨r1, b, r2, e, h3, h4⟩ := cut_at G rs 0 k hk
  have hw : secsR G 0 rs = secsR G 0 r1 ++ (secsB G (0 + (secsR G 0 r1).length) b ++ secsR G (0 + (secsR G 0 r1).length + sectK b) r2) := by rw [e, secsR_app]; rfl
  have h2 := chn_new (l := ss') hG r1 0 0 (by omega) (fun b hb => hrl b (by rw [e]; exact List.mem_append_left _ hb)) (fun i hi => by rw [hs', if_neg (by omega), hs _ (by omega), hw, show 0 + i = i from Nat.zero_add i, List.getElem?_append_left hi])
  have e5 := secsR_sum G r1 0
  refine ⟨r1, b, r2, e, by omega, by omega, ?_⟩
  refine chn_recsJ h2 (recGo_none k _ _ [] rfl (by omega) (fun i h5 h6 s h7 => ?_) (fun s h7 => ?_))
  · rw [hs', if_neg (by omega), hs _ (by omega), hw, List.getElem?_append_right (by omega), List.getElem?_append_left (by rw [secsB_len]; omega), secsB_get (by omega)] at h7
    cases h7
    unfold endB
    rw [(enc_parts G _ _ (cutB_len b _) ⟨by omega, hG.2⟩).2.2.1, (kind_parts _ _).2.1]
    simp
    omega
  · rw [hs', if_pos rfl] at h7
    cases h7
    unfold okB
    rw [ht]
    rfl
end Go.Proofs.Ytgbkhmoplocmkaa
