/- Journals: encode, and the reference's Sector. -/
import Derived.Test.YtgbkhmoplocmkaaJouB
namespace Go.Proofs.Ytgbkhmoplocmkaa
open Go.RowKit Go.Shelf
set_option linter.unusedSimpArgs false
set_option linter.unusedVariables false
set_option maxRecDepth 20000

/-- what lies between the checksum and the repeated generation -/
def bodyB (num kind : Int) (b : List Int) : List Int := beB num 2 ++ (kind :: (b.length : Int) :: (b ++ List.replicate (112 - b.length) 0))
/-- a sector -/
def encB (gen num kind : Int) (b : List Int) : List Int := beB gen 4 ++ (beB (sumB (bodyB num kind b)) 4 ++ (bodyB num kind b ++ beB gen 4))

theorem layB_at (a b c ys : List Int) (off : Nat) (ho : off = a.length) (hy : ys.length = b.length) : layB (a ++ (b ++ c)) off ys = a ++ (ys ++ c) := by
  subst ho
  unfold layB
  rw [hy]
  simp
theorem set_lay {xs : List Int} {off : Nat} (v : Int) (h : off < xs.length) : xs.set off v = layB xs off [v] := by
  have := layB_cons (xs := xs) (off := off) (ys := []) v (by simp; omega)
  rw [layB_nil] at this
  exact this
theorem splice_lay {xs ys : List Int} {off : Nat} (h : off + ys.length ≤ xs.length) : splice (xs.map (Value.int .u8)) off (ys.map (Value.int .u8)) = (layB xs off ys).map (Value.int .u8) := by
  unfold layB splice
  simp
theorem body_len (num kind : Int) {bs : List Int} (hl : bs.length ≤ 112) : (bodyB num kind bs).length = 116 := by
  unfold bodyB
  simp [beB_len]
  omega
theorem body_byte (num kind : Int) {bs : List Int} (hl : bs.length ≤ 112) (hk : 0 ≤ kind ∧ kind < 256) (hb : ∀ b ∈ bs, 0 ≤ b ∧ b < 256) : ∀ b ∈ bodyB num kind bs, 0 ≤ b ∧ b < 256 := by
  intro b h
  unfold bodyB at h
  simp only [List.mem_append, List.mem_cons] at h
  rcases h with h | rfl | rfl | h | h
  · exact beB_byte _ _ b h
  · exact hk
  · omega
  · exact hb b h
  · exact zeros_byte _ b h
theorem enc_len (gen num kind : Int) {bs : List Int} (hl : bs.length ≤ 112) : (encB gen num kind bs).length = 128 := by
  unfold encB
  simp [beB_len, body_len num kind hl]
theorem enc_byte (gen num kind : Int) {bs : List Int} (hl : bs.length ≤ 112) (hk : 0 ≤ kind ∧ kind < 256) (hb : ∀ b ∈ bs, 0 ≤ b ∧ b < 256) : ∀ b ∈ encB gen num kind bs, 0 ≤ b ∧ b < 256 := by
  intro b h
  unfold encB at h
  simp only [List.mem_append] at h
  rcases h with h | h | h | h
  · exact beB_byte _ _ b h
  · exact beB_byte _ _ b h
  · exact body_byte num kind hl hk hb b h
  · exact beB_byte _ _ b h
theorem mid_take (a b c d : List Int) (n m : Nat) (hn : n = a.length + b.length) (hm : m = c.length) : ((a ++ (b ++ (c ++ d))).drop n).take m = c := by
  subst hn hm
  rw [← List.append_assoc, List.drop_append, List.length_append]
  simp
theorem enc_rows (gen num kind : Int) (bs : List Int) (hl : bs.length ≤ 112) :
    layB (layB (((layB (layB (List.replicate 128 0) 0 (beB gen 4)) 8 (beB num 2)).set 10 kind).set 11 (bs.length : Int)) 12 bs) 124 (beB gen 4) = beB gen 4 ++ (List.replicate 4 0 ++ (bodyB num kind bs ++ beB gen 4)) := by
  unfold bodyB
  have lG := beB_len gen 4
  have lN := beB_len num 2
  generalize beB gen 4 = G at *
  generalize beB num 2 = N at *
  have z1 : List.replicate 128 (0 : Int) = [] ++ (List.replicate 4 0 ++ List.replicate 124 0) := by decide +kernel
  rw [z1, layB_at _ _ _ G 0 rfl (by rw [lG]; simp), List.nil_append]
  have z2 : G ++ List.replicate 124 (0 : Int) = (G ++ List.replicate 4 0) ++ (List.replicate 2 0 ++ List.replicate 118 0) := by
    rw [List.append_assoc]
    congr 1
  rw [z2, layB_at _ _ _ N 8 (by simp [lG]) (by rw [lN]; simp)]
  have z3 : (G ++ List.replicate 4 0) ++ (N ++ List.replicate 118 (0 : Int)) = (G ++ List.replicate 4 0 ++ N) ++ ([0] ++ List.replicate 117 0) := by
    rw [List.append_assoc, List.append_assoc, List.append_assoc]
    congr 3
  rw [z3, set_lay kind (by simp [lG, lN]), layB_at _ _ _ [kind] 10 (by simp [lG, lN]) (by simp)]
  have z4 : (G ++ List.replicate 4 0 ++ N) ++ ([kind] ++ List.replicate 117 (0 : Int)) = (G ++ List.replicate 4 0 ++ N ++ [kind]) ++ ([0] ++ List.replicate 116 0) := by
    rw [List.append_assoc (G ++ List.replicate 4 0 ++ N) [kind]]
    congr 2
  rw [z4, set_lay _ (by simp [lG, lN]), layB_at _ _ _ [(bs.length : Int)] 11 (by simp [lG, lN]) (by simp)]
  have z5 : (G ++ List.replicate 4 0 ++ N ++ [kind]) ++ ([(bs.length : Int)] ++ List.replicate 116 (0 : Int)) = (G ++ List.replicate 4 0 ++ N ++ [kind] ++ [(bs.length : Int)]) ++ (List.replicate bs.length 0 ++ (List.replicate (112 - bs.length) 0 ++ List.replicate 4 0)) := by
    rw [List.append_assoc (G ++ List.replicate 4 0 ++ N ++ [kind]) [(bs.length : Int)], List.replicate_append_replicate, List.replicate_append_replicate]
    congr 3
    omega
  rw [z5, layB_at _ _ _ bs 12 (by simp [lG, lN]) (by simp)]
  have z6 : (G ++ List.replicate 4 0 ++ N ++ [kind] ++ [(bs.length : Int)]) ++ (bs ++ (List.replicate (112 - bs.length) 0 ++ List.replicate 4 (0 : Int))) = (G ++ List.replicate 4 0 ++ N ++ [kind] ++ [(bs.length : Int)] ++ bs ++ List.replicate (112 - bs.length) 0) ++ (List.replicate 4 0 ++ []) := by
    simp only [List.append_assoc, List.append_nil]
  rw [z6, layB_at _ _ _ G 124 (by simp [lG, lN]; omega) (by rw [lG]; simp)]
  simp only [List.append_assoc, List.append_nil, List.cons_append, List.nil_append]

set_option maxHeartbeats 1000000 in
theorem encode_any {P : Nat → Prop} (gen num kind : Int) (v : Sl) (bs : List Int) (w : World) (h : By w P v bs) (hl : bs.length ≤ 112) (hg : 0 ≤ gen ∧ gen < 18446744073709551616) (hn : 0 ≤ num ∧ num < 9223372036854775808) (hk : 0 ≤ kind ∧ kind < 256) :
    Calls Try.prog 44 #[.int .u64 gen, .int .i64 num, .int .u8 kind, .slice v.a v.n v.c] w fun e w' => e = .returned (.slice (some ⟨w.heap.size, 0, none⟩) 128 128) ∧ Bk w' 89 w.heap.size (encB gen num kind bs) ∧ Below w.heap.size w w' := by
  obtain ⟨A, n, c⟩ := v
  obtain rfl : n = bs.length := h.1.1
  have HB := Lib.hid h
  have HN := Lib.hid hn
  have HG := Lib.hid hg
  clear h
  simp only
  go_enter Try.func44, Try.ntmps44
  go_wp2_with fail
  have HB0 : Hid (Bk (w.alloc (.cells Try.zeroCells89 89)) 89 w.heap.size (List.replicate 128 0)) := Lib.hid (by
    have e : Try.zeroCells89 = ((List.replicate 128 (0 : Int)).map (Value.int .u8)).toArray := by kernel_rfl
    rw [e]
    exact Bk.made w _ _)
  have HW0 : Hid (Below w.heap.size w (w.alloc (.cells Try.zeroCells89 89))) := Lib.hid ((Below.refl _ _).alloc (Nat.le_refl _) _)
  refine (put_any 0 4 128 gen _ HB0.out (by simp) (by omega) HG.out).mono ?_
  rintro e w1 ⟨rfl, hb1, hw1⟩
  have HB1 := Lib.hid hb1
  have HW1 := Lib.hid (HW0.out.trans hw1)
  clear hb1 hw1
  go_wp2_with fail
  have l1 : (layB (List.replicate 128 0) 0 (beB gen 4)).length = 128 := by rw [layB_len (by rw [beB_len]; simp)]; simp
  refine (put_any 8 2 120 num _ HB1.out (by rw [l1]; omega) (by omega) ⟨HN.out.1, by have := HN.out.2; omega⟩).mono ?_
  rintro e w2 ⟨rfl, hb2, hw2⟩
  have l2 : (layB (layB (List.replicate 128 0) 0 (beB gen 4)) 8 (beB num 2)).length = 128 := by rw [layB_len (by rw [beB_len, l1]; omega), l1]
  have HW2 := Lib.hid (HW1.out.trans hw2)
  obtain ⟨x2, hx2⟩ : ∃ x2, x2 = layB (layB (List.replicate 128 0) 0 (beB gen 4)) 8 (beB num 2) := ⟨_, rfl⟩
  rw [← hx2] at hb2 l2
  have c10 := hb2.cell (i := 10) (by omega)
  have c11 := hb2.cell (i := 11) (by omega)
  have f10 := hb2.free 10
  have f11 := hb2.free 11
  have hlt2 := hb2.lt
  have HX2 := Lib.hid hx2
  have HB2 := Lib.hid hb2
  have HL2 := Lib.hid l2
  clear hb2 hw2 l1 l2 hx2
  generalize x2.getD 10 0 = u10 at c10
  generalize x2.getD 11 0 = u11 at c11
  have hwl : IntKind.u8.wrap (bs.length : Int) = bs.length := by rw [IntKind.wrap_u8']; omega
  have HZB : Hid ((Try.prog.info? 5).map (·.size) = some 1) := Lib.hid (by obtain ⟨i0, hinf, hz0, hz1, hz2⟩ := info_parts Try.infoByte; rw [hinf]; simp [hz1])
  go_upto_region 5 with fail
  have hb3 := (HB2.out.set 10 kind).set 11 (bs.length : Int)
  have hw3 := (HW2.out.setCell (p := ⟨w.heap.size, 10, none⟩) (Nat.le_refl _) (Value.int IntKind.u8 kind)).setCell (p := ⟨w.heap.size, 11, none⟩) (Nat.le_refl _) (Value.int IntKind.u8 (bs.length : Int))
  clear c10 c11 f10 f11 hlt2
  generalize (w2.setCell ⟨w.heap.size, 10, none⟩ (Value.int IntKind.u8 kind)).setCell ⟨w.heap.size, 11, none⟩ (Value.int IntKind.u8 (bs.length : Int)) = w3 at hb3 hw3 ⊢
  obtain ⟨x3, hx3⟩ : ∃ x3, x3 = (x2.set 10 kind).set 11 (bs.length : Int) := ⟨_, rfl⟩
  rw [← hx3] at hb3
  have HB3 := Lib.hid hb3
  have HW3 := Lib.hid hw3
  have HL3 : Hid (x3.length = 128) := Lib.hid (by rw [hx3, List.length_set, List.length_set]; exact HL2.out)
  have HX3 := Lib.hid hx3
  clear hb3 hw3 hx3
  go_wp2_with (refine wpList_copy_splice rfl (.tmp 23) (.tmp 24) _ _ rfl 5 Try.underlying35 HZB.out (some ⟨w.heap.size, 12, none⟩) A 116 116 bs.length c rfl rfl w.heap.size 12 (x3.map (Value.int .u8)) 89 HB3.out (bs.map (Value.int .u8)) ?c1 ?c2 ?c3 ?c4 w.heap.size w HW3.out (Nat.le_refl _) ?_)
  case c1 => rw [List.length_map]; exact (Nat.min_eq_left (by omega)).symm
  case c2 =>
    intro hpos
    have hrd := HB.out.1.reads
    obtain ⟨bb, off, rfl, hbl, hc⟩ := hrd (by simpa using hpos)
    refine ⟨_, rfl, fun j b hjb => ?_⟩
    have := hc j b 0 _ hjb rfl
    simp only [Nat.mul_one, Nat.add_zero] at this
    rw [Go.WideShapes.add_plain]
    exact (HW3.out.cell (p := ⟨bb, off + j, none⟩) hbl).trans this
  case c3 => rw [List.length_map, List.length_map, HL3.out]; omega
  case c4 => intro u hu; obtain ⟨b, _, rfl⟩ := List.mem_map.1 hu; rfl
  intro w4 hg4 hw4
  have hb4 := hg4.out
  rw [splice_lay (by rw [HL3.out]; omega)] at hb4
  have l4 : (layB x3 12 bs).length = 128 := by rw [layB_len (by rw [HL3.out]; omega), HL3.out]
  have HB4 := Lib.hid hb4
  have HW4 := Lib.hid hw4
  have HL4 := Lib.hid l4
  clear hg4 hb4 hw4 l4
  go_wp2_with fail
  refine (put_any (t := 89) 124 4 4 gen _ HB4.out (by rw [HL4.out]; omega) (by omega) HG.out).mono ?_
  rintro e w5 ⟨rfl, hb5, hw5⟩
  rw [HX3.out, HX2.out, enc_rows gen num kind bs hl] at hb5
  have HB5 := Lib.hid hb5
  have HW5 := Lib.hid (HW4.out.trans hw5)
  clear hb5 hw5
  go_wp2_with fail
  have HS : Hid (By w5 (fun _ => True) ⟨some ⟨w.heap.size, 8, none⟩, 116, 120⟩ (bodyB num kind bs)) := Lib.hid (by
    have h1 := HB5.out.by_ 8 116 120 (by simp [beB_len, body_len num kind hl]) (by omega) (by simp [maxLen]) (fun _ => True) trivial (by
      intro b h
      simp only [List.mem_append] at h
      rcases h with h | h | h | h
      · exact beB_byte _ _ b h
      · exact zeros_byte _ b h
      · exact body_byte num kind hl hk HB.out.2 b h
      · exact beB_byte _ _ b h)
    rw [mid_take _ _ _ _ 8 116 (by simp [beB_len]) (body_len num kind hl).symm] at h1
    exact h1)
  have hsr := sumB_range (bodyB num kind bs)
  obtain ⟨z, hz⟩ : ∃ z, z = sumB (bodyB num kind bs) := ⟨_, rfl⟩
  have HC : Hid (∀ W, Below w5.heap.size w5 W → Calls Try.prog 65 #[.slice (some ⟨w.heap.size, 8, none⟩) 116 120] W fun e w' => e = .returned (.int .u32 z) ∧ W = w') := Lib.hid (fun W hW => hz ▸ sum_any ⟨some ⟨w.heap.size, 8, none⟩, 116, 120⟩ _ W (HS.out.step hW))
  have hz0 : 0 ≤ z ∧ z < 18446744073709551616 := by rw [hz]; have h1 : 0 ≤ sumB (bodyB num kind bs) ∧ sumB (bodyB num kind bs) < 4294967296 := hsr; omega
  have hzw : IntKind.u64.wrap z = z := by rw [IntKind.wrap_u64]; omega
  have HP : Hid (∀ W, Below w5.heap.size w5 W → Calls Try.prog 64 #[.slice (some ⟨w.heap.size, 4, none⟩) 4 124, .int .u64 z] W fun e w' => e = .returned (.tuple #[]) ∧ Bk w' 89 w.heap.size (encB gen num kind bs) ∧ Below w.heap.size w w') := Lib.hid (by
    intro W hW
    refine (put_any (t := 89) 4 4 124 z W (HB5.out.step hW) (by simp [beB_len, body_len num kind hl]) (by omega) hz0).mono ?_
    rintro e w' ⟨he, hb, hw⟩
    refine ⟨he, ?_, (HW5.out.trans (hW.mono (Nat.le_of_lt HB5.out.lt))).trans hw⟩
    rw [layB_at (beB gen 4) (List.replicate 4 0) (bodyB num kind bs ++ beB gen 4) (beB z 4) 4 (by simp [beB_len]) (by simp [beB_len]), hz] at hb
    exact hb)
  have HZ := Lib.hid hz
  clear hz hsr
  go_region_with (first | (go_at_call 65; refine (HC.out _ (by first | exact (Below.refl _ _).drew | exact Below.refl _ _)).mono ?_; rintro e w6 ⟨rfl, rfl⟩) | (go_at_call 64; refine (HP.out _ (by first | exact (Below.refl _ _).drew | exact Below.refl _ _)).mono ?_; rintro e w6 ⟨rfl, hb6, hw6⟩))
  all_goals (
    have HB6 := Lib.hid hb6
    have HW6 := Lib.hid hw6
    clear hb6 hw6
    go_wp2_with fail
    go_ret
    exact ⟨rfl, HB6.out, HW6.out⟩)
end Go.Proofs.Ytgbkhmoplocmkaa
