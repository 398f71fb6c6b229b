/- DiskHistory, walked. -/
import Derived.Test.YtebbmplbpgilaaaDskZ
import Derived.BigRegion
namespace Go.Proofs.Ytebbmplbpgilaaa
open Go.RowKit Go.Shelf
set_option linter.unusedSimpArgs false
set_option linter.unusedVariables false

theorem restart_hist {fs : List Int} {wt : List Ac} {room : Int} (hf : fs.length = 4) {k : Nat} (hk : k < 4) : readD (restartD (histD fs wt room)) k = (hsL (fs.getD k 0) (fs.getD k 0), 0) :=
  restart_read (by simp [histD, hf]) (fun b hb => by
    obtain ⟨c, _, rfl⟩ := List.mem_map.1 hb
    exact double_len c) (fun k hk => by
    rw [hsL_same]
    simp [histD, List.getD_eq_getElem?_getD, List.getElem?_eq_getElem (show k < fs.length by omega)]) hk
set_option maxRecDepth 100000 in
set_option maxHeartbeats 8000000 in
theorem History_walk (acts : List Ac) (left : Int) (A : Option Addr) (c : Nat) (w : World) (hx : Reads w w.heap.size A 3 Ac.enc acts) (hok : ∀ a ∈ acts, a.ok) (hln : acts.length ≤ 9223372036854775807) (hl0 : 0 ≤ left) (hl1 : left < 256) :
    Calls Try.prog 6 #[.slice A acts.length c, .int .u8 left] w fun e w' => e = .returned (.bool true) ∧ Below w.heap.size w w' := by
  have HX := Lib.hid hx
  have HOK := Lib.hid hok
  clear hx hok
  obtain ⟨left, rfl⟩ : ∃ n : Nat, left = (n : Int) := ⟨left.toNat, by omega⟩
  by_cases c1 : acts.length ≤ 40
  rotate_left
  · have e1 : decide ((40 : Int) < (acts.length : Int)) = true := by simp; omega
    go_enter Try.func6, Try.ntmps6
    go_wp2_with fail
    refine (sane_any _).mono ?_
    rintro e w1 ⟨rfl, hb1⟩
    go_wp2_with fail
    go_ret
    exact ⟨rfl, hb1⟩
  have e1 : decide ((40 : Int) < (acts.length : Int)) = false := by simp; omega
  have hwl : IntKind.i64.wrap left = left := by rw [IntKind.wrap_i64]; omega
  go_enter Try.func6, Try.ntmps6
  go_wp2_with fail
  refine (sane_any _).mono ?_
  rintro e w1 ⟨rfl, hb1⟩
  go_wp2_with fail
  refine (New_any 4 (by decide) w1).mono ?_
  rintro e w2 ⟨⟨sv, pv, rfl, hd2⟩, hb2⟩
  rw [new_four] at hd2 ⊢
  simp only [dkV] at hd2 ⊢
  go_upto_region 6 with fail
  obtain ⟨W2, hW2⟩ : ∃ W, W = w2.alloc (.cells #[.slice sv.a sv.n sv.c, .slice pv.a pv.n pv.c, .int .i64 (-1), .bool false] 25) := ⟨_, rfl⟩
  rw [← hW2]
  have b2 : Below w2.heap.size w2 W2 := by rw [hW2]; exact (Below.refl _ _).alloc (Nat.le_refl _) _
  have x2 : Box4 W2 w2.heap.size (.slice sv.a sv.n sv.c) (.slice pv.a pv.n pv.c) (.int .i64 (-1)) (.bool false) := by rw [hW2]; exact Box4.new ..
  have HD2 := Lib.hid ((hd2.mono2 (Q := fun b => b < w2.heap.size) (fun b _ hl => hl)).step b2)
  have HB2 := Lib.hid ((hb1.trans (hb2.mono hb1.size)).trans (b2.mono (Nat.le_trans hb1.size hb2.size)))
  have z2 : w2.heap.size < W2.heap.size := x2.z
  have z1 : w.heap.size ≤ w2.heap.size := Nat.le_trans hb1.size hb2.size
  clear hW2 b2 hd2 hb1 hb2
  have HX2 := Lib.hid x2
  clear x2
  obtain ⟨q0, q1, q2, q3, q4, q5, q6, q7, q8⟩ := HX2.out
  have hSt := Lib.hid (Stop_any (P := fun b => b < w2.heap.size) ⟨List.replicate 4 zeroSec, [], -1, false⟩ sv pv left W2 HD2.out)
  rw [stop_four hl0 (by omega)] at hSt
  simp only [dkV, show (histD [0, 0, 0, 0] [] left).left = left from rfl, show (histD [0, 0, 0, 0] [] left).stopped = false from rfl] at hSt
  go_wp2_with fail
  refine hSt.out.mono ?_
  rintro e w3 ⟨⟨s3, p3, rfl, hd3⟩, hb3⟩
  clear q0 q1 q2 q3 q4 q5 q6 q7 q8
  obtain ⟨q0, q1, q2, q3, q4, q5, q6, q7, q8⟩ := HX2.out.step hb3
  go_upto_region 9 with fail
  obtain ⟨W4, hW4⟩ : ∃ X, X = put4 w3 w2.heap.size (.slice s3.a s3.n s3.c) (.slice p3.a p3.n p3.c) (.int .i64 left) (.bool false) := ⟨_, rfl⟩
  have kp : Kp (fun b => b ≠ w2.heap.size) w3 W4 := by rw [hW4]; exact Kp.of_grown (put4_keep _ _ _ _) (fun h => h rfl)
  have x4 : Box4 W4 w2.heap.size (.slice s3.a s3.n s3.c) (.slice p3.a p3.n p3.c) (.int .i64 left) (.bool false) := by rw [hW4]; exact (HX2.out.step hb3).put _ _ _ _
  have b4 : Below w.heap.size w W4 := by rw [hW4]; exact put4_below (HB2.out.trans (hb3.mono HB2.out.size)) z1 _ _ _ _
  have HD4 := Lib.hid (((hd3.mono (Q := fun b => b ≠ w2.heap.size) (fun b h => h.elim (fun h => by omega) (fun h => by omega))).keep kp).mono2 (Q := fun b => b ≠ w2.heap.size ∧ b < W4.heap.size) (fun b h hl => ⟨h, hl⟩))
  have HX4 := Lib.hid x4
  have HB4 := Lib.hid b4
  have z4 : w2.heap.size < W4.heap.size := x4.z
  unfold put4 at hW4
  rw [← hW4]
  clear hW4 kp x4 b4 hd3 hb3 HD2 HB2 HX2 hSt q0 q1 q2 q3 q4 q5 q6 q7 q8
  go_wp2_with fail
  obtain ⟨W5, hW5⟩ : ∃ X, X = (((W4.alloc (.cells #[.int .u8 0, .int .u8 0, .int .u8 0, .int .u8 0] 44)).alloc (.cells #[.int .u8 0, .int .u8 0, .int .u8 0, .int .u8 0] 44)).alloc (.cells #[.int .u8 0, .int .u8 0, .int .u8 0, .int .u8 0] 44)).alloc (.cells #[] 46) := ⟨_, rfl⟩
  have t1 : Below W4.heap.size W4 (W4.alloc (.cells #[.int .u8 0, .int .u8 0, .int .u8 0, .int .u8 0] 44)) := (Below.refl _ _).alloc (Nat.le_refl _) _
  have t2 : Below W4.heap.size W4 ((W4.alloc (.cells #[.int .u8 0, .int .u8 0, .int .u8 0, .int .u8 0] 44)).alloc (.cells #[.int .u8 0, .int .u8 0, .int .u8 0, .int .u8 0] 44)) := t1.alloc (by simp) _
  have t3 : Below W4.heap.size W4 (((W4.alloc (.cells #[.int .u8 0, .int .u8 0, .int .u8 0, .int .u8 0] 44)).alloc (.cells #[.int .u8 0, .int .u8 0, .int .u8 0, .int .u8 0] 44)).alloc (.cells #[.int .u8 0, .int .u8 0, .int .u8 0, .int .u8 0] 44)) := t2.alloc (by simp; omega) _
  have t4 : Below W4.heap.size W4 W5 := by rw [hW5]; exact t3.alloc (by simp; omega) _
  have a1 : Arr W5 W4.heap.size [0, 0, 0, 0] := by rw [hW5]; exact (((Arr.zero W4 _ _ rfl).step ((Below.refl _ _).alloc (Nat.le_refl _) _)).step ((Below.refl _ _).alloc (Nat.le_refl _) _)).step ((Below.refl _ _).alloc (Nat.le_refl _) _)
  have a2 : Arr W5 (W4.heap.size + 1) [0, 0, 0, 0] := by rw [hW5]; exact ((Arr.zero _ _ _ (by simp)).step ((Below.refl _ _).alloc (Nat.le_refl _) _)).step ((Below.refl _ _).alloc (Nat.le_refl _) _)
  have a3 : Arr W5 (W4.heap.size + 1 + 1) [0, 0, 0, 0] := by rw [hW5]; exact (Arr.zero _ _ _ (by simp)).step ((Below.refl _ _).alloc (Nat.le_refl _) _)
  have a4 : Owns W5 (W4.heap.size + 1 + 1 + 1) 46 3 Ac.enc (.slice (some ⟨W4.heap.size + 1 + 1 + 1, 0, none⟩) 0 0) [] := by
    have h := Owns.lit (w := ((W4.alloc (.cells #[.int .u8 0, .int .u8 0, .int .u8 0, .int .u8 0] 44)).alloc (.cells #[.int .u8 0, .int .u8 0, .int .u8 0, .int .u8 0] 44)).alloc (.cells #[.int .u8 0, .int .u8 0, .int .u8 0, .int .u8 0] 44)) (e := 46) (ys := ([] : List Ac)) (base := W4.heap.size + 1 + 1 + 1) (cs := #[]) Ac.enc_len rfl (by simp only [World.size_alloc]; exact Nat.le_refl _) (Nat.zero_le _)
    simp only [World.size_alloc, List.length_nil] at h
    rw [hW5]
    exact h
  have HI0 := Lib.hid (show HI w w2.heap.size W4.heap.size (W4.heap.size + 1) (W4.heap.size + 1 + 1) (W4.heap.size + 1 + 1 + 1) (.slice (some ⟨W4.heap.size + 1 + 1 + 1, 0, none⟩) 0 0) s3 p3 [0, 0, 0, 0] [] left W5 from
    ⟨HX4.out.step t4, a1, a2, a3, (HD4.out.step t4).mono (fun b h => ⟨h.1, by omega, by omega, by omega, fun e => by have e2 : W4.heap.size + 1 + 1 + 1 = b := Option.some.inj e; omega⟩), a4, HB4.out.trans (t4.mono HB4.out.size)⟩)
  rw [← hW5]
  clear hW5 t1 t2 t3 t4 a1 a2 a3 a4 HX4 HD4 HB4
  obtain ⟨B, hB⟩ : ∃ x, x = W4.heap.size + 1 + 1 + 1 := ⟨_, rfl⟩
  rw [← hB] at HI0 ⊢
  obtain ⟨bs, hbs⟩ : ∃ x, x = W4.heap.size + 1 + 1 := ⟨_, rfl⟩
  rw [← hbs] at HI0 ⊢
  obtain ⟨bf, hbf⟩ : ∃ x, x = W4.heap.size + 1 := ⟨_, rfl⟩
  rw [← hbf] at HI0 ⊢
  obtain ⟨bl, hbl⟩ : ∃ x, x = W4.heap.size := ⟨_, rfl⟩
  rw [← hbl] at HI0 ⊢
  obtain ⟨bd, hbd⟩ : ∃ x, x = w2.heap.size := ⟨_, rfl⟩
  rw [← hbd] at HI0 ⊢
  have o1 : w.heap.size ≤ bd := by omega
  have o2 : bd < bl := by omega
  have o3 : bl < bf := by omega
  have o4 : bf < bs := by omega
  have o5 : bs < B := by omega
  have o6 := Lib.hid (show B = bs + 1 by omega)
  clear hB hbs hbf hbl hbd z4 z2 z1
  go_loopw [11, 12, 13] (fun v11 v12 v13 wr => ∃ (k : Nat) (sv pv : Sl) (fs : List Int) (wt : List Ac) (room : Nat), k ≤ acts.length ∧ v13 = .int .i64 k ∧ v12 = .int .i64 room ∧ room ≤ 255 ∧ fs.length = 4 ∧ wt.length ≤ k ∧ (∀ a ∈ wt, a.ok) ∧ HI w bd bl bf bs B v11 sv pv fs wt room wr) (fun _ _ v13 _ => acts.length - (intOf v13).toNat)
  case atStart => exact ⟨0, s3, p3, [0, 0, 0, 0], [], left, Nat.zero_le _, rfl, rfl, by omega, rfl, Nat.zero_le _, by simp, HI0.out⟩
  case round =>
    clear HI0
    obtain ⟨k, sd, pd, fs, wt, room, hk, rfl, rfl, hroom, hfs, hwt, hwok, hHI⟩ := hrel
    have HH := Lib.hid hHI
    have HWO := Lib.hid hwok
    clear hHI hwok
    by_cases hlt : k < acts.length
    · obtain ⟨ba, oa, a, hAe, hba, hak, hca⟩ := HX.out.at_ hlt
      subst hAe
      have haok := HOK.out a (List.mem_of_getElem? hak)
      obtain ⟨asy, aat, aby⟩ := a
      obtain ⟨⟨at0, at1⟩, by0, by1⟩ := haok
      simp only at at0 at1 by0 by1
      have a0 := (HH.out.bel.cell (p := ⟨ba, oa + k * 3, none⟩) hba).trans (hca 0 _ rfl)
      have a1 := (HH.out.bel.cell (p := ⟨ba, oa + k * 3 + 1, none⟩) hba).trans (hca 1 _ rfl)
      have a2 := (HH.out.bel.cell (p := ⟨ba, oa + k * 3 + 2, none⟩) hba).trans (hca 2 _ rfl)
      have hba2 : ba < wr.heap.size := by have := HH.out.bel.size; omega
      have hlt2 : decide ((k : Int) < (acts.length : Int)) = true := by simpa using hlt
      have hlt3 : decide (k < acts.length) = true := by simpa using hlt
      clear hca hak
      obtain ⟨sda, sdn, sdc⟩ := sd
      obtain ⟨pda, pdn, pdc⟩ := pd
      cases asy
      · go_upto_region 17 with fail
        obtain ⟨t, ht⟩ : ∃ t : Nat, (t : Int) = aat % 4 := ⟨(aat % 4).toNat, by omega⟩
        have t4 : t < 4 := by omega
        have htm : aat.tmod 4 = t := by rw [ht]; exact Int.tmod_eq_emod_of_nonneg at0
        have hem : aat % 4 = t := ht.symm
        have hwu : IntKind.u8.wrap (t : Int) = t := by rw [IntKind.wrap_u8]; omega
        have hwi : IntKind.i64.wrap (t : Int) = t := by rw [IntKind.wrap_i64]; omega
        have HWR := Lib.hid (hist_write (fs := fs) (wt := wt) (room := room) (a := ⟨false, aat, aby⟩) hfs (by omega) (by omega) (by omega))
        simp only [hem] at HWR
        clear ht
        obtain ⟨w5, hw5⟩ : ∃ X, X = wr.alloc (.cells #[.bool false, .int .u8 aat, .int .u8 aby] 46) := ⟨_, rfl⟩
        have h5 : Below wr.heap.size wr w5 := by rw [hw5]; exact (Below.refl _ _).alloc (Nat.le_refl _) _
        have n0 : w5.cell? ⟨wr.heap.size, 0, none⟩ = some (.bool false) := by rw [hw5]; simp [go_sem]
        have n1 : w5.cell? ⟨wr.heap.size, 1, none⟩ = some (.int .u8 aat) := by rw [hw5]; simp [go_sem]
        have n2 : w5.cell? ⟨wr.heap.size, 2, none⟩ = some (.int .u8 aby) := by rw [hw5]; simp [go_sem]
        have z5 : wr.heap.size < w5.heap.size := by rw [hw5]; simp
        have HH5 := Lib.hid (HH.out.step h5)
        have zs := HH.out.second.z
        rw [← hw5]
        clear hw5 h5 a0 a1 a2 hba2
        obtain ⟨bA, hbA⟩ : ∃ x, x = wr.heap.size := ⟨_, rfl⟩
        rw [← hbA] at n0 n1 n2 z5 zs ⊢
        have hvo : ∀ g, u11.ownBlock = some g → g < bA := fun g h => by rw [hbA]; exact HH.out.wait.lt g h
        have hvo2 := Lib.hid hvo
        have hba3 : w.heap.size ≤ bA := by rw [hbA]; exact HH.out.bel.size
        clear hbA hvo HH
        have HP := Lib.hid (show ∀ b, w5.heap.size ≤ b → b ≠ bd ∧ b ≠ bl ∧ b ≠ bf ∧ b ≠ bs ∧ u11.ownBlock ≠ some b from fun b hb => ⟨by omega, by omega, by omega, by omega, fun e => by have := hvo2.out b e; omega⟩)
        have DBL : Hid (∀ W, Calls Try.prog 27 #[.int .u8 aby] W fun e w' => (∃ v : Sl, e = .returned (.slice v.a v.n v.c) ∧ By w' (fun b => W.heap.size ≤ b) v (doubleL aby)) ∧ Below W.heap.size W w') := Lib.hid (fun W => double_any aby ⟨by0, by1⟩ W)
        have CW : Hid (∀ W v nb, Below w5.heap.size w5 W → By W (fun b => (b ≠ bd ∧ b ≠ bl ∧ b ≠ bf ∧ b ≠ bs ∧ u11.ownBlock ≠ some b) ∧ b ≠ nb) v (doubleL aby) → (∀ b, W.heap.size ≤ b → b ≠ nb) → (∀ b, b < w5.heap.size → (b ≠ bd ∧ b ≠ bl ∧ b ≠ bf ∧ b ≠ bs ∧ u11.ownBlock ≠ some b) → b ≠ nb) → Calls Try.prog 19 #[.agg #[.slice sda sdn sdc, .slice pda pdn pdc, .int .i64 room, .bool false], .int .i64 t, .slice v.a v.n v.c] W fun e w' => (∃ s6 p6 : Sl, e = .returned (.tuple #[.agg #[.slice s6.a s6.n s6.c, .slice p6.a p6.n p6.c, .int .i64 room, .bool false], .int .i64 0]) ∧ Di w' (fun b => (b ≠ bd ∧ b ≠ bl ∧ b ≠ bf ∧ b ≠ bs ∧ u11.ownBlock ≠ some b) ∧ b ≠ nb) s6 p6 (histD fs (wt ++ [⟨false, aat, aby⟩]) room)) ∧ Below W.heap.size W w') := Lib.hid (fun W v nb h hy h1 h2 => by
          have hw := Write_any (P := fun b => (b ≠ bd ∧ b ≠ bl ∧ b ≠ bf ∧ b ≠ bs ∧ u11.ownBlock ≠ some b) ∧ b ≠ nb) (histD fs wt room) ⟨sda, sdn, sdc⟩ ⟨pda, pdn, pdc⟩ v t (doubleL aby) W ((HH5.out.disk.mono2 (fun b hb hl => ⟨hb, h2 b hl hb⟩)).step h) hy
          rw [HWR.out] at hw
          simp only [dkV, show (histD fs wt room).left = room from rfl, show (histD fs wt room).stopped = false from rfl, show (histD fs (wt ++ [⟨false, aat, aby⟩]) room).left = room from rfl, show (histD fs (wt ++ [⟨false, aat, aby⟩]) room).stopped = false from rfl] at hw
          refine hw.mono ?_
          rintro e w' ⟨⟨s6, p6, rfl, hdn⟩, hb⟩
          exact ⟨⟨s6, p6, rfl, hdn.nw (fun b hb2 => ⟨HP.out b (Nat.le_trans h.size hb2), h1 b hb2⟩)⟩, hb⟩)
        have SSW : Hid (∀ W, Below w5.heap.size w5 W → (fun W => W.cell? ⟨bd, 0, none⟩ = some (.slice sda sdn sdc) ∧ W.cell? ⟨bd, 1, none⟩ = some (.slice pda pdn pdc) ∧ W.cell? ⟨bd, 2, none⟩ = some (.int .i64 room) ∧ W.cell? ⟨bd, 3, none⟩ = some (.bool false) ∧ W.cell? ⟨bA, 1, none⟩ = some (.int .u8 aat) ∧ W.cell? ⟨bA, 2, none⟩ = some (.int .u8 aby) ∧ Below w5.heap.size w5 W) W) := Lib.hid (fun W h => ⟨(HH5.out.box.step h).c0, (HH5.out.box.step h).c1, (HH5.out.box.step h).c2, (HH5.out.box.step h).c3, (h.cell (p := ⟨bA, 1, none⟩) z5).trans n1, (h.cell (p := ⟨bA, 2, none⟩) z5).trans n2, h⟩)
        have hA0 : Below w5.heap.size w5 (w5.alloc (.cells #[.slice none 0 0, .slice none 0 0, .int .i64 0, .bool false] 25)) := (Below.refl _ _).alloc (Nat.le_refl _) _
        have hA := hA0.drew
        have hk0 : w5.heap.size ≤ w5.heap.size := Nat.le_refl _
        have xA := Lib.hid (Box4.new w5 (.slice none 0 0) (.slice none 0 0) (.int .i64 0) (.bool false) 25).drewn
        obtain ⟨q0, q1, q2, q3, q4, q5, q6, q7, q8⟩ := HH5.out.box
        go_cut [15, 16] from 59 to 157 (fun v15 v16 wx => ∃ (nb : Nat) (s6 p6 : Sl), v15 = .pointer (some ⟨nb, 0, none⟩) ∧ v16 = .int .i64 0 ∧ Box4 wx nb (.slice s6.a s6.n s6.c) (.slice p6.a p6.n p6.c) (.int .i64 room) (.bool false) ∧ Di wx (fun b => (b ≠ bd ∧ b ≠ bl ∧ b ≠ bf ∧ b ≠ bs ∧ u11.ownBlock ≠ some b)) s6 p6 (histD fs (wt ++ [⟨false, aat, aby⟩]) room) ∧ Below w5.heap.size w5 wx ∧ w5.heap.size ≤ nb)
        case first =>
          go_region_held3 (fun W => W.cell? ⟨bd, 0, none⟩ = some (.slice sda sdn sdc) ∧ W.cell? ⟨bd, 1, none⟩ = some (.slice pda pdn pdc) ∧ W.cell? ⟨bd, 2, none⟩ = some (.int .i64 room) ∧ W.cell? ⟨bd, 3, none⟩ = some (.bool false) ∧ W.cell? ⟨bA, 1, none⟩ = some (.int .u8 aat) ∧ W.cell? ⟨bA, 2, none⟩ = some (.int .u8 aby) ∧ Below w5.heap.size w5 W) (first | with_reducible exact SSW.out _ (Below.refl w5.heap.size w5).drew | with_reducible exact SSW.out _ hA | with_reducible exact SSW.out _ ((Below.refl w5.heap.size w5).drew.trans (hb6.mono (Below.refl w5.heap.size w5).drew.size)) | with_reducible exact SSW.out _ (hA.trans (hb6.mono hA.size)) | with_reducible exact SSW.out _ (((Below.refl w5.heap.size w5).drew.trans (hb6.mono (Below.refl w5.heap.size w5).drew.size)).alloc (Nat.le_trans (Below.refl w5.heap.size w5).drew.size hb6.size) _) | with_reducible exact SSW.out _ ((hA.trans (hb6.mono hA.size)).trans (hb7.mono (hA.trans (hb6.mono hA.size)).size)) | with_reducible exact SSW.out _ (((Below.refl w5.heap.size w5).drew.trans (hb6.mono (Below.refl w5.heap.size w5).drew.size)).trans (hb7.mono ((Below.refl w5.heap.size w5).drew.trans (hb6.mono (Below.refl w5.heap.size w5).drew.size)).size)) | with_reducible exact SSW.out _ ((((Below.refl w5.heap.size w5).drew.trans (hb6.mono (Below.refl w5.heap.size w5).drew.size)).alloc (Nat.le_trans (Below.refl w5.heap.size w5).drew.size hb6.size) _).trans (hb7.mono (((Below.refl w5.heap.size w5).drew.trans (hb6.mono (Below.refl w5.heap.size w5).drew.size)).alloc (Nat.le_trans (Below.refl w5.heap.size w5).drew.size hb6.size) _).size)) | with_reducible exact SSW.out _ ((((Below.refl w5.heap.size w5).drew.trans (hb6.mono (Below.refl w5.heap.size w5).drew.size)).trans (hb7.mono ((Below.refl w5.heap.size w5).drew.trans (hb6.mono (Below.refl w5.heap.size w5).drew.size)).size)).alloc (Nat.le_trans (Nat.le_trans (Below.refl w5.heap.size w5).drew.size hb6.size) hb7.size) _) | with_reducible exact SSW.out _ (chain_below ((hA.trans (hb6.mono hA.size)).trans (hb7.mono (hA.trans (hb6.mono hA.size)).size)) hk0 _ _ _ _) | with_reducible exact SSW.out _ (chain_below ((((Below.refl w5.heap.size w5).drew.trans (hb6.mono (Below.refl w5.heap.size w5).drew.size)).alloc (Nat.le_trans (Below.refl w5.heap.size w5).drew.size hb6.size) _).trans (hb7.mono (((Below.refl w5.heap.size w5).drew.trans (hb6.mono (Below.refl w5.heap.size w5).drew.size)).alloc (Nat.le_trans (Below.refl w5.heap.size w5).drew.size hb6.size) _).size)) (Nat.le_trans (Below.refl w5.heap.size w5).drew.size hb6.size) _ _ _ _)) (first | (go_at_call 27; with_reducible refine Calls.mono (DBL.out _) ?_; rintro e w6 ⟨⟨v6, rfl, hv6⟩, hb6⟩) | (go_at_call 19; with_reducible refine Calls.mono (CW.out _ _ (w5.heap.size) (hA.trans (hb6.mono hA.size)) (hv6.mono (fun b hb => ⟨HP.out b (by simp at hb; omega), by simp at hb; omega⟩)) (fun b hb => by have h3 := hb6.size; simp at h3; omega) (fun b hl _ => by omega)) ?_; rintro e w7 ⟨⟨s6, p6, rfl, hd7⟩, hb7⟩; obtain ⟨z0, z1, z2, z3, zf0, zf1, zf2, zf3, zz⟩ := (xA.out.step hb6).step hb7) | (go_at_call 19; with_reducible refine Calls.mono (CW.out _ _ (bd) ((Below.refl w5.heap.size w5).drew.trans (hb6.mono (Below.refl w5.heap.size w5).drew.size)) (hv6.mono (fun b hb => ⟨HP.out b (by simpa using hb), (HP.out b (by simpa using hb)).1⟩)) (fun b hb => (HP.out b (Nat.le_trans hb6.size (by simpa using hb))).1) (fun b _ h => h.1)) ?_; rintro e w7 ⟨⟨s6, p6, rfl, hd7⟩, hb7⟩) | (go_at_call 19; with_reducible refine Calls.mono (CW.out _ _ (w6.heap.size) (((Below.refl w5.heap.size w5).drew.trans (hb6.mono (Below.refl w5.heap.size w5).drew.size)).alloc (Nat.le_trans (Below.refl w5.heap.size w5).drew.size hb6.size) _) ((hv6.mono2 (fun b hb hl => ⟨HP.out b (by simpa using hb), by omega⟩)).step ((Below.refl _ _).alloc (Nat.le_refl _) _)) (fun b hb => by simp at hb; omega) (fun b hl _ => by have h3 := hb6.size; simp at h3; omega)) ?_; rintro e w7 ⟨⟨s6, p6, rfl, hd7⟩, hb7⟩; obtain ⟨z0, z1, z2, z3, zf0, zf1, zf2, zf3, zz⟩ := (Box4.new w6 (.slice none 0 0) (.slice none 0 0) (.int .i64 0) (.bool false) 25).step hb7))
          all_goals
            go_simp
            go_wp2_with fail
            go_meet
            first
              | exact ⟨w7.heap.size, s6, p6, rfl, rfl, Box4.new .., (hd7.mono (fun b h => h.1)).step ((Below.refl _ _).alloc (Nat.le_refl _) _), ((((Below.refl w5.heap.size w5).drew.trans (hb6.mono (Below.refl w5.heap.size w5).drew.size)).trans (hb7.mono ((Below.refl w5.heap.size w5).drew.trans (hb6.mono (Below.refl w5.heap.size w5).drew.size)).size)).alloc (Nat.le_trans (Nat.le_trans (Below.refl w5.heap.size w5).drew.size hb6.size) hb7.size) _), Nat.le_trans (Nat.le_trans (Below.refl w5.heap.size w5).drew.size hb6.size) hb7.size⟩
              | exact ⟨w5.heap.size, s6, p6, rfl, rfl, ((xA.out.step hb6).step hb7).put _ _ _ _, (hd7.keep (Kp.of_grown (put4_keep _ _ _ _) (fun h => h.2 rfl))).mono (fun b h => h.1), put4_below ((hA.trans (hb6.mono hA.size)).trans (hb7.mono (hA.trans (hb6.mono hA.size)).size)) hk0 _ _ _ _, hk0⟩
              | exact ⟨w6.heap.size, s6, p6, rfl, rfl, ((Box4.new w6 (.slice none 0 0) (.slice none 0 0) (.int .i64 0) (.bool false) 25).step hb7).put _ _ _ _, (hd7.keep (Kp.of_grown (put4_keep _ _ _ _) (fun h => h.2 rfl))).mono (fun b h => h.1), put4_below ((((Below.refl w5.heap.size w5).drew.trans (hb6.mono (Below.refl w5.heap.size w5).drew.size)).alloc (Nat.le_trans (Below.refl w5.heap.size w5).drew.size hb6.size) _).trans (hb7.mono (((Below.refl w5.heap.size w5).drew.trans (hb6.mono (Below.refl w5.heap.size w5).drew.size)).alloc (Nat.le_trans (Below.refl w5.heap.size w5).drew.size hb6.size) _).size)) (Nat.le_trans (Below.refl w5.heap.size w5).drew.size hb6.size) _ _ _ _, (Nat.le_trans (Below.refl w5.heap.size w5).drew.size hb6.size)⟩
        case rest =>
          obtain ⟨w8, hwc⟩ : ∃ X, X = wc := ⟨_, rfl⟩
          subst hwc
          obtain ⟨nb, s6, p6, rfl, rfl, hbz, hdz, hb8, hzz⟩ := hcut
          have HBZ := Lib.hid hbz
          have HDZ := Lib.hid (show Di w8 (PB bd bl bf bs u11) s6 p6 _ from hdz)
          have HM8 := Lib.hid ((HH5.out.step hb8).mid ⟨o1, o2, o3, o4, o5⟩)
          have n0 := (hb8.cell (p := ⟨bA, 0, none⟩) z5).trans n0
          have n1 := (hb8.cell (p := ⟨bA, 1, none⟩) z5).trans n1
          have n2 := (hb8.cell (p := ⟨bA, 2, none⟩) z5).trans n2
          have z8 : bA < w8.heap.size := by have := hb8.size; omega
          have hnd : nb ≠ bd := by omega
          have hAd : bA ≠ bd := by omega
          have hAl : bA ≠ bl := by omega
          clear q0 q1 q2 q3 q4 q5 q6 q7 q8 hA0 hA hk0 xA SSW CW DBL HP HH5 hbz hdz hb8
          obtain ⟨q0, q1, q2, q3, q4, q5, q6, q7, q8⟩ := HBZ.out
          obtain ⟨r0, r1, r2, r3, r4, r5, r6, r7, r8⟩ := HM8.out.box
          go_upto_region 21 with fail
          obtain ⟨w9, hw9⟩ : ∃ X, X = put4 w8 bd (.slice s6.a s6.n s6.c) (.slice p6.a p6.n p6.c) (.int .i64 room) (.bool false) := ⟨_, rfl⟩
          have HM9 := Lib.hid (show HM w bd bl bf bs B u11 (.slice s6.a s6.n s6.c) (.slice p6.a p6.n p6.c) (.int .i64 room) (.bool false) (putB fs wt) fs fs wt w9 by rw [hw9]; exact HM8.out.putBox ..)
          have HD9 := Lib.hid (show Di w9 (PB bd bl bf bs u11) s6 p6 (histD fs (wt ++ [⟨false, aat, aby⟩]) room) by rw [hw9]; exact HDZ.out.keep (HM.pbPut ..))
          have n0 : w9.cell? ⟨bA, 0, none⟩ = some (.bool false) := by rw [hw9]; exact (put4_far hAd ..).trans n0
          have n1 : w9.cell? ⟨bA, 1, none⟩ = some (.int .u8 aat) := by rw [hw9]; exact (put4_far hAd ..).trans n1
          have n2 : w9.cell? ⟨bA, 2, none⟩ = some (.int .u8 aby) := by rw [hw9]; exact (put4_far hAd ..).trans n2
          have z9 : bA < w9.heap.size := by rw [hw9]; have := (put4_keep (W := w8) (b := bd) (.slice s6.a s6.n s6.c) (.slice p6.a p6.n p6.c) (.int .i64 room) (.bool false)).size; omega
          unfold put4 at hw9
          rw [← hw9]
          clear q0 q1 q2 q3 q4 q5 q6 q7 q8 r0 r1 r2 r3 r4 r5 r6 r7 r8 hw9 HM8 HDZ HBZ z8 hAd hzz hnd
          have l0 := HM9.out.last.cell t t4
          have l1 := HM9.out.last.free t t4
          have l2 := HM9.out.last.z
          go_upto_region 22 with fail
          obtain ⟨w10, hw10⟩ : ∃ X, X = w9.setCell ⟨bl, t, none⟩ (.int .u8 aby) := ⟨_, rfl⟩
          have HM10 := Lib.hid (show HM w bd bl bf bs B u11 (.slice s6.a s6.n s6.c) (.slice p6.a p6.n p6.c) (.int .i64 room) (.bool false) (putB fs (wt ++ [⟨false, aat, aby⟩])) fs fs wt w10 by
            have h := HM9.out.setLast t4 aby
            rw [hw10, putB_snoc]
            simp only [hem, Int.toNat_natCast]
            exact h)
          have HD10 := Lib.hid (show Di w10 (PB bd bl bf bs u11) s6 p6 (histD fs (wt ++ [⟨false, aat, aby⟩]) room) by rw [hw10]; exact HD9.out.keep (HM.pbLast ..))
          have n0 : w10.cell? ⟨bA, 0, none⟩ = some (.bool false) := by rw [hw10, set_far _ _ _ _ (addr_ne_b hAl.symm)]; exact n0
          have n1 : w10.cell? ⟨bA, 1, none⟩ = some (.int .u8 aat) := by rw [hw10, set_far _ _ _ _ (addr_ne_b hAl.symm)]; exact n1
          have n2 : w10.cell? ⟨bA, 2, none⟩ = some (.int .u8 aby) := by rw [hw10, set_far _ _ _ _ (addr_ne_b hAl.symm)]; exact n2
          have z10 : bA < w10.heap.size := by rw [hw10]; simpa [World.setCell] using z9
          rw [← hw10]
          clear l0 l1 l2 z9 hAl hw10 HM9 HD9
          obtain ⟨i0, hi0, hz0, hz1, hz2⟩ := infoAc_parts
          have HI0 := Lib.hid hi0
          clear hi0
          have hBz : B ≤ w10.heap.size := by have := o6.out; have := HM10.out.second.z; omega
          go_wp2_with (at_builtin; refine stop_mk ?_)
          refine stop_out (wpList_append_reads (en := Ac.enc) (sz := 3) _ rfl _ _ _ rfl Ac.enc_len Ac.enc_one B 46 i0 _ 3 Try.underlying43 HI0.out hz0 hz1 hz2 rfl (by omega) _ wt rfl (HM10.out.wait.alloc _) (w10.heap.size + 1) (some ⟨w10.heap.size, 0, none⟩) 1 [⟨false, aat, aby⟩] rfl (reads_one w10 Ac.enc ⟨false, aat, aby⟩ _ _ rfl 3 w10.heap.size rfl) (fun h => by cases h) (by simp [maxLen]; omega) (by simp; omega) (by simp; omega) ?_)
          intro v11 w11 ho11 hg11 hv11 _
          have HM11 := Lib.hid ((HM10.out.step ((Below.refl _ _).alloc (Nat.le_refl _) _)).append ho11 hg11)
          have HD11 := Lib.hid (HM.pbAppend (HD10.out.step ((Below.refl _ _).alloc (Nat.le_refl _) _)) hg11 hv11)
          clear ho11 hg11 hv11 HM10 HD10 n0 n1 n2 z10 hBz
          obtain ⟨f0, f1, f2, f3, hL⟩ : ∃ f0 f1 f2 f3, putB fs (wt ++ [⟨false, aat, aby⟩]) = [f0, f1, f2, f3] := by
            obtain ⟨f0, f1, f2, f3, h, _⟩ := HM11.out.last.box
            exact ⟨f0, f1, f2, f3, h⟩
          have hLa := HM11.out.last
          rw [hL] at hLa
          have HHO := Lib.hid (holds_hist (P := PB bd bl bf bs v11) (wt := wt ++ [⟨false, aat, aby⟩]) (room := room) s6 p6 f0 f1 f2 f3 w11 hfs (by simp; omega) (by omega) (by omega) hL HD11.out)
          have HL := Lib.hid hL
          clear hL
          obtain ⟨q0, q1, q2, q3, q4, q5, q6, q7, q8⟩ := HM11.out.box
          obtain ⟨r0, r1, r2, r3, r4, r5, r6, r7, r8⟩ := hLa.box4
          clear hLa
          go_wp2_with fail
          refine HHO.out.mono ?_
          rintro e w12 ⟨rfl, hb12⟩
          have HM12 := Lib.hid (HM11.out.step hb12)
          have HD12 := Lib.hid (HD11.out.step hb12)
          clear hb12 q0 q1 q2 q3 q4 q5 q6 q7 q8 r0 r1 r2 r3 r4 r5 r6 r7 r8 HHO
          go_wp2_with fail
          go_roundw
          case rel => exact ⟨k + 1, s6, p6, fs, wt ++ [⟨false, aat, aby⟩], room, by omega, by go_num, rfl, hroom, hfs, by simp; omega, fun a ha => by
              rcases List.mem_append.1 ha with h | h
              · exact HWO.out a h
              · obtain rfl := List.mem_singleton.1 h
                exact ⟨⟨at0, at1⟩, by0, by1⟩, HM12.out.hi HD12.out⟩
          case measure => simp [intOf]; omega
      · obtain ⟨Aw, cw, hvw, hwnil, _⟩ := HH.out.wait.shape
        subst hvw
        go_upto_region 23 with fail
        obtain ⟨w5, hw5⟩ : ∃ X, X = wr.alloc (.cells #[.bool true, .int .u8 aat, .int .u8 aby] 46) := ⟨_, rfl⟩
        have h5 : Below wr.heap.size wr w5 := by rw [hw5]; exact (Below.refl _ _).alloc (Nat.le_refl _) _
        have HM5 := Lib.hid ((HH.out.step h5).mid ⟨o1, o2, o3, o4, o5⟩)
        have HD5 := Lib.hid (show Di w5 (PB bd bl bf bs (.slice Aw wt.length cw)) ⟨sda, sdn, sdc⟩ ⟨pda, pdn, pdc⟩ (histD fs wt room) from (HH.out.step h5).disk)
        rw [← hw5]
        obtain ⟨bA, hbA⟩ : ∃ x, x = wr.heap.size := ⟨_, rfl⟩
        rw [← hbA]
        have hhl := HH.out.wait.lt
        clear hw5 h5 a0 a1 a2 hba2 HH hbA hwnil at0 at1 by0 by1
        by_cases hst : room < wt.length
        · obtain ⟨ss, hYE, hsl, hsb, hsr⟩ := hist_stop hfs (by omega) hroom hst
          have hnw : ∀ b, w5.heap.size ≤ b → PB bd bl bf bs (.slice Aw wt.length cw) b := fun b hb => by
            have h1 := HM5.out.lt
            exact ⟨by omega, by omega, by omega, by omega, fun e => by have := HM5.out.wait.lt b e; omega⟩
          have hS := Sync_any (P := PB bd bl bf bs (.slice Aw wt.length cw)) (histD fs wt room) ⟨sda, sdn, sdc⟩ ⟨pda, pdn, pdc⟩ w5 HD5.out
          rw [hYE] at hS
          have HNW := Lib.hid hnw
          have HS := Lib.hid hS
          clear hS hnw hYE
          simp only [dkV, show (histD fs wt room).left = room from rfl, show (histD fs wt room).stopped = false from rfl] at HS
          obtain ⟨q0, q1, q2, q3, q4, q5, q6, q7, q8⟩ := HM5.out.box
          go_wp2_with fail
          refine HS.out.mono ?_
          rintro e w6 ⟨⟨s7, p7, rfl, hdn⟩, hb6⟩
          have HD6 := Lib.hid (hdn.nw HNW.out)
          have HM6 := Lib.hid (HM5.out.step hb6)
          clear hdn hb6 q0 q1 q2 q3 q4 q5 q6 q7 q8 HS HNW HM5 HD5
          go_upto_region 25 with fail
          obtain ⟨W7, hW7⟩ : ∃ X, X = w6.alloc (.cells #[.slice s7.a s7.n s7.c, .slice p7.a p7.n p7.c, .int .i64 0, .bool true] 25) := ⟨_, rfl⟩
          have h7 : Below w6.heap.size w6 W7 := by rw [hW7]; exact (Below.refl _ _).alloc (Nat.le_refl _) _
          have HB7 := Lib.hid (show Box4 W7 w6.heap.size (.slice s7.a s7.n s7.c) (.slice p7.a p7.n p7.c) (.int .i64 0) (.bool true) by rw [hW7]; exact Box4.new ..)
          have HM7 := Lib.hid (HM6.out.step h7)
          have HD7 := Lib.hid (HD6.out.step h7)
          have z6 : bs < w6.heap.size := HM6.out.second.z
          have w6o : ∀ g, (Value.slice Aw wt.length cw).ownBlock = some g → g < w6.heap.size := HM6.out.wait.lt
          have w6b : ∀ g, (Value.slice Aw wt.length cw).ownBlock = some g → B ≤ g := HM6.out.wait.base_le
          have HOW := Lib.hid (show (∀ g, (Value.slice Aw wt.length cw).ownBlock = some g → g < w6.heap.size ∧ B ≤ g) from fun g h => ⟨w6o g h, w6b g h⟩)
          rw [← hW7]
          clear hW7 h7 HM6 HD6 w6o w6b
          obtain ⟨nb, hnb⟩ : ∃ x, x = w6.heap.size := ⟨_, rfl⟩
          rw [← hnb] at HB7 HOW z6 ⊢
          clear hnb
          go_wp2_with fail
          go_loopw [20] (fun v20 W => ∃ j : Nat, j ≤ wt.length ∧ j ≤ room + 1 ∧ v20 = .int .i64 j ∧ HM w bd bl bf bs B (.slice Aw wt.length cw) (.slice sda sdn sdc) (.slice pda pdn pdc) (.int .i64 room) (.bool false) (putB fs wt) (putB fs (wt.take j)) (putB fs (wt.take (min j room))) wt W ∧ Di W (PB bd bl bf bs (.slice Aw wt.length cw)) s7 p7 ⟨ss, [], 0, true⟩ ∧ Box4 W nb (.slice s7.a s7.n s7.c) (.slice p7.a p7.n p7.c) (.int .i64 0) (.bool true)) (fun v20 _ => wt.length - (intOf v20).toNat)
          case atStart => exact ⟨0, Nat.zero_le _, Nat.zero_le _, rfl, by simpa [putB] using HM7.out, HD7.out, HB7.out⟩
          case round =>
            clear HM7 HD7 HB7
            obtain ⟨j, hj1, hj2, rfl, hm, hd, hbx⟩ := hrel
            have HMr := Lib.hid hm
            have HDr := Lib.hid hd
            have HBr := Lib.hid hbx
            clear hm hd hbx
            by_cases hjl : j < wt.length ∧ j ≤ room
            · obtain ⟨hjl, hjr⟩ := hjl
              obtain ⟨g, og, x, hAe, hg, hxk, hxc⟩ := (HMr.out.wait.reads Ac.enc_len).at_ hjl
              subst hAe
              have hgB := HOW.out g rfl
              have hxok := HWO.out x (List.mem_of_getElem? hxk)
              have htk : wt.take (j + 1) = wt.take j ++ [x] := by rw [List.take_add_one, hxk]; rfl
              obtain ⟨xsy, xat, xby⟩ := x
              obtain ⟨⟨at0, at1⟩, by0, by1⟩ := hxok
              simp only at at0 at1 by0 by1
              have e1 := hxc 1 _ rfl
              have e2 := hxc 2 _ rfl
              obtain ⟨t, ht⟩ : ∃ t : Nat, (t : Int) = xat % 4 := ⟨(xat % 4).toNat, by omega⟩
              have t4 : t < 4 := by omega
              have htm : xat.tmod 4 = t := by rw [ht]; exact Int.tmod_eq_emod_of_nonneg at0
              have hem : xat % 4 = t := ht.symm
              have hwu : IntKind.u8.wrap (t : Int) = t := by rw [IntKind.wrap_u8]; omega
              have hwi : IntKind.i64.wrap (t : Int) = t := by rw [IntKind.wrap_i64]; omega
              have hp1 : putB fs (wt.take (j + 1)) = (putB fs (wt.take j)).set t xby := by
                rw [htk, putB_snoc]
                simp only [hem, Int.toNat_natCast]
              have HP1 := Lib.hid hp1
              have d1 : decide ((j : Int) < (wt.length : Int)) = true := by simpa using hjl
              have d2 : decide (j < wt.length) = true := by simpa using hjl
              have d3 : decide ((j : Int) ≤ (room : Int)) = true := by simpa using hjr
              have d4 : decide (j ≤ room) = true := by simpa using hjr
              clear hxc ht htk hp1 hxk
              have l0 := HMr.out.first.cell t t4
              have l1 := HMr.out.first.free t t4
              have l2 := HMr.out.first.z
              go_upto_region 28 with fail
              go_region
              obtain ⟨w8, hw8⟩ : ∃ X, X = (wr.setCell ⟨bf, t, none⟩ (.int .u8 xby)).drew := ⟨_, rfl⟩
              have HM8 := Lib.hid (show HM w bd bl bf bs B (.slice (some ⟨g, og, none⟩) wt.length cw) (.slice sda sdn sdc) (.slice pda pdn pdc) (.int .i64 room) (.bool false) (putB fs wt) (putB fs (wt.take (j + 1))) (putB fs (wt.take (min j room))) wt w8 by
                rw [hw8, HP1.out]
                exact (HMr.out.setFirst t4 xby).step (Below.refl _ _).drew)
              have HD8 := Lib.hid (show Di w8 (PB bd bl bf bs (.slice (some ⟨g, og, none⟩) wt.length cw)) s7 p7 ⟨ss, [], 0, true⟩ by rw [hw8]; exact (HDr.out.keep (HM.pbFirst ..)).step (Below.refl _ _).drew)
              have HB8 := Lib.hid (show Box4 w8 nb (.slice s7.a s7.n s7.c) (.slice p7.a p7.n p7.c) (.int .i64 0) (.bool true) by rw [hw8]; exact (HBr.out.far (grownBy_setCell' _ _ _) (by simp; omega)).step (Below.refl _ _).drew)
              have e1 : w8.cell? ⟨g, og + j * 3 + 1, none⟩ = some (.int .u8 xat) := by rw [hw8, World.cell?_drew, set_far _ _ _ _ (addr_ne_b (by omega))]; exact e1
              have e2 : w8.cell? ⟨g, og + j * 3 + 2, none⟩ = some (.int .u8 xby) := by rw [hw8, World.cell?_drew, set_far _ _ _ _ (addr_ne_b (by omega))]; exact e2
              have z8 : g < w8.heap.size := by rw [hw8]; simpa [World.setCell] using hg
              rw [← hw8]
              clear hw8 HMr HDr HBr l0 l1 l2 hg
              by_cases hjs : j < room
              · have d5 : decide ((j : Int) < (room : Int)) = true := by simpa using hjs
                have d6 : decide (j < room) = true := by simpa using hjs
                have hm1 : min j room = j := by omega
                have hm2 : min (j + 1) room = j + 1 := by omega
                rw [hm1] at HM8
                have l0 := HM8.out.second.cell t t4
                have l1 := HM8.out.second.free t t4
                have l2 := HM8.out.second.z
                clear hm1
                have HM2 := Lib.hid hm2
                clear hm2
                go_upto_region 30 with fail
                go_region
                obtain ⟨w9, hw9⟩ : ∃ X, X = (w8.setCell ⟨bs, t, none⟩ (.int .u8 xby)).drew := ⟨_, rfl⟩
                have HM9 := Lib.hid (show HM w bd bl bf bs B (.slice (some ⟨g, og, none⟩) wt.length cw) (.slice sda sdn sdc) (.slice pda pdn pdc) (.int .i64 room) (.bool false) (putB fs wt) (putB fs (wt.take (j + 1))) (putB fs (wt.take (min (j + 1) room))) wt w9 by
                  rw [hw9, HM2.out]
                  rw [show putB fs (wt.take (j + 1)) = (putB fs (wt.take j)).set t xby from HP1.out]
                  have h := (HM8.out.setSecond t4 xby).step (Below.refl _ _).drew
                  rw [HP1.out] at h
                  exact h)
                have HD9 := Lib.hid (show Di w9 (PB bd bl bf bs (.slice (some ⟨g, og, none⟩) wt.length cw)) s7 p7 ⟨ss, [], 0, true⟩ by rw [hw9]; exact (HD8.out.keep (HM.pbSecond ..)).step (Below.refl _ _).drew)
                have HB9 := Lib.hid (show Box4 w9 nb (.slice s7.a s7.n s7.c) (.slice p7.a p7.n p7.c) (.int .i64 0) (.bool true) by rw [hw9]; exact (HB8.out.far (grownBy_setCell' _ _ _) (by simp; omega)).step (Below.refl _ _).drew)
                rw [← hw9]
                clear hw9 HM8 HD8 HB8 l0 l1 l2 e1 e2 z8
                go_wp2_with fail
                go_roundw
                case rel => exact ⟨j + 1, by omega, by omega, by go_num, HM9.out, HD9.out, HB9.out⟩
                case measure => simp [intOf]; omega
              · have d5 : decide ((j : Int) < (room : Int)) = false := by simpa using hjs
                have d6 : decide (j < room) = false := by simpa using hjs
                have HM9 := Lib.hid (show HM w bd bl bf bs B (.slice (some ⟨g, og, none⟩) wt.length cw) (.slice sda sdn sdc) (.slice pda pdn pdc) (.int .i64 room) (.bool false) (putB fs wt) (putB fs (wt.take (j + 1))) (putB fs (wt.take (min (j + 1) room))) wt w8 by
                  rw [show min (j + 1) room = min j room by omega]
                  exact HM8.out)
                clear HM8
                go_wp2_with fail
                go_roundw
                case rel => exact ⟨j + 1, by omega, by omega, by go_num, HM9.out, HD8.out, HB8.out⟩
                case measure => simp [intOf]; omega
            · have hje : j = room + 1 := by omega
              rw [show min j room = room by omega, show wt.take j = wt.take (room + 1) by rw [hje]] at HMr
              obtain ⟨w9, hw9⟩ : ∃ X, X = wr := ⟨_, rfl⟩
              subst hw9
              obtain ⟨f0, f1, f2, f3, hF, bF⟩ := HMr.out.first.box
              obtain ⟨s0, s1, s2, s3, hG, bS⟩ := HMr.out.second.box
              rw [hF, hG] at hsr
              have RS : Hid (∀ W, Below w9.heap.size w9 W → Calls Try.prog 17 #[.agg #[.slice s7.a s7.n s7.c, .slice p7.a p7.n p7.c, .int .i64 0, .bool true]] W fun e w' => e = .returned (.agg #[.slice s7.a s7.n s7.c, .slice none 0 0, .int .i64 (-1), .bool false]) ∧ Below W.heap.size W w') := Lib.hid (fun W h => by
                have h2 := Restart_cell ⟨ss, [], 0, true⟩ s7 p7 W (HDr.out.step h)
                simpa only [dkV, restartD] using h2)
              have HO : Hid (∀ W, Below w9.heap.size w9 W → Calls Try.prog 28 #[.agg #[.slice s7.a s7.n s7.c, .slice none 0 0, .int .i64 (-1), .bool false], .agg #[.int .u8 f0, .int .u8 f1, .int .u8 f2, .int .u8 f3], .agg #[.int .u8 s0, .int .u8 s1, .int .u8 s2, .int .u8 s3]] W fun e w' => e = .returned (.bool true) ∧ Below W.heap.size W w') := Lib.hid (fun W h => by
                have h2 := holds_any (restartD ⟨ss, [], 0, true⟩) s7 ⟨none, 0, 0⟩ f0 f1 f2 f3 s0 s1 s2 s3 W (HDr.out.step h).restart (fun k hk => restart_read hsl hsb hsr hk)
                simpa only [dkV, restartD] using h2)
              have SS : Hid (∀ W, Below w9.heap.size w9 W → (fun W => W.cell? ⟨nb, 0, none⟩ = some (.slice s7.a s7.n s7.c) ∧ W.cell? ⟨nb, 1, none⟩ = some (.slice p7.a p7.n p7.c) ∧ W.cell? ⟨nb, 2, none⟩ = some (.int .i64 0) ∧ W.cell? ⟨nb, 3, none⟩ = some (.bool true) ∧ W.cell? ⟨bf, 0, none⟩ = some (.int .u8 f0) ∧ W.cell? ⟨bf, 1, none⟩ = some (.int .u8 f1) ∧ W.cell? ⟨bf, 2, none⟩ = some (.int .u8 f2) ∧ W.cell? ⟨bf, 3, none⟩ = some (.int .u8 f3) ∧ W.cell? ⟨bs, 0, none⟩ = some (.int .u8 s0) ∧ W.cell? ⟨bs, 1, none⟩ = some (.int .u8 s1) ∧ W.cell? ⟨bs, 2, none⟩ = some (.int .u8 s2) ∧ W.cell? ⟨bs, 3, none⟩ = some (.int .u8 s3) ∧ Below w9.heap.size w9 W) W) := Lib.hid (fun W h => ⟨(HBr.out.step h).c0, (HBr.out.step h).c1, (HBr.out.step h).c2, (HBr.out.step h).c3, (bF.step h).c0, (bF.step h).c1, (bF.step h).c2, (bF.step h).c3, (bS.step h).c0, (bS.step h).c1, (bS.step h).c2, (bS.step h).c3, h⟩)
              obtain ⟨q0, q1, q2, q3, q4, q5, q6, q7, q8⟩ := HBr.out
              obtain ⟨r0, r1, r2, r3, r4, r5, r6, r7, r8⟩ := bF
              obtain ⟨t0, t1, t2, t3, t4, t5, t6, t7, t8⟩ := bS
              have d3 : decide ((j : Int) ≤ (room : Int)) = false := by simp; omega
              have d4 : decide (j ≤ room) = false := by simp; omega
              have HBE := Lib.hid HMr.out.bel
              clear HMr HDr HBr HOW hsr hsl hsb hjl hj1 hj2 hF hG hje
              by_cases hrl : j < wt.length
              · have d1 : decide ((j : Int) < (wt.length : Int)) = true := by simpa using hrl
                have d2 : decide (j < wt.length) = true := by simpa using hrl
                clear hrl
                go_upto_region 32 with fail
                go_region_held3 (fun W => W.cell? ⟨nb, 0, none⟩ = some (.slice s7.a s7.n s7.c) ∧ W.cell? ⟨nb, 1, none⟩ = some (.slice p7.a p7.n p7.c) ∧ W.cell? ⟨nb, 2, none⟩ = some (.int .i64 0) ∧ W.cell? ⟨nb, 3, none⟩ = some (.bool true) ∧ W.cell? ⟨bf, 0, none⟩ = some (.int .u8 f0) ∧ W.cell? ⟨bf, 1, none⟩ = some (.int .u8 f1) ∧ W.cell? ⟨bf, 2, none⟩ = some (.int .u8 f2) ∧ W.cell? ⟨bf, 3, none⟩ = some (.int .u8 f3) ∧ W.cell? ⟨bs, 0, none⟩ = some (.int .u8 s0) ∧ W.cell? ⟨bs, 1, none⟩ = some (.int .u8 s1) ∧ W.cell? ⟨bs, 2, none⟩ = some (.int .u8 s2) ∧ W.cell? ⟨bs, 3, none⟩ = some (.int .u8 s3) ∧ Below w9.heap.size w9 W) (first | with_reducible exact SS.out _ (((Below.refl w9.heap.size w9).drew.trans (hb6.mono (Below.refl w9.heap.size w9).drew.size)).trans (hb7.mono ((Below.refl w9.heap.size w9).drew.trans (hb6.mono (Below.refl w9.heap.size w9).drew.size)).size)) | with_reducible exact SS.out _ (Below.refl w9.heap.size w9).drew | with_reducible exact SS.out _ ((Below.refl w9.heap.size w9).drew.trans (hb6.mono (Below.refl w9.heap.size w9).drew.size)) | with_reducible exact SS.out _ (((Below.refl w9.heap.size w9).drew.trans (hb6.mono (Below.refl w9.heap.size w9).drew.size)).drew)) (first | (go_at_call 17; with_reducible refine Calls.mono (RS.out _ (Below.refl w9.heap.size w9).drew) ?_; rintro e w6 ⟨rfl, hb6⟩) | (go_at_call 28; with_reducible refine Calls.mono (HO.out _ ((Below.refl w9.heap.size w9).drew.trans (hb6.mono (Below.refl w9.heap.size w9).drew.size))) ?_; rintro e w7 ⟨rfl, hb7⟩))
                all_goals
                  go_simp
                  go_wp2_with fail
                  go_ret
                  exact ⟨rfl, HBE.out.trans ((((Below.refl w9.heap.size w9).drew.trans (hb6.mono (Below.refl w9.heap.size w9).drew.size)).trans (hb7.mono ((Below.refl w9.heap.size w9).drew.trans (hb6.mono (Below.refl w9.heap.size w9).drew.size)).size)).mono HBE.out.size)⟩
              · have d1 : decide ((j : Int) < (wt.length : Int)) = false := by simpa using hrl
                have d2 : decide (j < wt.length) = false := by simpa using hrl
                clear hrl
                go_upto_region 32 with fail
                go_region_held3 (fun W => W.cell? ⟨nb, 0, none⟩ = some (.slice s7.a s7.n s7.c) ∧ W.cell? ⟨nb, 1, none⟩ = some (.slice p7.a p7.n p7.c) ∧ W.cell? ⟨nb, 2, none⟩ = some (.int .i64 0) ∧ W.cell? ⟨nb, 3, none⟩ = some (.bool true) ∧ W.cell? ⟨bf, 0, none⟩ = some (.int .u8 f0) ∧ W.cell? ⟨bf, 1, none⟩ = some (.int .u8 f1) ∧ W.cell? ⟨bf, 2, none⟩ = some (.int .u8 f2) ∧ W.cell? ⟨bf, 3, none⟩ = some (.int .u8 f3) ∧ W.cell? ⟨bs, 0, none⟩ = some (.int .u8 s0) ∧ W.cell? ⟨bs, 1, none⟩ = some (.int .u8 s1) ∧ W.cell? ⟨bs, 2, none⟩ = some (.int .u8 s2) ∧ W.cell? ⟨bs, 3, none⟩ = some (.int .u8 s3) ∧ Below w9.heap.size w9 W) (first | with_reducible exact SS.out _ (((Below.refl w9.heap.size w9).drew.trans (hb6.mono (Below.refl w9.heap.size w9).drew.size)).trans (hb7.mono ((Below.refl w9.heap.size w9).drew.trans (hb6.mono (Below.refl w9.heap.size w9).drew.size)).size)) | with_reducible exact SS.out _ (Below.refl w9.heap.size w9).drew | with_reducible exact SS.out _ ((Below.refl w9.heap.size w9).drew.trans (hb6.mono (Below.refl w9.heap.size w9).drew.size)) | with_reducible exact SS.out _ (((Below.refl w9.heap.size w9).drew.trans (hb6.mono (Below.refl w9.heap.size w9).drew.size)).drew)) (first | (go_at_call 17; with_reducible refine Calls.mono (RS.out _ (Below.refl w9.heap.size w9).drew) ?_; rintro e w6 ⟨rfl, hb6⟩) | (go_at_call 28; with_reducible refine Calls.mono (HO.out _ ((Below.refl w9.heap.size w9).drew.trans (hb6.mono (Below.refl w9.heap.size w9).drew.size))) ?_; rintro e w7 ⟨rfl, hb7⟩))
                all_goals
                  go_simp
                  go_wp2_with fail
                  go_ret
                  exact ⟨rfl, HBE.out.trans ((((Below.refl w9.heap.size w9).drew.trans (hb6.mono (Below.refl w9.heap.size w9).drew.size)).trans (hb7.mono ((Below.refl w9.heap.size w9).drew.trans (hb6.mono (Below.refl w9.heap.size w9).drew.size)).size)).mono HBE.out.size)⟩
        · obtain ⟨r9, hr9⟩ : ∃ r : Nat, (r : Int) = room - wt.length := ⟨room - wt.length, by omega⟩
          have hr9b : r9 ≤ 255 := by omega
          have hYE := hist_sync (room := room) (wt := wt) hfs (by omega) (by omega) (by omega) (by omega)
          rw [← hr9] at hYE
          have HR9 := Lib.hid hr9
          clear hr9
          have hnw : ∀ b, w5.heap.size ≤ b → PB bd bl bf bs (.slice Aw wt.length cw) b := fun b hb => by
            have h1 := HM5.out.lt
            exact ⟨by omega, by omega, by omega, by omega, fun e => by have := HM5.out.wait.lt b e; omega⟩
          have hS := Sync_any (P := PB bd bl bf bs (.slice Aw wt.length cw)) (histD fs wt room) ⟨sda, sdn, sdc⟩ ⟨pda, pdn, pdc⟩ w5 HD5.out
          rw [hYE] at hS
          have HNW := Lib.hid hnw
          have HS := Lib.hid hS
          clear hS hnw hYE
          simp only [dkV, show (histD fs wt room).left = room from rfl, show (histD fs wt room).stopped = false from rfl, show (histD (putB fs wt) [] (r9 : Int)).left = (r9 : Int) from rfl, show (histD (putB fs wt) [] (r9 : Int)).stopped = false from rfl] at HS
          obtain ⟨q0, q1, q2, q3, q4, q5, q6, q7, q8⟩ := HM5.out.box
          go_wp2_with fail
          refine HS.out.mono ?_
          rintro e w6 ⟨⟨s7, p7, rfl, hdn⟩, hb6⟩
          have HD6 := Lib.hid (hdn.nw HNW.out)
          have HM6 := Lib.hid (HM5.out.step hb6)
          clear hdn hb6 q0 q1 q2 q3 q4 q5 q6 q7 q8 HS HNW HM5 HD5
          go_upto_region 25 with fail
          obtain ⟨W7, hW7⟩ : ∃ X, X = w6.alloc (.cells #[.slice s7.a s7.n s7.c, .slice p7.a p7.n p7.c, .int .i64 (r9 : Int), .bool false] 25) := ⟨_, rfl⟩
          have h7 : Below w6.heap.size w6 W7 := by rw [hW7]; exact (Below.refl _ _).alloc (Nat.le_refl _) _
          have HB7 := Lib.hid (show Box4 W7 w6.heap.size (.slice s7.a s7.n s7.c) (.slice p7.a p7.n p7.c) (.int .i64 (r9 : Int)) (.bool false) by rw [hW7]; exact Box4.new ..)
          have HM7 := Lib.hid (HM6.out.step h7)
          have HD7 := Lib.hid (HD6.out.step h7)
          have z6 : bs < w6.heap.size := HM6.out.second.z
          have w6o : ∀ g, (Value.slice Aw wt.length cw).ownBlock = some g → g < w6.heap.size := HM6.out.wait.lt
          have w6b : ∀ g, (Value.slice Aw wt.length cw).ownBlock = some g → B ≤ g := HM6.out.wait.base_le
          have HOW := Lib.hid (show (∀ g, (Value.slice Aw wt.length cw).ownBlock = some g → g < w6.heap.size ∧ B ≤ g) from fun g h => ⟨w6o g h, w6b g h⟩)
          rw [← hW7]
          clear hW7 h7 HM6 HD6 w6o w6b
          obtain ⟨nb, hnb⟩ : ∃ x, x = w6.heap.size := ⟨_, rfl⟩
          rw [← hnb] at HB7 HOW z6 ⊢
          clear hnb
          go_wp2_with fail
          go_loopw [20] (fun v20 W => ∃ j : Nat, j ≤ wt.length ∧ j ≤ room + 1 ∧ v20 = .int .i64 j ∧ HM w bd bl bf bs B (.slice Aw wt.length cw) (.slice sda sdn sdc) (.slice pda pdn pdc) (.int .i64 room) (.bool false) (putB fs wt) (putB fs (wt.take j)) (putB fs (wt.take (min j room))) wt W ∧ Di W (PB bd bl bf bs (.slice Aw wt.length cw)) s7 p7 (histD (putB fs wt) [] r9) ∧ Box4 W nb (.slice s7.a s7.n s7.c) (.slice p7.a p7.n p7.c) (.int .i64 (r9 : Int)) (.bool false)) (fun v20 _ => wt.length - (intOf v20).toNat)
          case atStart => exact ⟨0, Nat.zero_le _, Nat.zero_le _, rfl, by simpa [putB] using HM7.out, HD7.out, HB7.out⟩
          case round =>
            clear HM7 HD7 HB7
            obtain ⟨j, hj1, hj2, rfl, hm, hd, hbx⟩ := hrel
            have HMr := Lib.hid hm
            have HDr := Lib.hid hd
            have HBr := Lib.hid hbx
            clear hm hd hbx
            by_cases hjl : j < wt.length ∧ j ≤ room
            · obtain ⟨hjl, hjr⟩ := hjl
              obtain ⟨g, og, x, hAe, hg, hxk, hxc⟩ := (HMr.out.wait.reads Ac.enc_len).at_ hjl
              subst hAe
              have hgB := HOW.out g rfl
              have hxok := HWO.out x (List.mem_of_getElem? hxk)
              have htk : wt.take (j + 1) = wt.take j ++ [x] := by rw [List.take_add_one, hxk]; rfl
              obtain ⟨xsy, xat, xby⟩ := x
              obtain ⟨⟨at0, at1⟩, by0, by1⟩ := hxok
              simp only at at0 at1 by0 by1
              have e1 := hxc 1 _ rfl
              have e2 := hxc 2 _ rfl
              obtain ⟨t, ht⟩ : ∃ t : Nat, (t : Int) = xat % 4 := ⟨(xat % 4).toNat, by omega⟩
              have t4 : t < 4 := by omega
              have htm : xat.tmod 4 = t := by rw [ht]; exact Int.tmod_eq_emod_of_nonneg at0
              have hem : xat % 4 = t := ht.symm
              have hwu : IntKind.u8.wrap (t : Int) = t := by rw [IntKind.wrap_u8]; omega
              have hwi : IntKind.i64.wrap (t : Int) = t := by rw [IntKind.wrap_i64]; omega
              have hp1 : putB fs (wt.take (j + 1)) = (putB fs (wt.take j)).set t xby := by
                rw [htk, putB_snoc]
                simp only [hem, Int.toNat_natCast]
              have HP1 := Lib.hid hp1
              have d1 : decide ((j : Int) < (wt.length : Int)) = true := by simpa using hjl
              have d2 : decide (j < wt.length) = true := by simpa using hjl
              have d3 : decide ((j : Int) ≤ (room : Int)) = true := by simpa using hjr
              have d4 : decide (j ≤ room) = true := by simpa using hjr
              clear hxc ht htk hp1 hxk
              have l0 := HMr.out.first.cell t t4
              have l1 := HMr.out.first.free t t4
              have l2 := HMr.out.first.z
              go_upto_region 28 with fail
              go_region
              obtain ⟨w8, hw8⟩ : ∃ X, X = (wr.setCell ⟨bf, t, none⟩ (.int .u8 xby)).drew := ⟨_, rfl⟩
              have HM8 := Lib.hid (show HM w bd bl bf bs B (.slice (some ⟨g, og, none⟩) wt.length cw) (.slice sda sdn sdc) (.slice pda pdn pdc) (.int .i64 room) (.bool false) (putB fs wt) (putB fs (wt.take (j + 1))) (putB fs (wt.take (min j room))) wt w8 by
                rw [hw8, HP1.out]
                exact (HMr.out.setFirst t4 xby).step (Below.refl _ _).drew)
              have HD8 := Lib.hid (show Di w8 (PB bd bl bf bs (.slice (some ⟨g, og, none⟩) wt.length cw)) s7 p7 (histD (putB fs wt) [] r9) by rw [hw8]; exact (HDr.out.keep (HM.pbFirst ..)).step (Below.refl _ _).drew)
              have HB8 := Lib.hid (show Box4 w8 nb (.slice s7.a s7.n s7.c) (.slice p7.a p7.n p7.c) (.int .i64 (r9 : Int)) (.bool false) by rw [hw8]; exact (HBr.out.far (grownBy_setCell' _ _ _) (by simp; omega)).step (Below.refl _ _).drew)
              have e1 : w8.cell? ⟨g, og + j * 3 + 1, none⟩ = some (.int .u8 xat) := by rw [hw8, World.cell?_drew, set_far _ _ _ _ (addr_ne_b (by omega))]; exact e1
              have e2 : w8.cell? ⟨g, og + j * 3 + 2, none⟩ = some (.int .u8 xby) := by rw [hw8, World.cell?_drew, set_far _ _ _ _ (addr_ne_b (by omega))]; exact e2
              have z8 : g < w8.heap.size := by rw [hw8]; simpa [World.setCell] using hg
              rw [← hw8]
              clear hw8 HMr HDr HBr l0 l1 l2 hg
              by_cases hjs : j < room
              · have d5 : decide ((j : Int) < (room : Int)) = true := by simpa using hjs
                have d6 : decide (j < room) = true := by simpa using hjs
                have hm1 : min j room = j := by omega
                have hm2 : min (j + 1) room = j + 1 := by omega
                rw [hm1] at HM8
                have l0 := HM8.out.second.cell t t4
                have l1 := HM8.out.second.free t t4
                have l2 := HM8.out.second.z
                clear hm1
                have HM2 := Lib.hid hm2
                clear hm2
                go_upto_region 30 with fail
                go_region
                obtain ⟨w9, hw9⟩ : ∃ X, X = (w8.setCell ⟨bs, t, none⟩ (.int .u8 xby)).drew := ⟨_, rfl⟩
                have HM9 := Lib.hid (show HM w bd bl bf bs B (.slice (some ⟨g, og, none⟩) wt.length cw) (.slice sda sdn sdc) (.slice pda pdn pdc) (.int .i64 room) (.bool false) (putB fs wt) (putB fs (wt.take (j + 1))) (putB fs (wt.take (min (j + 1) room))) wt w9 by
                  rw [hw9, HM2.out]
                  rw [show putB fs (wt.take (j + 1)) = (putB fs (wt.take j)).set t xby from HP1.out]
                  have h := (HM8.out.setSecond t4 xby).step (Below.refl _ _).drew
                  rw [HP1.out] at h
                  exact h)
                have HD9 := Lib.hid (show Di w9 (PB bd bl bf bs (.slice (some ⟨g, og, none⟩) wt.length cw)) s7 p7 (histD (putB fs wt) [] r9) by rw [hw9]; exact (HD8.out.keep (HM.pbSecond ..)).step (Below.refl _ _).drew)
                have HB9 := Lib.hid (show Box4 w9 nb (.slice s7.a s7.n s7.c) (.slice p7.a p7.n p7.c) (.int .i64 (r9 : Int)) (.bool false) by rw [hw9]; exact (HB8.out.far (grownBy_setCell' _ _ _) (by simp; omega)).step (Below.refl _ _).drew)
                rw [← hw9]
                clear hw9 HM8 HD8 HB8 l0 l1 l2 e1 e2 z8
                go_wp2_with fail
                go_roundw
                case rel => exact ⟨j + 1, by omega, by omega, by go_num, HM9.out, HD9.out, HB9.out⟩
                case measure => simp [intOf]; omega
              · have d5 : decide ((j : Int) < (room : Int)) = false := by simpa using hjs
                have d6 : decide (j < room) = false := by simpa using hjs
                have HM9 := Lib.hid (show HM w bd bl bf bs B (.slice (some ⟨g, og, none⟩) wt.length cw) (.slice sda sdn sdc) (.slice pda pdn pdc) (.int .i64 room) (.bool false) (putB fs wt) (putB fs (wt.take (j + 1))) (putB fs (wt.take (min (j + 1) room))) wt w8 by
                  rw [show min (j + 1) room = min j room by omega]
                  exact HM8.out)
                clear HM8
                go_wp2_with fail
                go_roundw
                case rel => exact ⟨j + 1, by omega, by omega, by go_num, HM9.out, HD8.out, HB8.out⟩
                case measure => simp [intOf]; omega
            · obtain rfl : wt.length = j := by omega
              rw [show min wt.length room = wt.length by omega, List.take_length] at HMr
              have d1 : decide ((wt.length : Int) < (wt.length : Int)) = false := by simp
              have d2 : decide (wt.length < wt.length) = false := by simp
              have hwr : IntKind.i64.wrap ((room : Int) - wt.length) = r9 := by rw [← HR9.out, IntKind.wrap_i64]; omega
              clear hjl hj1 hj2
              go_upto_region 37 with fail
              obtain ⟨w10, hw10⟩ : ∃ X, X = wr.alloc (.cells #[] 46) := ⟨_, rfl⟩
              have h10 : Below wr.heap.size wr w10 := by rw [hw10]; exact (Below.refl _ _).alloc (Nat.le_refl _) _
              have a4 : Owns w10 B 46 3 Ac.enc (.slice (some ⟨wr.heap.size, 0, none⟩) 0 0) [] := by
                have h := Owns.lit (w := wr) (e := 46) (ys := ([] : List Ac)) (base := B) (cs := #[]) Ac.enc_len rfl (by have := o6.out; have := HMr.out.second.z; omega) (Nat.zero_le _)
                rw [hw10]
                exact h
              have HM10 := Lib.hid (show HM w bd bl bf bs B (.slice (some ⟨wr.heap.size, 0, none⟩) 0 0) (.slice sda sdn sdc) (.slice pda pdn pdc) (.int .i64 room) (.bool false) (putB (putB fs wt) []) (putB fs wt) (putB fs wt) [] w10 from
                have h := HMr.out.step h10
                ⟨h.box, h.last, h.first, h.second, a4, h.bel, h.ord⟩)
              have HD10 := Lib.hid ((HM.pbFresh (v' := .slice (some ⟨wr.heap.size, 0, none⟩) 0 0) HDr.out (fun b h => by have h2 : wr.heap.size = b := Option.some.inj h; omega)).step h10)
              have HB10 := Lib.hid (HBr.out.step h10)
              rw [← hw10]
              obtain ⟨g9, hg9⟩ : ∃ x, x = wr.heap.size := ⟨_, rfl⟩
              rw [← hg9] at HM10 HD10 ⊢
              clear hw10 h10 a4 HMr HDr HBr HOW hg9
              obtain ⟨q0, q1, q2, q3, q4, q5, q6, q7, q8⟩ := HB10.out
              obtain ⟨r0, r1, r2, r3, r4, r5, r6, r7, r8⟩ := HM10.out.box
              have hnd : nb ≠ bd := by omega
              go_upto_region 38 with fail
              obtain ⟨w11, hw11⟩ : ∃ X, X = put4 w10 bd (.slice s7.a s7.n s7.c) (.slice p7.a p7.n p7.c) (.int .i64 r9) (.bool false) := ⟨_, rfl⟩
              have HM11 := Lib.hid (show HM w bd bl bf bs B (.slice (some ⟨g9, 0, none⟩) 0 0) (.slice s7.a s7.n s7.c) (.slice p7.a p7.n p7.c) (.int .i64 r9) (.bool false) (putB (putB fs wt) []) (putB fs wt) (putB fs wt) [] w11 by rw [hw11]; exact HM10.out.putBox ..)
              have HD11 := Lib.hid (show Di w11 (PB bd bl bf bs (.slice (some ⟨g9, 0, none⟩) 0 0)) s7 p7 (histD (putB fs wt) [] r9) by rw [hw11]; exact HD10.out.keep (HM.pbPut ..))
              unfold put4 at hw11
              rw [← hw11]
              clear q0 q1 q2 q3 q4 q5 q6 q7 q8 r0 r1 r2 r3 r4 r5 r6 r7 r8 hw11 HM10 HD10 HB10 hnd
              have hpl : (putB fs wt).length = 4 := by rw [putB_len]; exact hfs
              obtain ⟨f0, f1, f2, f3, hL⟩ : ∃ f0 f1 f2 f3, putB (putB fs wt) [] = [f0, f1, f2, f3] := by
                obtain ⟨f0, f1, f2, f3, h, _⟩ := HM11.out.last.box
                exact ⟨f0, f1, f2, f3, h⟩
              have hLa := HM11.out.last
              rw [hL] at hLa
              have HHO := Lib.hid (holds_hist (P := PB bd bl bf bs (.slice (some ⟨g9, 0, none⟩) 0 0)) (fs := putB fs wt) (wt := []) (room := r9) s7 p7 f0 f1 f2 f3 w11 hpl (by simp) (by omega) (by omega) hL HD11.out)
              have HPL := Lib.hid hpl
              clear hL hpl
              obtain ⟨q0, q1, q2, q3, q4, q5, q6, q7, q8⟩ := HM11.out.box
              obtain ⟨r0, r1, r2, r3, r4, r5, r6, r7, r8⟩ := hLa.box4
              clear hLa
              go_wp2_with fail
              refine HHO.out.mono ?_
              rintro e w12 ⟨rfl, hb12⟩
              have HM12 := Lib.hid (HM11.out.step hb12)
              have HD12 := Lib.hid (HD11.out.step hb12)
              clear hb12 q0 q1 q2 q3 q4 q5 q6 q7 q8 r0 r1 r2 r3 r4 r5 r6 r7 r8 HHO HM11 HD11
              go_wp2_with fail
              go_roundw
              case rel => exact ⟨k + 1, s7, p7, putB fs wt, [], r9, by omega, by go_num, rfl, hr9b, HPL.out, Nat.zero_le _, fun a ha => absurd ha (by simp), HM12.out.hi HD12.out⟩
              case measure => simp [intOf]; omega
    · obtain rfl : acts.length = k := by omega
      clear hlt
      obtain ⟨f0, f1, f2, f3, rfl⟩ : ∃ f0 f1 f2 f3, fs = [f0, f1, f2, f3] := by
        obtain ⟨f0, f1, f2, f3, h, _⟩ := HH.out.first.box
        exact ⟨f0, f1, f2, f3, h⟩
      obtain ⟨sda, sdn, sdc⟩ := sd
      obtain ⟨pda, pdn, pdc⟩ := pd
      obtain ⟨w5, hw5⟩ : ∃ X, X = wr := ⟨_, rfl⟩
      subst hw5
      have RS : Hid (∀ W, Below w5.heap.size w5 W → Calls Try.prog 17 #[.agg #[.slice sda sdn sdc, .slice pda pdn pdc, .int .i64 room, .bool false]] W fun e w' => e = .returned (.agg #[.slice sda sdn sdc, .slice none 0 0, .int .i64 (-1), .bool false]) ∧ Below W.heap.size W w') := Lib.hid (fun W h => by
        have h2 := Restart_cell (histD [f0, f1, f2, f3] wt room) ⟨sda, sdn, sdc⟩ ⟨pda, pdn, pdc⟩ W (HH.out.disk.step h)
        simpa only [dkV, restartD, histD] using h2)
      have HO : Hid (∀ W, Below w5.heap.size w5 W → Calls Try.prog 28 #[.agg #[.slice sda sdn sdc, .slice none 0 0, .int .i64 (-1), .bool false], .agg #[.int .u8 f0, .int .u8 f1, .int .u8 f2, .int .u8 f3], .agg #[.int .u8 f0, .int .u8 f1, .int .u8 f2, .int .u8 f3]] W fun e w' => e = .returned (.bool true) ∧ Below W.heap.size W w') := Lib.hid (fun W h => by
        have h2 := holds_any (restartD (histD [f0, f1, f2, f3] wt room)) ⟨sda, sdn, sdc⟩ ⟨none, 0, 0⟩ f0 f1 f2 f3 f0 f1 f2 f3 W (HH.out.disk.step h).restart (fun k hk => restart_hist rfl hk)
        simpa only [dkV, restartD, histD] using h2)
      obtain ⟨q0, q1, q2, q3, q4, q5, q6, q7, q8⟩ := HH.out.box
      obtain ⟨r0, r1, r2, r3, r4, r5, r6, r7, r8⟩ := HH.out.first.box4
      obtain ⟨t0, t1, t2, t3, t4, t5, t6, t7, t8⟩ := HH.out.second.box4
      have SS : Hid (∀ W, Below w5.heap.size w5 W → (fun W => W.cell? ⟨bd, 0, none⟩ = some (.slice sda sdn sdc) ∧ W.cell? ⟨bd, 1, none⟩ = some (.slice pda pdn pdc) ∧ W.cell? ⟨bd, 2, none⟩ = some (.int .i64 room) ∧ W.cell? ⟨bd, 3, none⟩ = some (.bool false) ∧ W.cell? ⟨bf, 0, none⟩ = some (.int .u8 f0) ∧ W.cell? ⟨bf, 1, none⟩ = some (.int .u8 f1) ∧ W.cell? ⟨bf, 2, none⟩ = some (.int .u8 f2) ∧ W.cell? ⟨bf, 3, none⟩ = some (.int .u8 f3) ∧ W.cell? ⟨bs, 0, none⟩ = some (.int .u8 f0) ∧ W.cell? ⟨bs, 1, none⟩ = some (.int .u8 f1) ∧ W.cell? ⟨bs, 2, none⟩ = some (.int .u8 f2) ∧ W.cell? ⟨bs, 3, none⟩ = some (.int .u8 f3) ∧ Below w5.heap.size w5 W) W) := Lib.hid (fun W h => ⟨(HH.out.box.step h).c0, (HH.out.box.step h).c1, (HH.out.box.step h).c2, (HH.out.box.step h).c3, (HH.out.first.box4.step h).c0, (HH.out.first.box4.step h).c1, (HH.out.first.box4.step h).c2, (HH.out.first.box4.step h).c3, (HH.out.second.box4.step h).c0, (HH.out.second.box4.step h).c1, (HH.out.second.box4.step h).c2, (HH.out.second.box4.step h).c3, h⟩)
      simp only [] at q0 q1 q2 q3
      go_upto_region 40 with fail
      go_region_held3 (fun W => W.cell? ⟨bd, 0, none⟩ = some (.slice sda sdn sdc) ∧ W.cell? ⟨bd, 1, none⟩ = some (.slice pda pdn pdc) ∧ W.cell? ⟨bd, 2, none⟩ = some (.int .i64 room) ∧ W.cell? ⟨bd, 3, none⟩ = some (.bool false) ∧ W.cell? ⟨bf, 0, none⟩ = some (.int .u8 f0) ∧ W.cell? ⟨bf, 1, none⟩ = some (.int .u8 f1) ∧ W.cell? ⟨bf, 2, none⟩ = some (.int .u8 f2) ∧ W.cell? ⟨bf, 3, none⟩ = some (.int .u8 f3) ∧ W.cell? ⟨bs, 0, none⟩ = some (.int .u8 f0) ∧ W.cell? ⟨bs, 1, none⟩ = some (.int .u8 f1) ∧ W.cell? ⟨bs, 2, none⟩ = some (.int .u8 f2) ∧ W.cell? ⟨bs, 3, none⟩ = some (.int .u8 f3) ∧ Below w5.heap.size w5 W) (first | with_reducible exact SS.out _ (((Below.refl w5.heap.size w5).drew.trans (hb6.mono (Below.refl w5.heap.size w5).drew.size)).trans (hb7.mono ((Below.refl w5.heap.size w5).drew.trans (hb6.mono (Below.refl w5.heap.size w5).drew.size)).size)) | with_reducible exact SS.out _ (Below.refl w5.heap.size w5).drew | with_reducible exact SS.out _ ((Below.refl w5.heap.size w5).drew.trans (hb6.mono (Below.refl w5.heap.size w5).drew.size)) | with_reducible exact SS.out _ (((Below.refl w5.heap.size w5).drew.trans (hb6.mono (Below.refl w5.heap.size w5).drew.size)).drew)) (first | (go_at_call 17; with_reducible refine Calls.mono (RS.out _ (Below.refl w5.heap.size w5).drew) ?_; rintro e w6 ⟨rfl, hb6⟩) | (go_at_call 28; with_reducible refine Calls.mono (HO.out _ ((Below.refl w5.heap.size w5).drew.trans (hb6.mono (Below.refl w5.heap.size w5).drew.size))) ?_; rintro e w7 ⟨rfl, hb7⟩))
      all_goals
        go_simp
        go_wp2_with fail
        go_ret
        exact ⟨rfl, HH.out.bel.trans ((((Below.refl w5.heap.size w5).drew.trans (hb6.mono (Below.refl w5.heap.size w5).drew.size)).trans (hb7.mono ((Below.refl w5.heap.size w5).drew.trans (hb6.mono (Below.refl w5.heap.size w5).drew.size)).size)).mono HH.out.bel.size)⟩
theorem DiskHistory_any {w : World} (acts : List Ac) (A : Option Addr) (c : Nat) (h1 : Reads w w.heap.size A 3 Ac.enc acts) (q1 : ∀ y ∈ acts, y.ok) (hl : acts.length ≤ maxLen) (n : Int) (hn : (Lit.int .u8 n).wf = true) :
    Calls Try.prog 6 #[.slice A acts.length c, .int .u8 n] w fun e w' => e = .returned (.bool true) ∧ Below w.heap.size w w' := by
  have h := bounds_u8 hn
  exact History_walk acts n A c w h1 q1 hl (by omega) (by omega)
end Go.Proofs.Ytebbmplbpgilaaa
