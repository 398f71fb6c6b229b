/- TopDegree, what its proof leans on: the texts AvgI. -/
import Derived.Test.YtalmbigebjbaoaaGreatDoorM38
import Derived.Test.YtalmbigebjbaoaaGreatDoorM02
import Derived.BigRegion
import Derived.StillTailTactics
namespace Go.Proofs.YtalmbigebjbaoaaGreatDoor
open Go.RowKit Go.Shelf
set_option linter.unusedSimpArgs false
set_option linter.unusedVariables false
theorem Owns.base {α : Type} {w : World} {b b' sz : Nat} {e : TypeId} {en : α → List Value} {v : Value} {ys : List α} (h : Owns w b e sz en v ys) (hb : b' ≤ b) : Owns w b' e sz en v ys := by
 refine ⟨h.1, ?_⟩
 rcases h.2 with h1 | ⟨g, cap, cur, h1, h2, h3, h4⟩
 ·exact .inl h1
 ·exact .inr ⟨g, cap, cur, h1, Nat.le_trans hb h2, h3, h4⟩
theorem At.enc_len (x : At) : x.enc.length = 5 := rfl
theorem At.enc_one (x : At) : ∀ u ∈ x.enc, u.oneCell' = true := by
 intro u hu
 simp [At.enc] at hu
 rcases hu with rfl | rfl | rfl | rfl | rfl <;> rfl
theorem Tryz.infoAt : (Tryz.prog.info? 69).map (fun i => (i.zero, i.size, i.bytes)) = some (some (.agg #[.int .i64 0, .int .i64 0, .int .i64 0, .int .i64 0, .int .i64 0]), 5, 40) := by kernel_rfl
private theorem zeroInt (W : World) : (zeroValue 3).run Tryz.prog W = .ok (.int .i64 0) W := by kernel_rfl
private theorem look_map {W : World} {r : Nat} {l : List (Int × Value)} (h : MapIs W r l) (k : Int) :
 (Instr.lookup 107 (.map (some r)) (.int .i64 k) true).run Tryz.prog W = .ok (.tuple #[(lookL k l).getD (.int .i64 0), .bool (lookL k l).isSome]) W :=
 (run_lookup_ints (P := Tryz.prog) Tryz.underlying107 Tryz.underlying3 h (zeroInt W) k).2
private theorem upd_map {W : World} {r : Nat} {l : List (Int × Value)} (h : MapIs W r l) (k : Int) (v : Value) :
 ∃ w', (Instr.mapUpdate 107 (.map (some r)) (.int .i64 k) v).run Tryz.prog W = .ok () w' ∧ MapIs w' r (updL k v l) ∧ W.grownBy w' (some r) ∧ w'.heap.size = W.heap.size :=
 run_mapUpdate_ints (P := Tryz.prog) Tryz.underlying107 Tryz.underlying3 h k v
private theorem MapIs.grown {W W' : World} {r : Nat} {l : List (Int × Value)} (h : MapIs W r l) {row : Option Nat} (hg : W.grownBy W' row) (hr : row ≠ some r) : MapIs W' r l := by
 obtain ⟨es, c, h1, h2⟩ := h
 exact ⟨es, c, (hg.block r (Array.getElem?_eq_some_iff.1 h1).1 (Ne.symm hr)).trans h1, h2⟩
theorem cell_grown {W W' : World} {row : Option Nat} (hg : W.grownBy W' row) {b o : Nat} {v : Value} (h : W.cell? ⟨b, o, none⟩ = some v) (hb : b < W.heap.size) (hr : row ≠ some b) : W'.cell? ⟨b, o, none⟩ = some v :=
 (World.cell?_of_block (a := ⟨b, o, none⟩) (hg.block b hb (Ne.symm hr))).trans h
theorem better_repl1 {a b : At} {k j : Nat} (h : j < k) : betterB 0 a b k j = repl1 a b := by
 rw [Bool.eq_iff_iff, betterB_iff]
 unfold repl1
 simp
 omega
theorem better_repl2 {a b : At} {k j : Nat} (h : j < k) : betterB 1 a b k j = repl2 a b := by
 rw [Bool.eq_iff_iff, betterB_iff]
 unfold repl2
 simp
 omega
def Kinds (W : World) (g : Nat) : Prop :=
 W.cell? ⟨g, 0, none⟩ = some (.bool true) ∧ W.cell? ⟨g, 1, none⟩ = some (.func (.func 155) #[] #[]) ∧ W.cell? ⟨g, 2, none⟩ = some (.bool true) ∧
 W.cell? ⟨g, 3, none⟩ = some (.func (.func 156) #[] #[]) ∧ W.cell? ⟨g, 4, none⟩ = some (.bool false) ∧ W.cell? ⟨g, 5, none⟩ = some .nilFunc ∧ g < W.heap.size
theorem Kinds.below {W W' : World} {g B : Nat} (h : Kinds W g) (hb : Below B W W') (hg : g < B) : Kinds W' g := by
 obtain ⟨h0, h1, h2, h3, h4, h5, hz⟩ := h
 have t := fun o => hb.cell (p := ⟨g, o, none⟩) hg
 exact ⟨(t 0).trans h0, (t 1).trans h1, (t 2).trans h2, (t 3).trans h3, (t 4).trans h4, (t 5).trans h5, by have := hb.size; omega⟩
theorem Kinds.grown {W W' : World} {g : Nat} (h : Kinds W g) {row : Option Nat} (hg : W.grownBy W' row) (hr : row ≠ some g) : Kinds W' g := by
 obtain ⟨h0, h1, h2, h3, h4, h5, hz⟩ := h
 exact ⟨cell_grown hg h0 hz hr, cell_grown hg h1 hz hr, cell_grown hg h2 hz hr, cell_grown hg h3 hz hr, cell_grown hg h4 hz hr, cell_grown hg h5 hz hr, by have := hg.size; omega⟩
def CRel (w : World) (xs : List At) (rs : List Int) (g k : Nat) (W : World) : Prop :=
 k ≤ xs.length ∧ Okay (fAt xs) (rAt rs) k ∧ (∃ L1 L2, MapIs W (g + 1) L1 ∧ MapIs W (g + 2) L2 ∧ OfInv (fAt xs) (rAt rs) k L1 ∧ CntInv (fAt xs) (rAt rs) k L2) ∧ Kinds W g ∧ w.heap.size ≤ g ∧ Below w.heap.size w W
theorem cell_up {W W1 : World} {o : Obj} {r b i : Nat} {v : Value} (hg : ((W.alloc o).drew).grownBy W1 (some r)) (h : W.cell? ⟨b, i, none⟩ = some v) (hb : b < W.heap.size) (hr : b ≠ r) : W1.cell? ⟨b, i, none⟩ = some v :=
 cell_grown hg (((Below.refl W.heap.size W).alloc (Nat.le_refl _) o).drew.cell (p := ⟨b, i, none⟩) hb |>.trans h) (by simp; omega) (by simpa using Ne.symm hr)
theorem cell_up_new {W W1 : World} {cs : Array Value} {t : TypeId} {r : Nat} (hg : ((W.alloc (.cells cs t)).drew).grownBy W1 (some r)) (hr : W.heap.size ≠ r) (i : Nat) : W1.cell? ⟨W.heap.size, i, none⟩ = cs[i]? :=
 (World.cell?_of_block (a := ⟨W.heap.size, i, none⟩) (hg.block _ (by simp) (by simpa using hr))).trans (by simp [go_sem])
set_option maxRecDepth 100000 in
set_option maxHeartbeats 4000000 in
theorem Counted_any (xs : List At) (rs : List Int) (A D : Option Addr) (c d : Nat) (w : World) (hx : Reads w w.heap.size A 5 At.enc xs) (hy : Reads w w.heap.size D 1 intE rs) (hl : xs.length ≤ 100000) (hm : rs.length ≤ 9223372036854775807) :
 Calls Tryz.prog 66 #[.slice A xs.length c, .slice D rs.length d] w fun e w' => (∃ v, e = .returned (.tuple #[v, .int .i64 (countedA xs rs).2]) ∧ Owns w' w.heap.size 69 5 At.enc v (countedA xs rs).1) ∧ Below w.heap.size w w' := by
 have HX := Lib.hid hx
 have HY := Lib.hid hy
 clear hx hy
 cases hb : xs.any (fun a => !a.good)
 rotate_left
 ·rw [countedA_bad hb]
  have HC : Hid (checkA xs = 150) := Lib.hid (by unfold checkA; rw [hb]; rfl)
  clear hb
  go_enter Tryz.func66, Tryz.ntmps66
  go_wp2_with fail
  refine (check_any xs A c _ HX.out (by omega)).mono ?_
  rw [HC.out]
  rintro e w1 ⟨rfl, hb1⟩
  go_wp2_with fail
  go_ret2
  exact ⟨⟨_, rfl, Owns.nil_ _ _ _ _ _⟩, hb1⟩
 have HC : Hid (checkA xs = 0) := Lib.hid (by unfold checkA; rw [hb]; rfl)
 by_cases hlen : rs.length = xs.length
 rotate_left
 ·rw [countedA_len hb hlen]
  have q1 : ((rs.length : Int) == (xs.length : Int)) = false := by simp; omega
  have q2 : ((rs.length : Int) != (xs.length : Int)) = true := by simp; omega
  clear hb hlen
  go_enter Tryz.func66, Tryz.ntmps66
  go_wp2_with fail
  refine (check_any xs A c _ HX.out (by omega)).mono ?_
  rw [HC.out]
  rintro e w1 ⟨rfl, hb1⟩
  go_wp2_with fail
  go_ret2
  exact ⟨⟨_, rfl, Owns.nil_ _ _ _ _ _⟩, hb1⟩
 have q1 : ((rs.length : Int) == (xs.length : Int)) = true := by simp [hlen]
 have q2 : ((rs.length : Int) != (xs.length : Int)) = false := by simp [hlen]
 obtain ⟨⟨cl, E⟩, hr⟩ : ∃ r, r = countedA xs rs := ⟨_, rfl⟩
 rw [← hr]
 have HR := Lib.hid hr
 have HLEN := Lib.hid hlen
 have HBD := Lib.hid hb
 clear hb hlen hr
 have hmm := @run_makeMap Tryz.prog
 go_enter Tryz.func66, Tryz.ntmps66
 go_wp2_with fail
 refine (check_any xs A c _ HX.out (by omega)).mono ?_
 rw [HC.out]
 rintro e w1 ⟨rfl, hb1⟩
 go_wp2_with fail
 refine (kinds_any _).mono ?_
 rintro e w2 ⟨rfl, hb2⟩
 have G2 : Below w.heap.size w w2 := hb1.trans (hb2.mono hb1.size)
 clear hb1 hb2
 go_wp2_with fail
 obtain ⟨g, hg⟩ : ∃ g, g = w2.heap.size := ⟨_, rfl⟩
 have hgw : w.heap.size ≤ g := by rw [hg]; exact G2.size
 rw [← hg]
 refine abs_wp ?_
 intro W0 hW0
 have R0 : CRel w xs rs g 0 W0 := by
  refine ⟨Nat.zero_le _, Okay.zero, ⟨[], [], ?_, ?_, OfInv.zero, CntInv.zero⟩, ?_, hgw, ?_⟩
  ·rw [hW0, hg]
   exact ((by simpa using MapIs.new (w2.alloc (.cells #[.bool true, .func (.func 155) #[] #[], .bool true, .func (.func 156) #[] #[], .bool false, .nilFunc] 208)) 0 : MapIs _ (w2.heap.size + 1) []).alloc _)
  ·rw [hW0, hg]
   simpa using MapIs.new ((w2.alloc (.cells #[.bool true, .func (.func 155) #[] #[], .bool true, .func (.func 156) #[] #[], .bool false, .nilFunc] 208)).alloc (.map #[] 0)) 0
  ·rw [hW0, hg]
   unfold Kinds
   simp [go_sem]
  ·rw [hW0]
   exact ((G2.alloc G2.size _).alloc (by have := G2.size; simp <;> omega) _).alloc (by have := G2.size; simp <;> omega) _
 clear hW0 hg G2
 go_loopw [4, 34] (fun v i wr => ∃ k : Nat, i = .int .i64 k ∧ v = .slice none 0 0 ∧ CRel w xs rs g k wr) (fun _ i _ => xs.length - (intOf i).toNat)
 case atStart => exact ⟨0, rfl, rfl, R0⟩
 case round =>
  clear R0
  obtain ⟨k, rfl, rfl, hk, hok, ⟨L1, L2, hm1, hm2, ho, hcn⟩, hkk, hgw2, hB⟩ := hrel
  have hzr := hB.size
  have hg2 : g + 2 < wr.heap.size := hm2.lt
  have HOK := Lib.hid hok
  have HO := Lib.hid ho
  have HCN := Lib.hid hcn
  have HM1 := Lib.hid hm1
  have HM2 := Lib.hid hm2
  have HKK := Lib.hid hkk
  clear hok ho hcn hm1 hm2 hkk
  by_cases hlt : k < xs.length
  ·obtain ⟨bb, off, x, rfl, hbl, hxk, hc⟩ := (HX.out.below hB).at_ hlt
   obtain ⟨b2, of2, rk, rfl, hbl2, hrk, hd⟩ := (HY.out.below hB).at_ (show k < rs.length by rw [HLEN.out]; exact hlt)
   have p0 := hc 0 _ rfl
   have p1 := hc 1 _ rfl
   have p2 := hc 2 _ rfl
   have p3 := hc 3 _ rfl
   have p4 := hc 4 _ rfl
   have r0 := hd 0 _ rfl
   simp only [Nat.add_zero, Nat.mul_one] at p0 r0
   have hltr : k < rs.length := by rw [HLEN.out]; exact hlt
   have HXK := Lib.hid hxk
   have HRK := Lib.hid hrk
   have HB := Lib.hid hB
   have hbb : bb < wr.heap.size := by omega
   have hbb2 : b2 < wr.heap.size := by omega
   have FX : Hid (fAt xs k = x) := Lib.hid (fAt_some hxk)
   have RX : Hid (rAt rs k = rk) := Lib.hid (rAt_some hrk)
   have hi0 : (0 : Int) ≤ (k : Int) := by omega
   clear hc hd hxk hrk hB
   obtain ⟨x0, x1, x2, x3, x4⟩ := x
   simp only at p0 p1 p2 p3 p4
   have lk1 := fun W (h : MapIs W (g + 1) L1) => look_map h x0
   cases hin : inB rk 0 2
   ·have HN : Hid ((cl, E) = (([], 1) : List At × Int)) := Lib.hid (by rw [HR.out, countedA_arg HBD.out HLEN.out (fun h => by have h1 := h.1 k hlt; rw [RX.out] at h1; simp [inB] at hin; omega)])
    have HIN := Lib.hid hin
    clear hin lk1
    rcases HO.out.cases x0 with ⟨hn, _⟩ | ⟨i, hi, he, hn⟩
    all_goals
     have lk := look_map (W := wr.alloc (.cells #[.int .i64 x0, .int .i64 x1, .int .i64 x2, .int .i64 x3, .int .i64 x4] 69)) (HM1.out.alloc _) x0
     rw [hn] at lk
     simp only [Option.getD_none, Option.getD_some, Option.isSome_none, Option.isSome_some] at lk
     clear hn
     go_wp2_with fail
     refine (within_any rk 0 2 _).mono ?_
     rw [HIN.out]
     rintro e w9 ⟨rfl, rfl⟩
     go_wp2_with fail
     go_ret2
     have HN2 := HN.out
     simp only [Prod.mk.injEq] at HN2
     obtain ⟨rfl, rfl⟩ := HN2
     exact ⟨⟨_, rfl, Owns.nil_ _ _ _ _ _⟩, HB.out.alloc hzr _⟩
   ·have HIN := Lib.hid hin
    have hin2 : 0 ≤ rk ∧ rk ≤ 2 := by simpa [inB] using hin
    obtain ⟨hr0, hr2⟩ := hin2
    clear hin lk1
    rcases (show rk = 0 ∨ rk = 1 ∨ rk = 2 by omega) with rfl | rfl | rfl
    ·rcases HO.out.cases x0 with ⟨hn, hno⟩ | ⟨i, hi, he, hn⟩
     ·have HNO := Lib.hid hno
      clear hno
      have HOK1 : Hid (Okay (fAt xs) (rAt rs) (k + 1)) := Lib.hid (HOK.out.step (by rw [RX.out]; decide) (by rw [RX.out]; decide) (fun i hi e => absurd (by rw [e, FX.out]) (HNO.out i hi)))
      have OFN : Hid (OfInv (fAt xs) (rAt rs) (k + 1) (updL x0 (.int .i64 0) L1)) := Lib.hid (by have := HO.out.step HOK1.out; rw [FX.out, RX.out] at this; exact this)
      have HLK2 : Hid (lookL x0 L2 = none) := Lib.hid (by
       rcases HCN.out x0 with ⟨h, _⟩ | ⟨j, hj, _, h, _⟩
       ·exact h
       ·exact absurd h (HNO.out j hj))
      have CNT : Hid (CntInv (fAt xs) (rAt rs) (k + 1) (updL x0 (.int .i64 (k : Nat)) L2)) := Lib.hid (by have := HCN.out.new HOK1.out (by rw [RX.out]; decide) (by rw [FX.out]; exact HLK2.out); rw [FX.out] at this; exact this)
      have lk := look_map (W := wr.alloc (.cells #[.int .i64 x0, .int .i64 x1, .int .i64 x2, .int .i64 x3, .int .i64 x4] 69)) (HM1.out.alloc _) x0
      rw [hn] at lk
      simp only [Option.getD_none, Option.getD_some, Option.isSome_none, Option.isSome_some] at lk
      clear hn
      go_wp2_with fail
      refine (within_any 0 0 2 _).mono ?_
      rw [HIN.out]
      rintro e w9 ⟨rfl, rfl⟩
      go_wp2_with fail
      obtain ⟨W1, hrun, hu1, hgr, hsz⟩ := upd_map ((HM1.out.alloc (.cells #[.int .i64 x0, .int .i64 x1, .int .i64 x2, .int .i64 x3, .int .i64 x4] 69)).drew) x0 (.int .i64 0)
      have hz1 : wr.heap.size < W1.heap.size := by rw [hsz]; simp
      have y0 := cell_up_new hgr (by omega) 0
      have y1 := cell_up_new hgr (by omega) 1
      have y2 := cell_up_new hgr (by omega) 2
      have y3 := cell_up_new hgr (by omega) 3
      have y4 := cell_up_new hgr (by omega) 4
      simp at y0 y1 y2 y3 y4
      have v0 := cell_up hgr r0 hbb2 (by omega)
      have B1 : Below w.heap.size w W1 := (HB.out.alloc hzr _).drew.grown hgr (by simp <;> omega) (fun q e => by cases e; omega)
      have HK1 := Lib.hid (((HKK.out.below ((Below.refl wr.heap.size wr).alloc (Nat.le_refl _) (.cells #[.int .i64 x0, .int .i64 x1, .int .i64 x2, .int .i64 x3, .int .i64 x4] 69)) (by omega)).below ((Below.refl _ _).drew) (Nat.lt_succ_self _)).grown hgr (by simp <;> omega))
      have HU1 := Lib.hid hu1
      have HU2 := Lib.hid (((HM2.out.alloc (.cells #[.int .i64 x0, .int .i64 x1, .int .i64 x2, .int .i64 x3, .int .i64 x4] 69)).drew).grown hgr (by simp <;> omega))
      have HB1 := Lib.hid B1
      have lk2 := look_map HU2.out x0
      rw [HLK2.out] at lk2
      simp only [Option.getD_none, Option.getD_some, Option.isSome_none, Option.isSome_some] at lk2
      clear hu1 hgr hsz B1
      refine wp_region_tail 7 (by kernel_rfl) (by kernel_rfl) ?_
      simp only [List.take_succ_cons, List.take_zero, List.drop_succ_cons, List.drop_zero]
      repeat still_step
      refine wpStill_nil ?_
      go_wp2_with fail
      obtain ⟨t0, t1, t2, t3, t4, t5, hgz⟩ := HK1.out
      have hz2 : b2 < W1.heap.size := by omega
      refine wp_region_below (by kernel_rfl) (by kernel_rfl) ?_
      repeat (first
       | go_big_quiet_skip
       | (go_big_quiet_want
          first
           | (apply quiet_val
              focus (
               intro WC hWC
               obtain ⟨hcc0, hff0⟩ := bcell hWC
               go_simp
               all_goals rfl
               done)
              go_simp
              go_big_quiet_on)))
      refine wpQuiet_nil ?_
      intro W2 hW2
      have hb2 := hW2
      clear hW2
      have z0 := (hb2.cell (p := ⟨wr.heap.size, 0, none⟩) hz1).trans y0
      have hz3 := hb2.size
      have hz4 : wr.heap.size < W2.heap.size := by omega
      have HB2 := Lib.hid (HB1.out.trans (hb2.mono HB1.out.size))
      have HK2 := Lib.hid (HK1.out.below hb2 hgz)
      have HV1 := Lib.hid (HU1.out.below hb2 HU1.out.lt)
      obtain ⟨W3, hrun3, hu3, hgr3, hsz3⟩ := upd_map (HU2.out.below hb2 HU2.out.lt) x0 (.int .i64 (k : Nat))
      have HU3 := Lib.hid hu3
      have HG3 := Lib.hid hgr3
      clear hb2 hu3 hgr3 y0 y1 y2 y3 y4 t0 t1 t2 t3 t4 t5
      go_wp2_with fail
      go_roundw
      case rel => exact ⟨k + 1, by go_num, rfl, by omega, HOK1.out, ⟨_, _, HV1.out.grown HG3.out (by simp <;> omega), HU3.out, OFN.out, CNT.out⟩, HK2.out.grown HG3.out (by simp <;> omega), hgw, HB2.out.grown HG3.out (by have := HB2.out.size; omega) (fun q e => by cases e; omega)⟩
      case measure => simp [intOf]; omega
     ·by_cases hri : rAt rs i = 0
      rotate_left
      ·have HN : Hid ((cl, E) = (([], 1) : List At × Int)) := Lib.hid (by rw [HR.out, countedA_arg HBD.out HLEN.out (fun h => hri (by have h1 := h.2 i k (by omega) hlt (by rw [he, FX.out]); rw [RX.out] at h1; exact h1))])
       have hne : (rAt rs i == 0) = false := by simpa using hri
       have hne2 : (rAt rs i != 0) = true := by simpa using hri
       clear hri
       have lk := look_map (W := wr.alloc (.cells #[.int .i64 x0, .int .i64 x1, .int .i64 x2, .int .i64 x3, .int .i64 x4] 69)) (HM1.out.alloc _) x0
       rw [hn] at lk
       simp only [Option.getD_none, Option.getD_some, Option.isSome_none, Option.isSome_some] at lk
       clear hn
       go_wp2_with fail
       refine (within_any 0 0 2 _).mono ?_
       rw [HIN.out]
       rintro e w9 ⟨rfl, rfl⟩
       go_wp2_with fail
       go_ret2
       have HN2 := HN.out
       simp only [Prod.mk.injEq] at HN2
       obtain ⟨rfl, rfl⟩ := HN2
       exact ⟨⟨_, rfl, Owns.nil_ _ _ _ _ _⟩, by first | exact HB.out.alloc hzr _ | (refine below_drewN ?_ _; exact HB.out.alloc hzr _)⟩
      rw [hri] at hn
      have HRI := Lib.hid hri
      have HE := Lib.hid he
      clear hri he
      have HOK1 : Hid (Okay (fAt xs) (rAt rs) (k + 1)) := Lib.hid (HOK.out.step (by rw [RX.out]; decide) (by rw [RX.out]; decide) (fun m hm e => by rw [RX.out, ← HRI.out]; exact HOK.out.2 m i hm hi (by rw [e, FX.out, HE.out])))
      have OFN : Hid (OfInv (fAt xs) (rAt rs) (k + 1) (updL x0 (.int .i64 0) L1)) := Lib.hid (by have := HO.out.step HOK1.out; rw [FX.out, RX.out] at this; exact this)
      obtain ⟨j, hj, hjl, hjc, hjb⟩ : ∃ j, j < k ∧ lookL x0 L2 = some (.int .i64 (j : Nat)) ∧ (fAt xs j).course = x0 ∧ rAt rs j = 0 := by
       rcases HCN.out x0 with ⟨_, h⟩ | ⟨j, hj, h1, h2, _⟩
       ·have := h i hi HE.out
        rw [HRI.out] at this
        exact absurd this (by decide)
       ·exact ⟨j, hj, h1, h2, by rw [HOK.out.2 j i hj hi (by rw [h2, HE.out]), HRI.out]⟩
      have hjn : j < xs.length := by omega
      obtain ⟨b3, o3, y, e3, _, hyk, hd3⟩ := (HX.out.below HB.out).at_ hjn
      simp only [Option.some.injEq, Addr.mk.injEq, and_true] at e3
      obtain ⟨rfl, rfl⟩ := e3
      have FY : Hid (fAt xs j = y) := Lib.hid (fAt_some hyk)
      have HJL := Lib.hid hjl
      have HJB := Lib.hid hjb
      have q0 := hd3 0 _ rfl
      have q1' := hd3 1 _ rfl
      have q2' := hd3 2 _ rfl
      have q3 := hd3 3 _ rfl
      have q4 := hd3 4 _ rfl
      simp only [Nat.add_zero] at q0
      obtain ⟨s0, s1, s2, s3, s4⟩ := y
      simp only at q0 q1' q2' q3 q4
      have hj0 : (0 : Int) ≤ (j : Int) := by omega
      have hgt : (fun (W : World) => True) wr := trivial
      clear hd3 hyk hjl hjc hjb hgt
      cases hrp : repl1 ⟨x0, x1, x2, x3, x4⟩ ⟨s0, s1, s2, s3, s4⟩
      rotate_left
      ·have HBT : Hid (betterB (rAt rs j) (fAt xs k) (fAt xs j) k j = true) := Lib.hid (by rw [HJB.out, FX.out, FY.out, better_repl1 hj]; exact hrp)
       have HRP : Hid (∀ WC : World, Calls Tryz.prog 155 #[.agg #[.int .i64 x0, .int .i64 x1, .int .i64 x2, .int .i64 x3, .int .i64 x4], .agg #[.int .i64 s0, .int .i64 s1, .int .i64 s2, .int .i64 s3, .int .i64 s4]] WC fun e w' => e = .returned (.bool true) ∧ Below WC.heap.size WC w') :=
        Lib.hid (fun WC => by have := kinds1_any ⟨x0, x1, x2, x3, x4⟩ ⟨s0, s1, s2, s3, s4⟩ WC; rw [hrp] at this; exact this)
       clear hrp
       have CNT : Hid (CntInv (fAt xs) (rAt rs) (k + 1) (updL x0 (.int .i64 (k : Nat)) L2)) := Lib.hid (by have := HCN.out.take HOK1.out (by rw [RX.out]; decide) (by rw [FX.out]; exact HJL.out) hj HBT.out; rw [FX.out] at this; exact this)
       have lk := look_map (W := wr.alloc (.cells #[.int .i64 x0, .int .i64 x1, .int .i64 x2, .int .i64 x3, .int .i64 x4] 69)) (HM1.out.alloc _) x0
       rw [hn] at lk
       simp only [Option.getD_none, Option.getD_some, Option.isSome_none, Option.isSome_some] at lk
       clear hn
       go_wp2_with fail
       refine (within_any 0 0 2 _).mono ?_
       rw [HIN.out]
       rintro e w9 ⟨rfl, rfl⟩
       go_wp2_with fail
       obtain ⟨W1, hrun, hu1, hgr, hsz⟩ := upd_map ((HM1.out.alloc (.cells #[.int .i64 x0, .int .i64 x1, .int .i64 x2, .int .i64 x3, .int .i64 x4] 69)).drew) x0 (.int .i64 0)
       have hz1 : wr.heap.size < W1.heap.size := by rw [hsz]; simp
       have y0 := cell_up_new hgr (by omega) 0
       have y1 := cell_up_new hgr (by omega) 1
       have y2 := cell_up_new hgr (by omega) 2
       have y3 := cell_up_new hgr (by omega) 3
       have y4 := cell_up_new hgr (by omega) 4
       simp at y0 y1 y2 y3 y4
       have v0 := cell_up hgr r0 hbb2 (by omega)
       have B1 : Below w.heap.size w W1 := (HB.out.alloc hzr _).drew.grown hgr (by simp <;> omega) (fun q e => by cases e; omega)
       have HK1 := Lib.hid (((HKK.out.below ((Below.refl wr.heap.size wr).alloc (Nat.le_refl _) (.cells #[.int .i64 x0, .int .i64 x1, .int .i64 x2, .int .i64 x3, .int .i64 x4] 69)) (by omega)).below ((Below.refl _ _).drew) (Nat.lt_succ_self _)).grown hgr (by simp <;> omega))
       have HU1 := Lib.hid hu1
       have HU2 := Lib.hid (((HM2.out.alloc (.cells #[.int .i64 x0, .int .i64 x1, .int .i64 x2, .int .i64 x3, .int .i64 x4] 69)).drew).grown hgr (by simp <;> omega))
       have HB1 := Lib.hid B1
       have lk2 := look_map HU2.out x0
       rw [HJL.out] at lk2
       simp only [Option.getD_none, Option.getD_some, Option.isSome_none, Option.isSome_some] at lk2
       have u0 := cell_up hgr q0 hbb (by omega)
       have u1 := cell_up hgr q1' hbb (by omega)
       have u2 := cell_up hgr q2' hbb (by omega)
       have u3 := cell_up hgr q3 hbb (by omega)
       have u4 := cell_up hgr q4 hbb (by omega)
       have hz5 : bb < W1.heap.size := by omega
       clear hu1 hgr hsz B1
       refine wp_region_tail 7 (by kernel_rfl) (by kernel_rfl) ?_
       simp only [List.take_succ_cons, List.take_zero, List.drop_succ_cons, List.drop_zero]
       repeat still_step
       refine wpStill_nil ?_
       go_wp2_with fail
       obtain ⟨t0, t1, t2, t3, t4, t5, hgz⟩ := HK1.out
       have hz2 : b2 < W1.heap.size := by omega
       refine wp_region_below (by kernel_rfl) (by kernel_rfl) ?_
       repeat (first
        | go_big_quiet_skip
        | (go_big_quiet_want
           first
            | (apply quiet_val
               focus (
                intro WC hWC
                obtain ⟨hcc0, hff0⟩ := bcell hWC
                go_simp
                all_goals rfl
                done)
               go_simp
               go_big_quiet_on)
            | (apply quiet_call
               focus (
                intro WC hWC
                go_simp
                all_goals (first | rfl | exact ⟨rfl, rfl⟩)
                done)
               focus (
                intro WC hWC
                exact (HRP.out WC).mono fun e w' h => ⟨h.1, hWC.trans (h.2.mono hWC.size)⟩
                done)
               go_simp
               go_big_quiet_on)))
       refine wpQuiet_nil ?_
       intro W2 hW2
       have hb2 := hW2
       clear hW2
       have z0 := (hb2.cell (p := ⟨wr.heap.size, 0, none⟩) hz1).trans y0
       have hz3 := hb2.size
       have hz4 : wr.heap.size < W2.heap.size := by omega
       have HB2 := Lib.hid (HB1.out.trans (hb2.mono HB1.out.size))
       have HK2 := Lib.hid (HK1.out.below hb2 hgz)
       have HV1 := Lib.hid (HU1.out.below hb2 HU1.out.lt)
       obtain ⟨W3, hrun3, hu3, hgr3, hsz3⟩ := upd_map (HU2.out.below hb2 HU2.out.lt) x0 (.int .i64 (k : Nat))
       have HU3 := Lib.hid hu3
       have HG3 := Lib.hid hgr3
       clear hb2 hu3 hgr3 y0 y1 y2 y3 y4 t0 t1 t2 t3 t4 t5
       go_wp2_with fail
       go_roundw
       case rel => exact ⟨k + 1, by go_num, rfl, by omega, HOK1.out, ⟨_, _, HV1.out.grown HG3.out (by simp <;> omega), HU3.out, OFN.out, CNT.out⟩, HK2.out.grown HG3.out (by simp <;> omega), hgw, HB2.out.grown HG3.out (by have := HB2.out.size; omega) (fun q e => by cases e; omega)⟩
       case measure => simp [intOf]; omega
      ·have HBT : Hid (betterB (rAt rs j) (fAt xs k) (fAt xs j) k j = false) := Lib.hid (by rw [HJB.out, FX.out, FY.out, better_repl1 hj]; exact hrp)
       have HRP : Hid (∀ WC : World, Calls Tryz.prog 155 #[.agg #[.int .i64 x0, .int .i64 x1, .int .i64 x2, .int .i64 x3, .int .i64 x4], .agg #[.int .i64 s0, .int .i64 s1, .int .i64 s2, .int .i64 s3, .int .i64 s4]] WC fun e w' => e = .returned (.bool false) ∧ Below WC.heap.size WC w') :=
        Lib.hid (fun WC => by have := kinds1_any ⟨x0, x1, x2, x3, x4⟩ ⟨s0, s1, s2, s3, s4⟩ WC; rw [hrp] at this; exact this)
       clear hrp
       have CNT : Hid (CntInv (fAt xs) (rAt rs) (k + 1) L2) := Lib.hid (HCN.out.keep (by rw [FX.out]; exact HJL.out) hj HBT.out)
       have lk := look_map (W := wr.alloc (.cells #[.int .i64 x0, .int .i64 x1, .int .i64 x2, .int .i64 x3, .int .i64 x4] 69)) (HM1.out.alloc _) x0
       rw [hn] at lk
       simp only [Option.getD_none, Option.getD_some, Option.isSome_none, Option.isSome_some] at lk
       clear hn
       go_wp2_with fail
       refine (within_any 0 0 2 _).mono ?_
       rw [HIN.out]
       rintro e w9 ⟨rfl, rfl⟩
       go_wp2_with fail
       obtain ⟨W1, hrun, hu1, hgr, hsz⟩ := upd_map ((HM1.out.alloc (.cells #[.int .i64 x0, .int .i64 x1, .int .i64 x2, .int .i64 x3, .int .i64 x4] 69)).drew) x0 (.int .i64 0)
       have hz1 : wr.heap.size < W1.heap.size := by rw [hsz]; simp
       have y0 := cell_up_new hgr (by omega) 0
       have y1 := cell_up_new hgr (by omega) 1
       have y2 := cell_up_new hgr (by omega) 2
       have y3 := cell_up_new hgr (by omega) 3
       have y4 := cell_up_new hgr (by omega) 4
       simp at y0 y1 y2 y3 y4
       have v0 := cell_up hgr r0 hbb2 (by omega)
       have B1 : Below w.heap.size w W1 := (HB.out.alloc hzr _).drew.grown hgr (by simp <;> omega) (fun q e => by cases e; omega)
       have HK1 := Lib.hid (((HKK.out.below ((Below.refl wr.heap.size wr).alloc (Nat.le_refl _) (.cells #[.int .i64 x0, .int .i64 x1, .int .i64 x2, .int .i64 x3, .int .i64 x4] 69)) (by omega)).below ((Below.refl _ _).drew) (Nat.lt_succ_self _)).grown hgr (by simp <;> omega))
       have HU1 := Lib.hid hu1
       have HU2 := Lib.hid (((HM2.out.alloc (.cells #[.int .i64 x0, .int .i64 x1, .int .i64 x2, .int .i64 x3, .int .i64 x4] 69)).drew).grown hgr (by simp <;> omega))
       have HB1 := Lib.hid B1
       have lk2 := look_map HU2.out x0
       rw [HJL.out] at lk2
       simp only [Option.getD_none, Option.getD_some, Option.isSome_none, Option.isSome_some] at lk2
       have u0 := cell_up hgr q0 hbb (by omega)
       have u1 := cell_up hgr q1' hbb (by omega)
       have u2 := cell_up hgr q2' hbb (by omega)
       have u3 := cell_up hgr q3 hbb (by omega)
       have u4 := cell_up hgr q4 hbb (by omega)
       have hz5 : bb < W1.heap.size := by omega
       clear hu1 hgr hsz B1
       refine wp_region_tail 7 (by kernel_rfl) (by kernel_rfl) ?_
       simp only [List.take_succ_cons, List.take_zero, List.drop_succ_cons, List.drop_zero]
       repeat still_step
       refine wpStill_nil ?_
       go_wp2_with fail
       obtain ⟨t0, t1, t2, t3, t4, t5, hgz⟩ := HK1.out
       have hz2 : b2 < W1.heap.size := by omega
       refine wp_region_below (by kernel_rfl) (by kernel_rfl) ?_
       repeat (first
        | go_big_quiet_skip
        | (go_big_quiet_want
           first
            | (apply quiet_val
               focus (
                intro WC hWC
                obtain ⟨hcc0, hff0⟩ := bcell hWC
                go_simp
                all_goals rfl
                done)
               go_simp
               go_big_quiet_on)
            | (apply quiet_call
               focus (
                intro WC hWC
                go_simp
                all_goals (first | rfl | exact ⟨rfl, rfl⟩)
                done)
               focus (
                intro WC hWC
                exact (HRP.out WC).mono fun e w' h => ⟨h.1, hWC.trans (h.2.mono hWC.size)⟩
                done)
               go_simp
               go_big_quiet_on)))
       refine wpQuiet_nil ?_
       intro W2 hW2
       have hb2 := hW2
       clear hW2
       have HB2 := Lib.hid (HB1.out.trans (hb2.mono HB1.out.size))
       have HK2 := Lib.hid (HK1.out.below hb2 hgz)
       have HV1 := Lib.hid (HU1.out.below hb2 HU1.out.lt)
       have HV2 := Lib.hid (HU2.out.below hb2 HU2.out.lt)
       clear hb2 y0 y1 y2 y3 y4 t0 t1 t2 t3 t4 t5
       go_wp2_with fail
       go_roundw
       case rel => exact ⟨k + 1, by go_num, rfl, by omega, HOK1.out, ⟨_, _, HV1.out, HV2.out, OFN.out, CNT.out⟩, HK2.out, hgw, HB2.out⟩
       case measure => simp [intOf]; omega
    ·rcases HO.out.cases x0 with ⟨hn, hno⟩ | ⟨i, hi, he, hn⟩
     ·have HNO := Lib.hid hno
      clear hno
      have HOK1 : Hid (Okay (fAt xs) (rAt rs) (k + 1)) := Lib.hid (HOK.out.step (by rw [RX.out]; decide) (by rw [RX.out]; decide) (fun i hi e => absurd (by rw [e, FX.out]) (HNO.out i hi)))
      have OFN : Hid (OfInv (fAt xs) (rAt rs) (k + 1) (updL x0 (.int .i64 1) L1)) := Lib.hid (by have := HO.out.step HOK1.out; rw [FX.out, RX.out] at this; exact this)
      have HLK2 : Hid (lookL x0 L2 = none) := Lib.hid (by
       rcases HCN.out x0 with ⟨h, _⟩ | ⟨j, hj, _, h, _⟩
       ·exact h
       ·exact absurd h (HNO.out j hj))
      have CNT : Hid (CntInv (fAt xs) (rAt rs) (k + 1) (updL x0 (.int .i64 (k : Nat)) L2)) := Lib.hid (by have := HCN.out.new HOK1.out (by rw [RX.out]; decide) (by rw [FX.out]; exact HLK2.out); rw [FX.out] at this; exact this)
      have lk := look_map (W := wr.alloc (.cells #[.int .i64 x0, .int .i64 x1, .int .i64 x2, .int .i64 x3, .int .i64 x4] 69)) (HM1.out.alloc _) x0
      rw [hn] at lk
      simp only [Option.getD_none, Option.getD_some, Option.isSome_none, Option.isSome_some] at lk
      clear hn
      go_wp2_with fail
      refine (within_any 1 0 2 _).mono ?_
      rw [HIN.out]
      rintro e w9 ⟨rfl, rfl⟩
      go_wp2_with fail
      obtain ⟨W1, hrun, hu1, hgr, hsz⟩ := upd_map ((HM1.out.alloc (.cells #[.int .i64 x0, .int .i64 x1, .int .i64 x2, .int .i64 x3, .int .i64 x4] 69)).drew) x0 (.int .i64 1)
      have hz1 : wr.heap.size < W1.heap.size := by rw [hsz]; simp
      have y0 := cell_up_new hgr (by omega) 0
      have y1 := cell_up_new hgr (by omega) 1
      have y2 := cell_up_new hgr (by omega) 2
      have y3 := cell_up_new hgr (by omega) 3
      have y4 := cell_up_new hgr (by omega) 4
      simp at y0 y1 y2 y3 y4
      have v0 := cell_up hgr r0 hbb2 (by omega)
      have B1 : Below w.heap.size w W1 := (HB.out.alloc hzr _).drew.grown hgr (by simp <;> omega) (fun q e => by cases e; omega)
      have HK1 := Lib.hid (((HKK.out.below ((Below.refl wr.heap.size wr).alloc (Nat.le_refl _) (.cells #[.int .i64 x0, .int .i64 x1, .int .i64 x2, .int .i64 x3, .int .i64 x4] 69)) (by omega)).below ((Below.refl _ _).drew) (Nat.lt_succ_self _)).grown hgr (by simp <;> omega))
      have HU1 := Lib.hid hu1
      have HU2 := Lib.hid (((HM2.out.alloc (.cells #[.int .i64 x0, .int .i64 x1, .int .i64 x2, .int .i64 x3, .int .i64 x4] 69)).drew).grown hgr (by simp <;> omega))
      have HB1 := Lib.hid B1
      have lk2 := look_map HU2.out x0
      rw [HLK2.out] at lk2
      simp only [Option.getD_none, Option.getD_some, Option.isSome_none, Option.isSome_some] at lk2
      clear hu1 hgr hsz B1
      refine wp_region_tail 7 (by kernel_rfl) (by kernel_rfl) ?_
      simp only [List.take_succ_cons, List.take_zero, List.drop_succ_cons, List.drop_zero]
      repeat still_step
      refine wpStill_nil ?_
      go_wp2_with fail
      obtain ⟨t0, t1, t2, t3, t4, t5, hgz⟩ := HK1.out
      have hz2 : b2 < W1.heap.size := by omega
      refine wp_region_below (by kernel_rfl) (by kernel_rfl) ?_
      repeat (first
       | go_big_quiet_skip
       | (go_big_quiet_want
          first
           | (apply quiet_val
              focus (
               intro WC hWC
               obtain ⟨hcc0, hff0⟩ := bcell hWC
               go_simp
               all_goals rfl
               done)
              go_simp
              go_big_quiet_on)))
      refine wpQuiet_nil ?_
      intro W2 hW2
      have hb2 := hW2
      clear hW2
      have z0 := (hb2.cell (p := ⟨wr.heap.size, 0, none⟩) hz1).trans y0
      have hz3 := hb2.size
      have hz4 : wr.heap.size < W2.heap.size := by omega
      have HB2 := Lib.hid (HB1.out.trans (hb2.mono HB1.out.size))
      have HK2 := Lib.hid (HK1.out.below hb2 hgz)
      have HV1 := Lib.hid (HU1.out.below hb2 HU1.out.lt)
      obtain ⟨W3, hrun3, hu3, hgr3, hsz3⟩ := upd_map (HU2.out.below hb2 HU2.out.lt) x0 (.int .i64 (k : Nat))
      have HU3 := Lib.hid hu3
      have HG3 := Lib.hid hgr3
      clear hb2 hu3 hgr3 y0 y1 y2 y3 y4 t0 t1 t2 t3 t4 t5
      go_wp2_with fail
      go_roundw
      case rel => exact ⟨k + 1, by go_num, rfl, by omega, HOK1.out, ⟨_, _, HV1.out.grown HG3.out (by simp <;> omega), HU3.out, OFN.out, CNT.out⟩, HK2.out.grown HG3.out (by simp <;> omega), hgw, HB2.out.grown HG3.out (by have := HB2.out.size; omega) (fun q e => by cases e; omega)⟩
      case measure => simp [intOf]; omega
     ·by_cases hri : rAt rs i = 1
      rotate_left
      ·have HN : Hid ((cl, E) = (([], 1) : List At × Int)) := Lib.hid (by rw [HR.out, countedA_arg HBD.out HLEN.out (fun h => hri (by have h1 := h.2 i k (by omega) hlt (by rw [he, FX.out]); rw [RX.out] at h1; exact h1))])
       have hne : (rAt rs i == 1) = false := by simpa using hri
       have hne2 : (rAt rs i != 1) = true := by simpa using hri
       clear hri
       have lk := look_map (W := wr.alloc (.cells #[.int .i64 x0, .int .i64 x1, .int .i64 x2, .int .i64 x3, .int .i64 x4] 69)) (HM1.out.alloc _) x0
       rw [hn] at lk
       simp only [Option.getD_none, Option.getD_some, Option.isSome_none, Option.isSome_some] at lk
       clear hn
       go_wp2_with fail
       refine (within_any 1 0 2 _).mono ?_
       rw [HIN.out]
       rintro e w9 ⟨rfl, rfl⟩
       go_wp2_with fail
       go_ret2
       have HN2 := HN.out
       simp only [Prod.mk.injEq] at HN2
       obtain ⟨rfl, rfl⟩ := HN2
       exact ⟨⟨_, rfl, Owns.nil_ _ _ _ _ _⟩, by first | exact HB.out.alloc hzr _ | (refine below_drewN ?_ _; exact HB.out.alloc hzr _)⟩
      rw [hri] at hn
      have HRI := Lib.hid hri
      have HE := Lib.hid he
      clear hri he
      have HOK1 : Hid (Okay (fAt xs) (rAt rs) (k + 1)) := Lib.hid (HOK.out.step (by rw [RX.out]; decide) (by rw [RX.out]; decide) (fun m hm e => by rw [RX.out, ← HRI.out]; exact HOK.out.2 m i hm hi (by rw [e, FX.out, HE.out])))
      have OFN : Hid (OfInv (fAt xs) (rAt rs) (k + 1) (updL x0 (.int .i64 1) L1)) := Lib.hid (by have := HO.out.step HOK1.out; rw [FX.out, RX.out] at this; exact this)
      obtain ⟨j, hj, hjl, hjc, hjb⟩ : ∃ j, j < k ∧ lookL x0 L2 = some (.int .i64 (j : Nat)) ∧ (fAt xs j).course = x0 ∧ rAt rs j = 1 := by
       rcases HCN.out x0 with ⟨_, h⟩ | ⟨j, hj, h1, h2, _⟩
       ·have := h i hi HE.out
        rw [HRI.out] at this
        exact absurd this (by decide)
       ·exact ⟨j, hj, h1, h2, by rw [HOK.out.2 j i hj hi (by rw [h2, HE.out]), HRI.out]⟩
      have hjn : j < xs.length := by omega
      obtain ⟨b3, o3, y, e3, _, hyk, hd3⟩ := (HX.out.below HB.out).at_ hjn
      simp only [Option.some.injEq, Addr.mk.injEq, and_true] at e3
      obtain ⟨rfl, rfl⟩ := e3
      have FY : Hid (fAt xs j = y) := Lib.hid (fAt_some hyk)
      have HJL := Lib.hid hjl
      have HJB := Lib.hid hjb
      have q0 := hd3 0 _ rfl
      have q1' := hd3 1 _ rfl
      have q2' := hd3 2 _ rfl
      have q3 := hd3 3 _ rfl
      have q4 := hd3 4 _ rfl
      simp only [Nat.add_zero] at q0
      obtain ⟨s0, s1, s2, s3, s4⟩ := y
      simp only at q0 q1' q2' q3 q4
      have hj0 : (0 : Int) ≤ (j : Int) := by omega
      have hgt : (fun (W : World) => True) wr := trivial
      clear hd3 hyk hjl hjc hjb hgt
      cases hrp : repl2 ⟨x0, x1, x2, x3, x4⟩ ⟨s0, s1, s2, s3, s4⟩
      rotate_left
      ·have HBT : Hid (betterB (rAt rs j) (fAt xs k) (fAt xs j) k j = true) := Lib.hid (by rw [HJB.out, FX.out, FY.out, better_repl2 hj]; exact hrp)
       have HRP : Hid (∀ WC : World, Calls Tryz.prog 156 #[.agg #[.int .i64 x0, .int .i64 x1, .int .i64 x2, .int .i64 x3, .int .i64 x4], .agg #[.int .i64 s0, .int .i64 s1, .int .i64 s2, .int .i64 s3, .int .i64 s4]] WC fun e w' => e = .returned (.bool true) ∧ Below WC.heap.size WC w') :=
        Lib.hid (fun WC => by have := kinds2_any ⟨x0, x1, x2, x3, x4⟩ ⟨s0, s1, s2, s3, s4⟩ WC; rw [hrp] at this; exact this)
       clear hrp
       have CNT : Hid (CntInv (fAt xs) (rAt rs) (k + 1) (updL x0 (.int .i64 (k : Nat)) L2)) := Lib.hid (by have := HCN.out.take HOK1.out (by rw [RX.out]; decide) (by rw [FX.out]; exact HJL.out) hj HBT.out; rw [FX.out] at this; exact this)
       have lk := look_map (W := wr.alloc (.cells #[.int .i64 x0, .int .i64 x1, .int .i64 x2, .int .i64 x3, .int .i64 x4] 69)) (HM1.out.alloc _) x0
       rw [hn] at lk
       simp only [Option.getD_none, Option.getD_some, Option.isSome_none, Option.isSome_some] at lk
       clear hn
       go_wp2_with fail
       refine (within_any 1 0 2 _).mono ?_
       rw [HIN.out]
       rintro e w9 ⟨rfl, rfl⟩
       go_wp2_with fail
       obtain ⟨W1, hrun, hu1, hgr, hsz⟩ := upd_map ((HM1.out.alloc (.cells #[.int .i64 x0, .int .i64 x1, .int .i64 x2, .int .i64 x3, .int .i64 x4] 69)).drew) x0 (.int .i64 1)
       have hz1 : wr.heap.size < W1.heap.size := by rw [hsz]; simp
       have y0 := cell_up_new hgr (by omega) 0
       have y1 := cell_up_new hgr (by omega) 1
       have y2 := cell_up_new hgr (by omega) 2
       have y3 := cell_up_new hgr (by omega) 3
       have y4 := cell_up_new hgr (by omega) 4
       simp at y0 y1 y2 y3 y4
       have v0 := cell_up hgr r0 hbb2 (by omega)
       have B1 : Below w.heap.size w W1 := (HB.out.alloc hzr _).drew.grown hgr (by simp <;> omega) (fun q e => by cases e; omega)
       have HK1 := Lib.hid (((HKK.out.below ((Below.refl wr.heap.size wr).alloc (Nat.le_refl _) (.cells #[.int .i64 x0, .int .i64 x1, .int .i64 x2, .int .i64 x3, .int .i64 x4] 69)) (by omega)).below ((Below.refl _ _).drew) (Nat.lt_succ_self _)).grown hgr (by simp <;> omega))
       have HU1 := Lib.hid hu1
       have HU2 := Lib.hid (((HM2.out.alloc (.cells #[.int .i64 x0, .int .i64 x1, .int .i64 x2, .int .i64 x3, .int .i64 x4] 69)).drew).grown hgr (by simp <;> omega))
       have HB1 := Lib.hid B1
       have lk2 := look_map HU2.out x0
       rw [HJL.out] at lk2
       simp only [Option.getD_none, Option.getD_some, Option.isSome_none, Option.isSome_some] at lk2
       have u0 := cell_up hgr q0 hbb (by omega)
       have u1 := cell_up hgr q1' hbb (by omega)
       have u2 := cell_up hgr q2' hbb (by omega)
       have u3 := cell_up hgr q3 hbb (by omega)
       have u4 := cell_up hgr q4 hbb (by omega)
       have hz5 : bb < W1.heap.size := by omega
       clear hu1 hgr hsz B1
       refine wp_region_tail 7 (by kernel_rfl) (by kernel_rfl) ?_
       simp only [List.take_succ_cons, List.take_zero, List.drop_succ_cons, List.drop_zero]
       repeat still_step
       refine wpStill_nil ?_
       go_wp2_with fail
       obtain ⟨t0, t1, t2, t3, t4, t5, hgz⟩ := HK1.out
       have hz2 : b2 < W1.heap.size := by omega
       refine wp_region_below (by kernel_rfl) (by kernel_rfl) ?_
       repeat (first
        | go_big_quiet_skip
        | (go_big_quiet_want
           first
            | (apply quiet_val
               focus (
                intro WC hWC
                obtain ⟨hcc0, hff0⟩ := bcell hWC
                go_simp
                all_goals rfl
                done)
               go_simp
               go_big_quiet_on)
            | (apply quiet_call
               focus (
                intro WC hWC
                go_simp
                all_goals (first | rfl | exact ⟨rfl, rfl⟩)
                done)
               focus (
                intro WC hWC
                exact (HRP.out WC).mono fun e w' h => ⟨h.1, hWC.trans (h.2.mono hWC.size)⟩
                done)
               go_simp
               go_big_quiet_on)))
       refine wpQuiet_nil ?_
       intro W2 hW2
       have hb2 := hW2
       clear hW2
       have z0 := (hb2.cell (p := ⟨wr.heap.size, 0, none⟩) hz1).trans y0
       have hz3 := hb2.size
       have hz4 : wr.heap.size < W2.heap.size := by omega
       have HB2 := Lib.hid (HB1.out.trans (hb2.mono HB1.out.size))
       have HK2 := Lib.hid (HK1.out.below hb2 hgz)
       have HV1 := Lib.hid (HU1.out.below hb2 HU1.out.lt)
       obtain ⟨W3, hrun3, hu3, hgr3, hsz3⟩ := upd_map (HU2.out.below hb2 HU2.out.lt) x0 (.int .i64 (k : Nat))
       have HU3 := Lib.hid hu3
       have HG3 := Lib.hid hgr3
       clear hb2 hu3 hgr3 y0 y1 y2 y3 y4 t0 t1 t2 t3 t4 t5
       go_wp2_with fail
       go_roundw
       case rel => exact ⟨k + 1, by go_num, rfl, by omega, HOK1.out, ⟨_, _, HV1.out.grown HG3.out (by simp <;> omega), HU3.out, OFN.out, CNT.out⟩, HK2.out.grown HG3.out (by simp <;> omega), hgw, HB2.out.grown HG3.out (by have := HB2.out.size; omega) (fun q e => by cases e; omega)⟩
       case measure => simp [intOf]; omega
      ·have HBT : Hid (betterB (rAt rs j) (fAt xs k) (fAt xs j) k j = false) := Lib.hid (by rw [HJB.out, FX.out, FY.out, better_repl2 hj]; exact hrp)
       have HRP : Hid (∀ WC : World, Calls Tryz.prog 156 #[.agg #[.int .i64 x0, .int .i64 x1, .int .i64 x2, .int .i64 x3, .int .i64 x4], .agg #[.int .i64 s0, .int .i64 s1, .int .i64 s2, .int .i64 s3, .int .i64 s4]] WC fun e w' => e = .returned (.bool false) ∧ Below WC.heap.size WC w') :=
        Lib.hid (fun WC => by have := kinds2_any ⟨x0, x1, x2, x3, x4⟩ ⟨s0, s1, s2, s3, s4⟩ WC; rw [hrp] at this; exact this)
       clear hrp
       have CNT : Hid (CntInv (fAt xs) (rAt rs) (k + 1) L2) := Lib.hid (HCN.out.keep (by rw [FX.out]; exact HJL.out) hj HBT.out)
       have lk := look_map (W := wr.alloc (.cells #[.int .i64 x0, .int .i64 x1, .int .i64 x2, .int .i64 x3, .int .i64 x4] 69)) (HM1.out.alloc _) x0
       rw [hn] at lk
       simp only [Option.getD_none, Option.getD_some, Option.isSome_none, Option.isSome_some] at lk
       clear hn
       go_wp2_with fail
       refine (within_any 1 0 2 _).mono ?_
       rw [HIN.out]
       rintro e w9 ⟨rfl, rfl⟩
       go_wp2_with fail
       obtain ⟨W1, hrun, hu1, hgr, hsz⟩ := upd_map ((HM1.out.alloc (.cells #[.int .i64 x0, .int .i64 x1, .int .i64 x2, .int .i64 x3, .int .i64 x4] 69)).drew) x0 (.int .i64 1)
       have hz1 : wr.heap.size < W1.heap.size := by rw [hsz]; simp
       have y0 := cell_up_new hgr (by omega) 0
       have y1 := cell_up_new hgr (by omega) 1
       have y2 := cell_up_new hgr (by omega) 2
       have y3 := cell_up_new hgr (by omega) 3
       have y4 := cell_up_new hgr (by omega) 4
       simp at y0 y1 y2 y3 y4
       have v0 := cell_up hgr r0 hbb2 (by omega)
       have B1 : Below w.heap.size w W1 := (HB.out.alloc hzr _).drew.grown hgr (by simp <;> omega) (fun q e => by cases e; omega)
       have HK1 := Lib.hid (((HKK.out.below ((Below.refl wr.heap.size wr).alloc (Nat.le_refl _) (.cells #[.int .i64 x0, .int .i64 x1, .int .i64 x2, .int .i64 x3, .int .i64 x4] 69)) (by omega)).below ((Below.refl _ _).drew) (Nat.lt_succ_self _)).grown hgr (by simp <;> omega))
       have HU1 := Lib.hid hu1
       have HU2 := Lib.hid (((HM2.out.alloc (.cells #[.int .i64 x0, .int .i64 x1, .int .i64 x2, .int .i64 x3, .int .i64 x4] 69)).drew).grown hgr (by simp <;> omega))
       have HB1 := Lib.hid B1
       have lk2 := look_map HU2.out x0
       rw [HJL.out] at lk2
       simp only [Option.getD_none, Option.getD_some, Option.isSome_none, Option.isSome_some] at lk2
       have u0 := cell_up hgr q0 hbb (by omega)
       have u1 := cell_up hgr q1' hbb (by omega)
       have u2 := cell_up hgr q2' hbb (by omega)
       have u3 := cell_up hgr q3 hbb (by omega)
       have u4 := cell_up hgr q4 hbb (by omega)
       have hz5 : bb < W1.heap.size := by omega
       clear hu1 hgr hsz B1
       refine wp_region_tail 7 (by kernel_rfl) (by kernel_rfl) ?_
       simp only [List.take_succ_cons, List.take_zero, List.drop_succ_cons, List.drop_zero]
       repeat still_step
       refine wpStill_nil ?_
       go_wp2_with fail
       obtain ⟨t0, t1, t2, t3, t4, t5, hgz⟩ := HK1.out
       have hz2 : b2 < W1.heap.size := by omega
       refine wp_region_below (by kernel_rfl) (by kernel_rfl) ?_
       repeat (first
        | go_big_quiet_skip
        | (go_big_quiet_want
           first
            | (apply quiet_val
               focus (
                intro WC hWC
                obtain ⟨hcc0, hff0⟩ := bcell hWC
                go_simp
                all_goals rfl
                done)
               go_simp
               go_big_quiet_on)
            | (apply quiet_call
               focus (
                intro WC hWC
                go_simp
                all_goals (first | rfl | exact ⟨rfl, rfl⟩)
                done)
               focus (
                intro WC hWC
                exact (HRP.out WC).mono fun e w' h => ⟨h.1, hWC.trans (h.2.mono hWC.size)⟩
                done)
               go_simp
               go_big_quiet_on)))
       refine wpQuiet_nil ?_
       intro W2 hW2
       have hb2 := hW2
       clear hW2
       have HB2 := Lib.hid (HB1.out.trans (hb2.mono HB1.out.size))
       have HK2 := Lib.hid (HK1.out.below hb2 hgz)
       have HV1 := Lib.hid (HU1.out.below hb2 HU1.out.lt)
       have HV2 := Lib.hid (HU2.out.below hb2 HU2.out.lt)
       clear hb2 y0 y1 y2 y3 y4 t0 t1 t2 t3 t4 t5
       go_wp2_with fail
       go_roundw
       case rel => exact ⟨k + 1, by go_num, rfl, by omega, HOK1.out, ⟨_, _, HV1.out, HV2.out, OFN.out, CNT.out⟩, HK2.out, hgw, HB2.out⟩
       case measure => simp [intOf]; omega
    ·rcases HO.out.cases x0 with ⟨hn, hno⟩ | ⟨i, hi, he, hn⟩
     ·have HNO := Lib.hid hno
      clear hno
      have HOK1 : Hid (Okay (fAt xs) (rAt rs) (k + 1)) := Lib.hid (HOK.out.step (by rw [RX.out]; decide) (by rw [RX.out]; decide) (fun i hi e => absurd (by rw [e, FX.out]) (HNO.out i hi)))
      have OFN : Hid (OfInv (fAt xs) (rAt rs) (k + 1) (updL x0 (.int .i64 2) L1)) := Lib.hid (by have := HO.out.step HOK1.out; rw [FX.out, RX.out] at this; exact this)
      have HLK2 : Hid (lookL x0 L2 = none) := Lib.hid (by
       rcases HCN.out x0 with ⟨h, _⟩ | ⟨j, hj, _, h, _⟩
       ·exact h
       ·exact absurd h (HNO.out j hj))
      have CNT : Hid (CntInv (fAt xs) (rAt rs) (k + 1) L2) := Lib.hid (HCN.out.each HOK1.out RX.out)
      have lk := look_map (W := wr.alloc (.cells #[.int .i64 x0, .int .i64 x1, .int .i64 x2, .int .i64 x3, .int .i64 x4] 69)) (HM1.out.alloc _) x0
      rw [hn] at lk
      simp only [Option.getD_none, Option.getD_some, Option.isSome_none, Option.isSome_some] at lk
      clear hn
      go_wp2_with fail
      refine (within_any 2 0 2 _).mono ?_
      rw [HIN.out]
      rintro e w9 ⟨rfl, rfl⟩
      go_wp2_with fail
      obtain ⟨W1, hrun, hu1, hgr, hsz⟩ := upd_map ((HM1.out.alloc (.cells #[.int .i64 x0, .int .i64 x1, .int .i64 x2, .int .i64 x3, .int .i64 x4] 69)).drew) x0 (.int .i64 2)
      have hz1 : wr.heap.size < W1.heap.size := by rw [hsz]; simp
      have y0 := cell_up_new hgr (by omega) 0
      have y1 := cell_up_new hgr (by omega) 1
      have y2 := cell_up_new hgr (by omega) 2
      have y3 := cell_up_new hgr (by omega) 3
      have y4 := cell_up_new hgr (by omega) 4
      simp at y0 y1 y2 y3 y4
      have v0 := cell_up hgr r0 hbb2 (by omega)
      have B1 : Below w.heap.size w W1 := (HB.out.alloc hzr _).drew.grown hgr (by simp <;> omega) (fun q e => by cases e; omega)
      have HK1 := Lib.hid (((HKK.out.below ((Below.refl wr.heap.size wr).alloc (Nat.le_refl _) (.cells #[.int .i64 x0, .int .i64 x1, .int .i64 x2, .int .i64 x3, .int .i64 x4] 69)) (by omega)).below ((Below.refl _ _).drew) (Nat.lt_succ_self _)).grown hgr (by simp <;> omega))
      have HU1 := Lib.hid hu1
      have HU2 := Lib.hid (((HM2.out.alloc (.cells #[.int .i64 x0, .int .i64 x1, .int .i64 x2, .int .i64 x3, .int .i64 x4] 69)).drew).grown hgr (by simp <;> omega))
      have HB1 := Lib.hid B1
      have lk2 := look_map HU2.out x0
      rw [HLK2.out] at lk2
      simp only [Option.getD_none, Option.getD_some, Option.isSome_none, Option.isSome_some] at lk2
      clear hu1 hgr hsz B1
      refine wp_region_tail 7 (by kernel_rfl) (by kernel_rfl) ?_
      simp only [List.take_succ_cons, List.take_zero, List.drop_succ_cons, List.drop_zero]
      repeat still_step
      refine wpStill_nil ?_
      go_wp2_with fail
      obtain ⟨t0, t1, t2, t3, t4, t5, hgz⟩ := HK1.out
      have hz2 : b2 < W1.heap.size := by omega
      refine wp_region_below (by kernel_rfl) (by kernel_rfl) ?_
      repeat (first
       | go_big_quiet_skip
       | (go_big_quiet_want
          first
           | (apply quiet_val
              focus (
               intro WC hWC
               obtain ⟨hcc0, hff0⟩ := bcell hWC
               go_simp
               all_goals rfl
               done)
              go_simp
              go_big_quiet_on)))
      refine wpQuiet_nil ?_
      intro W2 hW2
      have hb2 := hW2
      clear hW2
      have HB2 := Lib.hid (HB1.out.trans (hb2.mono HB1.out.size))
      have HK2 := Lib.hid (HK1.out.below hb2 hgz)
      have HV1 := Lib.hid (HU1.out.below hb2 HU1.out.lt)
      have HV2 := Lib.hid (HU2.out.below hb2 HU2.out.lt)
      clear hb2 y0 y1 y2 y3 y4 t0 t1 t2 t3 t4 t5
      go_wp2_with fail
      go_roundw
      case rel => exact ⟨k + 1, by go_num, rfl, by omega, HOK1.out, ⟨_, _, HV1.out, HV2.out, OFN.out, CNT.out⟩, HK2.out, hgw, HB2.out⟩
      case measure => simp [intOf]; omega
     ·by_cases hri : rAt rs i = 2
      rotate_left
      ·have HN : Hid ((cl, E) = (([], 1) : List At × Int)) := Lib.hid (by rw [HR.out, countedA_arg HBD.out HLEN.out (fun h => hri (by have h1 := h.2 i k (by omega) hlt (by rw [he, FX.out]); rw [RX.out] at h1; exact h1))])
       have hne : (rAt rs i == 2) = false := by simpa using hri
       have hne2 : (rAt rs i != 2) = true := by simpa using hri
       clear hri
       have lk := look_map (W := wr.alloc (.cells #[.int .i64 x0, .int .i64 x1, .int .i64 x2, .int .i64 x3, .int .i64 x4] 69)) (HM1.out.alloc _) x0
       rw [hn] at lk
       simp only [Option.getD_none, Option.getD_some, Option.isSome_none, Option.isSome_some] at lk
       clear hn
       go_wp2_with fail
       refine (within_any 2 0 2 _).mono ?_
       rw [HIN.out]
       rintro e w9 ⟨rfl, rfl⟩
       go_wp2_with fail
       go_ret2
       have HN2 := HN.out
       simp only [Prod.mk.injEq] at HN2
       obtain ⟨rfl, rfl⟩ := HN2
       exact ⟨⟨_, rfl, Owns.nil_ _ _ _ _ _⟩, by first | exact HB.out.alloc hzr _ | (refine below_drewN ?_ _; exact HB.out.alloc hzr _)⟩
      rw [hri] at hn
      have HRI := Lib.hid hri
      have HE := Lib.hid he
      clear hri he
      have HOK1 : Hid (Okay (fAt xs) (rAt rs) (k + 1)) := Lib.hid (HOK.out.step (by rw [RX.out]; decide) (by rw [RX.out]; decide) (fun m hm e => by rw [RX.out, ← HRI.out]; exact HOK.out.2 m i hm hi (by rw [e, FX.out, HE.out])))
      have OFN : Hid (OfInv (fAt xs) (rAt rs) (k + 1) (updL x0 (.int .i64 2) L1)) := Lib.hid (by have := HO.out.step HOK1.out; rw [FX.out, RX.out] at this; exact this)
      have CNT : Hid (CntInv (fAt xs) (rAt rs) (k + 1) L2) := Lib.hid (HCN.out.each HOK1.out RX.out)
      have HLK2 : Hid (lookL x0 L2 = none) := Lib.hid (by
       rcases HCN.out x0 with ⟨h, _⟩ | ⟨j, hj, _, h, h3, _⟩
       ·exact h
       ·exact absurd (by rw [HOK.out.2 j i hj hi (by rw [h, HE.out]), HRI.out]) h3)
      have lk := look_map (W := wr.alloc (.cells #[.int .i64 x0, .int .i64 x1, .int .i64 x2, .int .i64 x3, .int .i64 x4] 69)) (HM1.out.alloc _) x0
      rw [hn] at lk
      simp only [Option.getD_none, Option.getD_some, Option.isSome_none, Option.isSome_some] at lk
      clear hn
      go_wp2_with fail
      refine (within_any 2 0 2 _).mono ?_
      rw [HIN.out]
      rintro e w9 ⟨rfl, rfl⟩
      go_wp2_with fail
      obtain ⟨W1, hrun, hu1, hgr, hsz⟩ := upd_map ((HM1.out.alloc (.cells #[.int .i64 x0, .int .i64 x1, .int .i64 x2, .int .i64 x3, .int .i64 x4] 69)).drew) x0 (.int .i64 2)
      have hz1 : wr.heap.size < W1.heap.size := by rw [hsz]; simp
      have y0 := cell_up_new hgr (by omega) 0
      have y1 := cell_up_new hgr (by omega) 1
      have y2 := cell_up_new hgr (by omega) 2
      have y3 := cell_up_new hgr (by omega) 3
      have y4 := cell_up_new hgr (by omega) 4
      simp at y0 y1 y2 y3 y4
      have v0 := cell_up hgr r0 hbb2 (by omega)
      have B1 : Below w.heap.size w W1 := (HB.out.alloc hzr _).drew.grown hgr (by simp <;> omega) (fun q e => by cases e; omega)
      have HK1 := Lib.hid (((HKK.out.below ((Below.refl wr.heap.size wr).alloc (Nat.le_refl _) (.cells #[.int .i64 x0, .int .i64 x1, .int .i64 x2, .int .i64 x3, .int .i64 x4] 69)) (by omega)).below ((Below.refl _ _).drew) (Nat.lt_succ_self _)).grown hgr (by simp <;> omega))
      have HU1 := Lib.hid hu1
      have HU2 := Lib.hid (((HM2.out.alloc (.cells #[.int .i64 x0, .int .i64 x1, .int .i64 x2, .int .i64 x3, .int .i64 x4] 69)).drew).grown hgr (by simp <;> omega))
      have HB1 := Lib.hid B1
      have lk2 := look_map HU2.out x0
      rw [HLK2.out] at lk2
      simp only [Option.getD_none, Option.getD_some, Option.isSome_none, Option.isSome_some] at lk2
      clear hu1 hgr hsz B1
      refine wp_region_tail 7 (by kernel_rfl) (by kernel_rfl) ?_
      simp only [List.take_succ_cons, List.take_zero, List.drop_succ_cons, List.drop_zero]
      repeat still_step
      refine wpStill_nil ?_
      go_wp2_with fail
      obtain ⟨t0, t1, t2, t3, t4, t5, hgz⟩ := HK1.out
      have hz2 : b2 < W1.heap.size := by omega
      refine wp_region_below (by kernel_rfl) (by kernel_rfl) ?_
      repeat (first
       | go_big_quiet_skip
       | (go_big_quiet_want
          first
           | (apply quiet_val
              focus (
               intro WC hWC
               obtain ⟨hcc0, hff0⟩ := bcell hWC
               go_simp
               all_goals rfl
               done)
              go_simp
              go_big_quiet_on)))
      refine wpQuiet_nil ?_
      intro W2 hW2
      have hb2 := hW2
      clear hW2
      have HB2 := Lib.hid (HB1.out.trans (hb2.mono HB1.out.size))
      have HK2 := Lib.hid (HK1.out.below hb2 hgz)
      have HV1 := Lib.hid (HU1.out.below hb2 HU1.out.lt)
      have HV2 := Lib.hid (HU2.out.below hb2 HU2.out.lt)
      clear hb2 y0 y1 y2 y3 y4 t0 t1 t2 t3 t4 t5
      go_wp2_with fail
      go_roundw
      case rel => exact ⟨k + 1, by go_num, rfl, by omega, HOK1.out, ⟨_, _, HV1.out, HV2.out, OFN.out, CNT.out⟩, HK2.out, hgw, HB2.out⟩
      case measure => simp [intOf]; omega
  ·obtain rfl : k = xs.length := by omega
   have HB := Lib.hid hB
   have HRR : Hid ((cl, E) = ((countedL (fAt xs) (rAt rs) xs.length, 0) : List At × Int)) := Lib.hid (by rw [HR.out, countedA_ok HBD.out HLEN.out HOK.out])
   clear hB
   obtain ⟨wb, rfl⟩ : ∃ wb : World, wb = wr := ⟨_, rfl⟩
   obtain ⟨i0, hinf, hz0, hz1, hz2⟩ := info_parts Tryz.infoAt
   go_wp2_with fail
   go_loopw [4, 110] (fun v i wr => ∃ k : Nat, k ≤ xs.length ∧ i = .int .i64 k ∧ Owns wr (g + 3) 69 5 At.enc v (cntTo (fAt xs) (rAt rs) xs.length k) ∧ MapIs wr (g + 2) L2 ∧ Below w.heap.size w wr) (fun _ i _ => xs.length - (intOf i).toNat)
   case atStart => exact ⟨0, Nat.zero_le _, rfl, Owns.nil_ _ _ _ _ _, HM2.out, HB.out⟩
   case round =>
    obtain ⟨k, hk2, rfl, hown, hmp, hB⟩ := hrel
    have hzr := hB.size
    have hg3 : g + 2 < wr.heap.size := hmp.lt
    obtain ⟨Av, cv, rfl, hAv, _⟩ := hown.shape
    have HOW := Lib.hid hown
    have HMP := Lib.hid hmp
    have HLE := Lib.hid (cntTo_len (fAt xs) (rAt rs) xs.length k)
    clear hown hmp hAv
    by_cases hlt2 : k < xs.length
    ·obtain ⟨bb, off, x, rfl, hbl, hxk, hc⟩ := (HX.out.below hB).at_ hlt2
     have p0 := hc 0 _ rfl
     have p1 := hc 1 _ rfl
     have p2 := hc 2 _ rfl
     have p3 := hc 3 _ rfl
     have p4 := hc 4 _ rfl
     simp only [Nat.add_zero] at p0
     have hbb : bb < wr.heap.size := by omega
     have FX : Hid (fAt xs k = x) := Lib.hid (fAt_some hxk)
     have HBW := Lib.hid hB
     have HST := Lib.hid (cntTo_step (fAt xs) (rAt rs) xs.length k)
     have hcs := HCN.out.counts HOK.out hlt2
     rw [FX.out] at hcs
     clear hc hxk hB
     obtain ⟨x0, x1, x2, x3, x4⟩ := x
     simp only at p0 p1 p2 p3 p4 hcs
     rcases hcs with ⟨hlk, hcb⟩ | ⟨j, hjn, hlk, hcb⟩
     ·have lk := look_map (HMP.out.alloc (.cells #[.int .i64 x0, .int .i64 x1, .int .i64 x2, .int .i64 x3, .int .i64 x4] 69)) x0
      rw [hlk] at lk
      simp only [Option.getD_none, Option.getD_some, Option.isSome_none, Option.isSome_some] at lk
      have HCB := Lib.hid hcb
      clear hlk hcb
      go_wp2_with (at_builtin; refine stop_mk ?_)
      refine stop_out (wpList_append_reads (en := At.enc) (sz := 5) _ rfl _ _ _ rfl At.enc_len At.enc_one (g + 3) 69 i0 _ 40 Tryz.underlying47 hinf hz0 hz1 hz2 rfl (by omega) _ (cntTo (fAt xs) (rAt rs) xs.length k) rfl ((HOW.out.alloc _).alloc _) (wr.heap.size + 2) (some ⟨wr.heap.size + 1, 0, none⟩) 1 [⟨x0, x1, x2, x3, x4⟩] rfl (reads_one (wr.alloc (.cells #[.int .i64 x0, .int .i64 x1, .int .i64 x2, .int .i64 x3, .int .i64 x4] 69)) At.enc ⟨x0, x1, x2, x3, x4⟩ _ _ rfl 5 (wr.heap.size + 1) (by simp)) (fun h => by cases h) (by have := HLE.out; simp [maxLen]; omega) (by have := HLE.out; simp; omega) (by simp; omega) ?_)
      intro v1 w9 hown1 hg1 hat1 _
      have hb9 : Below w.heap.size w w9 := ((HBW.out.alloc hzr _).alloc (by simp <;> omega) _).grown hg1 (by simp; omega) (fun q e => by have := HOW.out.base_le q e; omega)
      have HMP9 := Lib.hid (((HMP.out.alloc (.cells #[.int .i64 x0, .int .i64 x1, .int .i64 x2, .int .i64 x3, .int .i64 x4] 69)).alloc (.cells #[.int .i64 x0, .int .i64 x1, .int .i64 x2, .int .i64 x3, .int .i64 x4] 69)).grown hg1 (fun e => by have := HOW.out.base_le _ e; omega))
      have HOW1 := Lib.hid hown1
      clear hg1 hat1 hown1
      go_wp2_with fail
      go_roundw
      case rel => exact ⟨k + 1, by omega, by go_num, by rw [HST.out, HCB.out, FX.out]; exact HOW1.out, HMP9.out, hb9⟩
      case measure => simp [intOf]; omega
     ·have lk := look_map (HMP.out.alloc (.cells #[.int .i64 x0, .int .i64 x1, .int .i64 x2, .int .i64 x3, .int .i64 x4] 69)) x0
      rw [hlk] at lk
      simp only [Option.getD_none, Option.getD_some, Option.isSome_none, Option.isSome_some] at lk
      by_cases hjk : j = k
      ·rw [decide_eq_true hjk] at hcb
       have HCB := Lib.hid hcb
       have hje : ((j : Int) == (k : Int)) = true := by simp [hjk]
       clear hlk hcb hjk
       go_wp2_with (at_builtin; refine stop_mk ?_)
       refine stop_out (wpList_append_reads (en := At.enc) (sz := 5) _ rfl _ _ _ rfl At.enc_len At.enc_one (g + 3) 69 i0 _ 40 Tryz.underlying47 hinf hz0 hz1 hz2 rfl (by omega) _ (cntTo (fAt xs) (rAt rs) xs.length k) rfl ((HOW.out.alloc _).alloc _) (wr.heap.size + 2) (some ⟨wr.heap.size + 1, 0, none⟩) 1 [⟨x0, x1, x2, x3, x4⟩] rfl (reads_one (wr.alloc (.cells #[.int .i64 x0, .int .i64 x1, .int .i64 x2, .int .i64 x3, .int .i64 x4] 69)) At.enc ⟨x0, x1, x2, x3, x4⟩ _ _ rfl 5 (wr.heap.size + 1) (by simp)) (fun h => by cases h) (by have := HLE.out; simp [maxLen]; omega) (by have := HLE.out; simp; omega) (by simp; omega) ?_)
       intro v1 w9 hown1 hg1 hat1 _
       have hb9 : Below w.heap.size w w9 := ((HBW.out.alloc hzr _).alloc (by simp <;> omega) _).grown hg1 (by simp; omega) (fun q e => by have := HOW.out.base_le q e; omega)
       have HMP9 := Lib.hid (((HMP.out.alloc (.cells #[.int .i64 x0, .int .i64 x1, .int .i64 x2, .int .i64 x3, .int .i64 x4] 69)).alloc (.cells #[.int .i64 x0, .int .i64 x1, .int .i64 x2, .int .i64 x3, .int .i64 x4] 69)).grown hg1 (fun e => by have := HOW.out.base_le _ e; omega))
       have HOW1 := Lib.hid hown1
       clear hg1 hat1 hown1
       go_wp2_with fail
       go_roundw
       case rel => exact ⟨k + 1, by omega, by go_num, by rw [HST.out, HCB.out, FX.out]; exact HOW1.out, HMP9.out, hb9⟩
       case measure => simp [intOf]; omega
      ·rw [decide_eq_false hjk] at hcb
       have HCB := Lib.hid hcb
       have hje : ((j : Int) == (k : Int)) = false := by simp; omega
       clear hlk hcb hjk
       go_wp2_with fail
       go_roundw
       case rel => exact ⟨k + 1, by omega, by go_num, by rw [HST.out, HCB.out]; simpa using HOW.out.alloc _, HMP.out.alloc _, HBW.out.alloc hzr _⟩
       case measure => simp [intOf]; omega
    ·obtain rfl : k = xs.length := by omega
     go_wp2_with fail
     go_ret2
     have h9 := HRR.out
     simp only [Prod.mk.injEq] at h9
     obtain ⟨rfl, rfl⟩ := h9
     exact ⟨⟨_, rfl, HOW.out.base (by omega)⟩, hB⟩
end Go.Proofs.YtalmbigebjbaoaaGreatDoor
