/- TopDegree, what its proof leans on: the texts TopW, TopX, TopN. -/
import Derived.Test.YtalmbigebjbaoaaGreatDoorM32
import Derived.Test.YtalmbigebjbaoaaGreatDoorM20
import Derived.Deep.WholeRow
import Derived.Test.YtalmbigebjbaoaaGreatDoorM30
import Derived.Shelf.SlLaysM
import Derived.Shelf.SlGeneric
import Derived.Shelf.SortM.Plain
import Derived.Shelf.SortM.SortNone
import Derived.Sort.OwnSortedInts
import Derived.Test.YtalmbigebjbaoaaGreatDoorM25
import Derived.Test.YtalmbigebjbaoaaGreatDoorM01
import Derived.Deep.CutBlock
import Derived.Deep.CutRange
namespace Go.Proofs.YtalmbigebjbaoaaGreatDoor
open Go.RowKit Go.Shelf
set_option linter.unusedSimpArgs false
set_option linter.unusedVariables false
attribute [local go_sem] Oper.semAt_some
def ptE (x : Int × Int) : List Value := [.int .i64 x.1, .int .i64 x.2]
theorem ptE_len (x : Int × Int) : (ptE x).length = 2 := rfl
theorem ptE_one (x : Int × Int) : ∀ u ∈ ptE x, u.oneCell' = true := by intro u hu; simp [ptE] at hu; rcases hu with rfl | rfl <;> rfl
theorem Tryz.infoPt : (Tryz.prog.info? 146).map (fun i => (i.zero, i.size, i.bytes)) = some (some (.agg #[.int .i64 0, .int .i64 0]), 2, 16) := by kernel_rfl
def ptsTo (v : Nat → Int) (n : Nat) : List (Int × Int) := (List.range n).filterMap (fun t => if 0 ≤ v t then some ((t : Int), v t) else none)
theorem ptsTo_snoc (v : Nat → Int) (n : Nat) : ptsTo v (n + 1) = ptsTo v n ++ (if 0 ≤ v n then [((n : Int), v n)] else []) := by
 unfold ptsTo
 rw [List.range_succ, List.filterMap_append]
 congr 1
 by_cases h : 0 ≤ v n <;> simp [h]
theorem ptsTo_len (v : Nat → Int) (n : Nat) : (ptsTo v n).length ≤ n := by
 unfold ptsTo
 exact Nat.le_trans (List.length_filterMap_le _ _) (by simp)
def ptsF (fs : List Fc) (k : Ky) (term known : Int) : List (Int × Int) := ptsTo (rowV fs k known) (min term 1024).toNat
structure PtI (w : World) (R : Array Value) (f : Nat → Int) (rb k : Nat) (v : Value) (W : World) : Prop where
 ro : W.heap[rb]? = some (.cells R 232 (0, 0))
 ow : Owns W (rb + 1) 146 2 ptE v (ptsTo f k)
 bw : Below w.heap.size w W
theorem PtI.step {w W W' : World} {R : Array Value} {f : Nat → Int} {rb k : Nat} {v : Value} (h : PtI w R f rb k v W) (hb : Below W.heap.size W W') : PtI w R f rb k v W' :=
 ⟨(hb.block _ (Array.getElem?_eq_some_iff.1 h.ro).1).trans h.ro, h.ow.below hb (Nat.le_refl _), h.bw.trans (hb.mono h.bw.size)⟩
set_option maxRecDepth 100000 in
set_option maxHeartbeats 8000000 in
theorem Points_any (xs : List Fc) (A : Option Addr) (c : Nat) (k : Ky) (term known : Int) (w : World) (hx : Reads w w.heap.size A 8 Fc.enc xs) (hl : xs.length ≤ 100000) :
 Calls Tryz.prog 111 #[.slice A xs.length c, k.v, .int .i64 0, .int .i64 term, .int .i64 known] w fun e w' =>
  (∃ s : Sl, e = .returned (.slice s.a s.n s.c) ∧ Owns w' w.heap.size 146 2 ptE (.slice s.a s.n s.c) (ptsF xs k term known)) ∧ Below w.heap.size w w' := by
 have HV := Lib.hid (fun W (hb : Below w.heap.size w W) => values_any xs A c k known W ((hx.below hb).more hb.size) hl)
 clear hx
 obtain ⟨R, hR⟩ : ∃ R, R = rowA xs k known := ⟨_, rfl⟩
 obtain ⟨f, hf⟩ : ∃ f, f = rowV xs k known := ⟨_, rfl⟩
 have HRC : Hid (∀ t, t < 1024 → R[t]? = some (.int .i64 (f t))) := Lib.hid (fun t ht => by rw [hR, hf]; simp [rowA, ht])
 have HRS : Hid (R.size = 1024) := Lib.hid (by rw [hR]; simp [rowA])
 have HRI : Hid ((Tryz.prog.info? 232).map (·.size) = some R.size) := Lib.hid (by rw [HRS.out]; exact infoRow)
 have HRO : Hid (R.all (·.oneCell') = true) := Lib.hid (by
  rw [hR]
  refine all_oneCell_toArray (fun v hv => ?_)
  obtain ⟨i, _, rfl⟩ := List.mem_map.1 hv
  rfl)
 have hPF : ptsF xs k term known = ptsTo f (min term 1024).toNat := by rw [hf]; rfl
 rw [hPF]
 rw [← hR] at HV
 clear hR hf hPF
 obtain ⟨k0, k1, k2⟩ := k
 unfold Ky.v at *
 simp only at *
 obtain ⟨i0, hi0, hz0, hz1, hz2⟩ := info_parts Tryz.infoPt
 have HI0 := Lib.hid hi0
 clear hi0
 have HB0 : Hid (Below w.heap.size w (w.alloc (.cells #[.int .i64 k0, .int .i64 k1, .int .i64 k2] 86))) := Lib.hid ((Below.refl _ _).alloc (Nat.le_refl _) _)
 obtain ⟨mn, hmn0⟩ : ∃ mn : Int, mn = min term 1024 := ⟨_, rfl⟩
 have hmn : ∀ W, (Builtin.min_ #[3, 3] 3 #[.int .i64 term, .int .i64 1024]).run Tryz.prog W = .ok (.int .i64 mn) W := fun W => by
  rw [hmn0]
  simp [Builtin.min_, Builtin.min2]
  omega
 have HMN := Lib.hid hmn0
 rw [← hmn0]
 clear hmn0
 go_enter Tryz.func111, Tryz.ntmps111
 go_wp2_with fail
 refine (HV.out _ HB0.out).mono ?_
 rintro e w1 ⟨rfl, hb1⟩
 have HB1 : Hid (Below w.heap.size w w1) := Lib.hid (HB0.out.trans (hb1.mono HB0.out.size))
 clear hb1
 dsimp only
 repeat (first
  | (refine wpList_store_row rfl 232 (.tmp 11) (.tmp 16) rfl w1.heap.size rfl rfl (World.alloc_heap_new _ _) HRI.out (by rw [HRS.out]; exact Tryz.zeroCells232_size) HRO.out ?_)
  | go_values | go_skip | go_guarded | go_step | go_upon)
 rw [World.setRow_alloc_new]
 have HP0 : Hid (PtI w R f w1.heap.size 0 (.slice none 0 0) (w1.alloc (.cells R 232))) := Lib.hid ⟨World.alloc_heap_new _ _, Owns.nil_ _ _ _ _ _, HB1.out.alloc HB1.out.size _⟩
 obtain ⟨rb, hrb⟩ : ∃ rb, rb = w1.heap.size := ⟨_, rfl⟩
 rw [← hrb] at HP0 ⊢
 have hrw : w.heap.size ≤ rb := by have := HB1.out.size; omega
 clear hrb HV
 go_loopw [12, 10] (fun i v wr => ∃ k : Nat, (k : Int) ≤ max 0 mn ∧ i = .int .i64 k ∧ PtI w R f rb k v wr) (fun i _ _ => 1024 - (intOf i).toNat)
 case atStart => exact ⟨0, by omega, rfl, HP0.out⟩
 case round =>
  clear HP0
  obtain ⟨k, hk, rfl, hp⟩ := hrel
  have HP := Lib.hid hp
  clear hp
  cases q0 : decide ((k : Int) < mn)
  ·have hkm : k = mn.toNat := by have := of_decide_eq_false q0; omega
   obtain ⟨A2, c2, rfl, _, _⟩ := HP.out.ow.shape
   have HSR : Hid (Owns wr w.heap.size 146 2 ptE (.slice A2 (ptsTo f mn.toNat).length c2) (ptsTo f mn.toNat)) := Lib.hid (by
    have h := Owns.base' HP.out.ow (b' := w.heap.size) (by omega)
    rw [hkm] at h
    exact h)
   have HN : Hid ((ptsTo f k).length = (ptsTo f mn.toNat).length) := Lib.hid (by rw [hkm])
   clear hkm
   repeat (first | go_values | go_skip | go_guarded | go_step | go_upon)
   go_ret
   exact ⟨⟨⟨A2, (ptsTo f mn.toNat).length, c2⟩, by rw [HN.out]; rfl, HSR.out⟩, HP.out.bw⟩
  ·have hkt : k < 1024 := by have := HMN.out; have := of_decide_eq_true q0; omega
   have hb0 : (0 : Int) ≤ (k : Int) := by omega
   have hb1 : (k : Int) < 1024 := by omega
   have hb2 : ((k : Int)).toNat = k := Int.toNat_natCast k
   obtain ⟨p, pf⟩ := cell_of HP.out.ro (HRC.out k hkt)
   have hrz : rb < wr.heap.size := (Array.getElem?_eq_some_iff.1 HP.out.ro).1
   obtain ⟨x, hx⟩ : ∃ x, x = f k := ⟨_, rfl⟩
   rw [← hx] at p
   have HX := Lib.hid hx
   clear hx
   cases q1 : decide (0 ≤ x)
   ·have HS : Hid (ptsTo f (k + 1) = ptsTo f k) := Lib.hid (by rw [ptsTo_snoc, ← HX.out, if_neg (by simpa using q1), List.append_nil])
    go_wp2_with fail
    go_roundw
    case rel => exact ⟨k + 1, by have := of_decide_eq_true q0; omega, by go_num, ⟨HP.out.ro, by rw [HS.out]; exact HP.out.ow, HP.out.bw⟩⟩
    case measure => simp [intOf]; omega
   ·have HS : Hid (ptsTo f (k + 1) = ptsTo f k ++ [((k : Int), x)]) := Lib.hid (by rw [ptsTo_snoc, ← HX.out, if_pos (by simpa using q1)])
    have HLK := Lib.hid (ptsTo_len f k)
    go_wp2_with (at_builtin; refine stop_mk ?_)
    refine stop_out (wpList_append_reads (en := ptE) (sz := 2) _ rfl _ _ _ rfl ptE_len ptE_one (rb + 1) 146 i0 _ 16 Tryz.underlying143 HI0.out hz0 hz1 hz2 rfl (by omega) _ (ptsTo f k) rfl (HP.out.ow.alloc _) (wr.heap.size + 1) (some ⟨wr.heap.size, 0, none⟩) 1 [((k : Int), x)] rfl (reads_one wr ptE ((k : Int), x) _ _ rfl 2 wr.heap.size rfl) (fun h => by cases h) (by have := HLK.out; simp [maxLen]; omega) (by have := HLK.out; simp; omega) (by simp; omega) ?_)
    intro v2 w2 ho2 hg2 _ _
    have HP2 : Hid (PtI w R f rb (k + 1) v2 w2) := Lib.hid (by
     have hb : Below wr.heap.size wr (wr.alloc (.cells #[.int .i64 (k : Int), .int .i64 x] 146)) := (Below.refl _ _).alloc (Nat.le_refl _) _
     have hp := HP.out.step hb
     have hr := HP.out.ow.base_le
     exact ⟨(hg2.block rb (by simp; omega) (fun e => by have := hr rb e.symm; omega)).trans hp.ro, by rw [HS.out]; exact ho2, hp.bw.grown hg2 hp.bw.size (fun q e => by have := hr q e; omega)⟩)
    obtain ⟨A2, c2, rfl, _, _⟩ := ho2.shape
    clear ho2 hg2
    go_wp2_with fail
    go_roundw
    case rel => exact ⟨k + 1, by have := of_decide_eq_true q0; omega, by go_num, by have h := HP2.out; rw [List.length_append] at h; exact h⟩
    case measure => simp [intOf]; omega
end Go.Proofs.YtalmbigebjbaoaaGreatDoor
namespace Go.Proofs.YtalmbigebjbaoaaGreatDoor
open Go.RowKit Go.Shelf
set_option linter.unusedSimpArgs false
set_option linter.unusedVariables false
def layI_ren : Go.Shelf.Ren where
 f := fun x =>
   match x with
   | 5 => 54
   | 8 => 56
   | 7 => 95
   | 19 => 104
   | 20 => 105
   | 10 => 127
   | 11 => 128
   | 12 => 129
   | 13 => 130
   | 14 => 131
   | 15 => 132
   | 16 => 133
   | 17 => 134
   | 18 => 135
   | 30 => 162
   | 31 => 137
   | 32 => 138
   | 33 => 163
   | 34 => 164
   | 35 => 57
   | 40 => 173
   | n => n
 t := fun x =>
   match x with
   | 23 => 64
   | 25 => 3
   | 3 => 3
   | 32 => 136
   | 22 => 64
   | 0 => 0
   | 44 => 197
   | 46 => 154
   | 4 => 4
   | 36 => 191
   | 35 => 190
   | 41 => 131
   | 5 => 5
   | 9 => 9
   | 53 => 223
   | 57 => 227
   | 63 => 247
   | 64 => 248
   | n => n
 g := fun n => n
theorem layI : SlLaysM.n5 Tryz.prog layI_ren where
 mixed := rfl
 f5 := ⟨_, by decide, Tryz.func54⟩
 f7 := ⟨_, by decide, Tryz.func95⟩
 f8 := Tryz.func56
 f10 := ⟨_, by decide, Tryz.func127⟩
 f11 := ⟨_, by decide, Tryz.func128⟩
 f12 := ⟨_, by decide, Tryz.func129⟩
 f13 := ⟨_, by decide, Tryz.func130⟩
 f14 := ⟨_, by decide, Tryz.func131⟩
 f15 := ⟨_, by decide, Tryz.func132⟩
 f16 := ⟨_, by decide, Tryz.func133⟩
 f17 := ⟨_, by decide, Tryz.func134⟩
 f18 := ⟨_, by decide, Tryz.func135⟩
 f19 := Tryz.func104
 f20 := Tryz.func105
 f30 := ⟨_, by decide, Tryz.func162⟩
 f31 := Tryz.func137
 f32 := Tryz.func138
 f33 := ⟨_, by decide, Tryz.func163⟩
 f34 := ⟨_, by decide, Tryz.func164⟩
 f35 := ⟨_, by decide, Tryz.func57⟩
 f40 := ⟨_, by decide, Tryz.func173⟩
 t0 := Tryz.underlying0
 a0 := Tryz.isAgg0
 z0 := Tryz.sizeOf0
 v0 := Tryz.zeroValue0
 t3 := Tryz.underlying3
 a3 := Tryz.isAgg3
 z3 := Tryz.sizeOf3
 v3 := Tryz.zeroValue3
 t4 := Tryz.underlying4
 a4 := Tryz.isAgg4
 z4 := Tryz.sizeOf4
 v4 := Tryz.zeroValue4
 t5 := Tryz.underlying5
 a5 := Tryz.isAgg5
 z5 := Tryz.sizeOf5
 v5 := Tryz.zeroValue5
 t9 := Tryz.underlying9
 a9 := Tryz.isAgg9
 z9 := Tryz.sizeOf9
 v9 := Tryz.zeroValue9
 t22 := Tryz.underlying64
 a22 := Tryz.isAgg64
 z22 := Tryz.sizeOf64
 v22 := Tryz.zeroValue64
 t23 := Tryz.underlying64
 a23 := Tryz.isAgg64
 z23 := Tryz.sizeOf64
 v23 := Tryz.zeroValue64
 t25 := Tryz.underlying3
 a25 := Tryz.isAgg3
 z25 := Tryz.sizeOf3
 v25 := Tryz.zeroValue3
 t32 := Tryz.underlying136
 a32 := Tryz.isAgg136
 z32 := Tryz.sizeOf136
 v32 := Tryz.zeroValue136
 t35 := Tryz.underlying190
 a35 := Tryz.isAgg190
 z35 := Tryz.sizeOf190
 v35 := Tryz.zeroValue190
 t36 := Tryz.underlying191
 a36 := Tryz.isAgg191
 z36 := Tryz.sizeOf191
 v36 := Tryz.zeroValue191
 t41 := Tryz.underlying131
 a41 := Tryz.isAgg131
 z41 := Tryz.sizeOf131
 v41 := Tryz.zeroValue131
 t44 := Tryz.underlying197
 a44 := Tryz.isAgg197
 z44 := Tryz.sizeOf197
 v44 := Tryz.zeroValue197
 t46 := Tryz.underlying154
 a46 := Tryz.isAgg154
 z46 := Tryz.sizeOf154
 v46 := Tryz.zeroValue154
 t53 := Tryz.underlying223
 a53 := Tryz.isAgg223
 z53 := Tryz.sizeOf223
 v53 := Tryz.zeroValue223
 t57 := Tryz.underlying227
 a57 := Tryz.isAgg227
 z57 := Tryz.sizeOf227
 v57 := Tryz.zeroValue227
 t63 := Tryz.underlying247
 a63 := Tryz.isAgg247
 z63 := Tryz.sizeOf247
 v63 := Tryz.zeroValue247
 t64 := Tryz.underlying248
 a64 := Tryz.isAgg248
 z64 := Tryz.sizeOf248
 v64 := Tryz.zeroValue248
theorem flat_ints (l : List Int) : l.flatMap intE = l.map (Value.int .i64) := by
 induction l with
 | nil => rfl
 | cons x l ih => rw [List.flatMap_cons, ih]; rfl
theorem sort_any (l : List Int) (A : Option Addr) (c B : Nat) (W : World) (hown : Owns W B 3 1 intE (.slice A l.length c) l) (hl : l.length < 4611686018427387904) :
 Calls Tryz.prog 54 #[.slice A l.length c] W fun e w' => e = .returned (.tuple #[]) ∧ Owns w' B 3 1 intE (.slice A l.length c) (sortI l) ∧ W.grownBy w' (Value.slice A l.length c).ownBlock := by
 have hlen := sortI_len l
 rcases hown.2 with ⟨h1, h2⟩ | ⟨g, cap, cur, h1, h2, h3, h4, h5, h6, h7⟩
 ·have h0 : l = [] := List.eq_nil_of_length_eq_zero h2
  subst h0
  cases h1
  have h := AnyM.slices_Sort_int_none layI none 0 W
  refine h.mono ?_
  rintro e w' ⟨rfl, rfl⟩
  refine ⟨rfl, ?_, World.grownBy.refl _ _⟩
  rw [show sortI [] = [] from List.eq_nil_of_length_eq_zero hlen]
  exact Owns.nil_ _ _ _ _ _
 ·simp only [Value.slice.injEq] at h1
  obtain ⟨rfl, _, rfl⟩ := h1
  rw [Nat.mul_one] at h7
  rw [flat_ints] at h7
  have h := AnyM.slices_Sort_int layI g 0 c l W (holds_of_blockI h3 h7) (Array.getElem?_eq_some_iff.1 h3).1 hl
  refine h.mono ?_
  rintro e w' ⟨rfl, n, os, rfl⟩
  refine ⟨rfl, ?_, grownBy_sortedI _⟩
  have h9 := ownsRow_sortedI (n := n) (os := os) (ss := l) (ts := sortI l) hlen h2 h3 h4 h5 h6
  unfold Owns
  rw [hlen, flat_ints]
  exact h9
end Go.Proofs.YtalmbigebjbaoaaGreatDoor
namespace Go.Proofs.YtalmbigebjbaoaaGreatDoor
open Go.RowKit Go.Shelf
set_option linter.unusedSimpArgs false
set_option linter.unusedVariables false
attribute [local go_sem] Oper.semAt_some
def SetM (L : List (Int × Value)) (l : List Int) : Prop := ∀ k, lookL k L = if l.contains k then some (.bool true) else none
theorem SetM.nil_ : SetM [] [] := fun k => rfl
theorem SetM.add {L : List (Int × Value)} {l : List Int} (h : SetM L l) (x : Int) : SetM (updL x (.bool true) L) (l ++ [x]) := fun k => by
 by_cases e : k = x
 ·subst e
  rw [lookL_upd, if_pos (by simp)]
 ·rw [lookL_upd_ne e, h k]
  have e2 : (l ++ [x]).contains k = l.contains k := by
   rw [Bool.eq_iff_iff]
   simp [e]
  rw [e2]
theorem zeroBool (W : World) : (zeroValue 4).run Tryz.prog W = .ok (.bool false) W := by kernel_rfl
theorem look_set {W : World} {r : Nat} {L : List (Int × Value)} {l : List Int} (h : MapIs W r L) (hs : SetM L l) (k : Int) :
 (Instr.lookup 128 (.map (some r)) (.int .i64 k) false).run Tryz.prog W = .ok (.bool (l.contains k)) W := by
 rw [(run_lookup_ints (P := Tryz.prog) Tryz.underlying128 Tryz.underlying3 h (zeroBool W) k).1, hs k]
 cases l.contains k <;> rfl
theorem upd_set {W : World} {r : Nat} {L : List (Int × Value)} (h : MapIs W r L) (k : Int) (v : Value) :
 ∃ w', (Instr.mapUpdate 128 (.map (some r)) (.int .i64 k) v).run Tryz.prog W = .ok () w' ∧ MapIs w' r (updL k v L) ∧ W.grownBy w' (some r) ∧ w'.heap.size = W.heap.size :=
 run_mapUpdate_ints (P := Tryz.prog) Tryz.underlying128 Tryz.underlying3 h k v
theorem MapIs.grown_ {W W' : World} {r : Nat} {l : List (Int × Value)} (h : MapIs W r l) {row : Option Nat} (hg : W.grownBy W' row) (hr : row ≠ some r) : MapIs W' r l := by
 obtain ⟨es, c, h1, h2⟩ := h
 exact ⟨es, c, (hg.block r (Array.getElem?_eq_some_iff.1 h1).1 (Ne.symm hr)).trans h1, h2⟩
theorem intE_len_ (y : Int) : (intE y).length = 1 := rfl
theorem intE_one_ (y : Int) : ∀ u ∈ intE y, u.oneCell' = true := by intro u hu; simp [intE] at hu; subst hu; rfl
structure NuI (w : World) (mb : Nat) (k1 : Ky) (l : List Int) (v : Value) (W : World) : Prop where
 mp : ∃ L, MapIs W mb L ∧ SetM L l
 ow : Owns W (mb + 1) 3 1 intE v l
 ky : Bx W (w.heap.size + 1) [.int .i64 k1.kind, .int .i64 k1.subj, .int .i64 k1.obj]
 bw : Below w.heap.size w W
 mz : w.heap.size + 2 ≤ mb
theorem NuI.step {w W W' : World} {mb : Nat} {k1 : Ky} {l : List Int} {v : Value} (h : NuI w mb k1 l v W) (hb : Below W.heap.size W W') : NuI w mb k1 l v W' :=
 ⟨let ⟨L, h1, h2⟩ := h.mp; ⟨L, h1.below hb h1.lt, h2⟩, h.ow.below hb (Nat.le_refl _), h.ky.step hb, h.bw.trans (hb.mono h.bw.size), h.mz⟩
set_option maxRecDepth 100000 in
set_option maxHeartbeats 8000000 in
theorem bkNumbers_own {P : Nat → Prop} (d : Wd) (known : Int) (w : World) (h : d.Ok w P) (hf : d.fs.length ≤ 100000) :
 Calls Tryz.prog 52 #[d.v, .int .i64 known] w fun e w' =>
  (∃ v s : Sl, e = .returned (.tuple #[.slice v.a v.n v.c, .slice s.a s.n s.c]) ∧ Owns w' w.heap.size 3 1 intE (.slice v.a v.n v.c) (numsF d.fs known) ∧ RdS w' w.heap.size 1 s ∧ ∃ rs : List Rd, Owns w' w.heap.size 130 5 Rd.enc (.slice s.a s.n s.c) rs ∧ rs.length ≤ 1 ∧ ∀ k, (Value.slice v.a v.n v.c).ownBlock = some k → (Value.slice s.a s.n s.c).ownBlock ≠ some k) ∧ Below w.heap.size w w' := by
 have hfs := h.fs.reads
 have hfn := h.fs.1
 obtain ⟨⟨A1, n1, c1⟩, ⟨A2, n2, c2⟩, ⟨A3, n3, c3⟩, ⟨A4, n4, c4⟩, cs, ps, fs⟩ := d
 simp only at hfs hfn hf ⊢
 subst hfn
 have HF := Lib.hid hfs
 clear h hfs
 obtain ⟨r, hr⟩ : ∃ r, r = atF fs ⟨12, 0, 0⟩ 0 known := ⟨_, rfl⟩
 have HA := Lib.hid (fun W (h2 : Below w.heap.size w W) => At_any fs A4 c4 ⟨12, 0, 0⟩ 0 known W ((HF.out.below h2).more h2.size) hf)
 simp only [← hr] at HA
 obtain ⟨N, hN⟩ : ∃ N, N = numsGo r.1 fs [] := ⟨_, rfl⟩
 have HNF : Hid (numsF fs known = sortI N) := Lib.hid (by rw [hN, hr]; rfl)
 have HN := Lib.hid hN
 clear hr hN
 obtain ⟨many, ok⟩ := r
 simp only at HA HN
 simp only [Wd.v]
 obtain ⟨i0, hi0, hz0, hz1, hz2⟩ := info_parts Tryz.infoInt
 have HI0 := Lib.hid hi0
 clear hi0
 have hmm := @run_makeMap Tryz.prog
 have H2 : Hid (Below w.heap.size w ((w.alloc (.cells #[.slice A1 n1 c1, .slice A2 n2 c2, .slice A3 n3 c3, .slice A4 fs.length c4] 29)).alloc (.cells #[.int .i64 12, .int .i64 0, .int .i64 0] 86))) := Lib.hid (by go_grown)
 have HB1 : Hid (Bx ((w.alloc (.cells #[.slice A1 n1 c1, .slice A2 n2 c2, .slice A3 n3 c3, .slice A4 fs.length c4] 29)).alloc (.cells #[.int .i64 12, .int .i64 0, .int .i64 0] 86)) (w.heap.size + 1) [.int .i64 12, .int .i64 0, .int .i64 0]) := Lib.hid (Bx.at_ _ [.int .i64 12, .int .i64 0, .int .i64 0] _ _ (by simp))
 have HB0 : Hid (Bx ((w.alloc (.cells #[.slice A1 n1 c1, .slice A2 n2 c2, .slice A3 n3 c3, .slice A4 fs.length c4] 29)).alloc (.cells #[.int .i64 12, .int .i64 0, .int .i64 0] 86)) w.heap.size [.slice A1 n1 c1, .slice A2 n2 c2, .slice A3 n3 c3, .slice A4 fs.length c4]) := Lib.hid ((Bx.new w [.slice A1 n1 c1, .slice A2 n2 c2, .slice A3 n3 c3, .slice A4 fs.length c4] _).step ((Below.refl _ _).alloc (Nat.le_refl _) _))
 go_enter Tryz.func52, Tryz.ntmps52
 go_wp2_with fail
 refine (HA.out _ H2.out).mono ?_
 rintro e w1 ⟨rfl, hb1⟩
 have G1 : Hid (Below w.heap.size w w1) := Lib.hid (H2.out.trans (hb1.mono H2.out.size))
 have HX1 := Lib.hid (HB1.out.step hb1)
 have HX0 := Lib.hid (HB0.out.step hb1)
 obtain ⟨x0, x1, x2⟩ := HX0.out
 have p3 := x0 3 _ rfl
 clear x0 hb1
 go_upto_block 0 with fail
 obtain ⟨mb, hmb⟩ : ∃ mb, mb = w1.heap.size := ⟨_, rfl⟩
 have HN0 : Hid (NuI w mb ⟨12, 0, 0⟩ [] (.slice none 0 0) (w1.alloc (.map #[] 0))) := Lib.hid (by
  rw [hmb]
  exact ⟨⟨[], MapIs.new w1 0, SetM.nil_⟩, Owns.nil_ _ _ _ _ _, HX1.out.step ((Below.refl _ _).alloc (Nat.le_refl _) _), G1.out.alloc G1.out.size _, by have := HX1.out.2.2; have := HX0.out.2.2; have := H2.out.size; simp at this; have := G1.out.size; omega⟩)
 have hzz : w.heap.size < w1.heap.size := x2
 rw [← hmb]
 have hmz : w.heap.size + 2 ≤ mb := HN0.out.mz
 clear hmb x1 x2 p3
 go_cut [4] from 10 to 63 (fun t4 wx => NuI w mb ⟨12, 0, 0⟩ N t4 wx)
 case first =>
  go_wp2_with fail
  go_loopw [26, 4] (fun i v wr => ∃ (k : Nat) (l : List Int), k ≤ fs.length ∧ i = .int .i64 k ∧ l.length ≤ k ∧ numsGo many (fs.drop k) l = N ∧ NuI w mb ⟨12, 0, 0⟩ l v wr) (fun i _ _ => fs.length - (intOf i).toNat)
  case atStart => exact ⟨0, [], Nat.zero_le _, rfl, by simp, HN.out.symm, HN0.out⟩
  case round =>
   clear HN0
   obtain ⟨k, l, hk, rfl, hlk, hgo, hn⟩ := hrel
   have HGO := Lib.hid hgo
   obtain ⟨A5, c5, rfl, hnil5, hmax5⟩ := hn.ow.shape
   have HNU := Lib.hid hn
   have HFR := Lib.hid ((HF.out.below hn.bw).more hn.bw.size)
   obtain ⟨L, hmp, hst⟩ := hn.mp
   have HMP := Lib.hid hmp
   have HSTM := Lib.hid hst
   clear hgo hn hmp hst
   by_cases hlt : k < fs.length
   ·obtain ⟨ba, oa, x, rfl, hba, hxk, hca⟩ := HFR.out.at_ hlt
    have a0 := hca 0 _ rfl
    have a1 := hca 1 _ rfl
    have a2 := hca 2 _ rfl
    have a3 := hca 3 _ rfl
    have a4 := hca 4 _ rfl
    have a5 := hca 5 _ rfl
    have a6 := hca 6 _ rfl
    have a7 := hca 7 _ rfl
    simp only [Nat.add_zero] at a0
    have HST := Lib.hid (numsGo_drop many fs k x l hxk)
    have hB : Below wr.heap.size wr (wr.alloc (.cells #[.int .i64 x.kind, .int .i64 x.subj, .int .i64 x.obj, .int .i64 x.val, .int .i64 x.frm, .int .i64 x.till, .int .i64 x.known, .int .i64 x.no] 183)) := (Below.refl _ _).alloc (Nat.le_refl _) _
    have HN2 := Lib.hid (HNU.out.step hB)
    have hlkp := look_set (HMP.out.below hB HMP.out.lt) HSTM.out x.subj
    clear hca hxk hB
    cases q0 : decide (many ≤ (l.length : Int))
    case true =>
     have HE : Hid (l = N) := Lib.hid (by rw [← HGO.out, HST.out, if_neg (by have := of_decide_eq_true q0; omega)])
     go_wp2_with fail
     go_meet
     case rel => rw [← HE.out]; exact HN2.out
    have hq0 : (l.length : Int) < many := by have := of_decide_eq_false q0; omega
    obtain ⟨b4, hb4⟩ : ∃ b, b = l.contains x.subj := ⟨_, rfl⟩
    rw [← hb4] at hlkp
    have HB4 := Lib.hid hb4
    clear hb4
    cases k1 : x.kind == 1
    ·have HNO : Hid (numStep l x = l) := Lib.hid (by unfold numStep isNum; rw [k1]; rfl)
     go_wp2_with fail
     go_roundw
     case rel => exact ⟨k + 1, l, by omega, by go_num, by omega, by rw [← HGO.out, HST.out, if_pos hq0, HNO.out], HN2.out⟩
     case measure => simp [intOf]; omega
    cases k2 : x.obj == 0
    ·have HNO : Hid (numStep l x = l) := Lib.hid (by unfold numStep isNum; rw [k1, k2]; rfl)
     go_wp2_with fail
     go_roundw
     case rel => exact ⟨k + 1, l, by omega, by go_num, by omega, by rw [← HGO.out, HST.out, if_pos hq0, HNO.out], HN2.out⟩
     case measure => simp [intOf]; omega
    go_wp2_with fail
    refine (bkIn_any _ _ _ _).mono ?_
    obtain ⟨b3, hb3⟩ : ∃ b, b = inB x.subj 0 4095 := ⟨_, rfl⟩
    rw [← hb3]
    have HB3 := Lib.hid hb3
    clear hb3
    rintro e w4 ⟨rfl, rfl⟩
    cases b3
    ·have HNO : Hid (numStep l x = l) := Lib.hid (by unfold numStep isNum; rw [k1, k2, ← HB3.out]; rfl)
     go_wp2_with fail
     go_roundw
     case rel => exact ⟨k + 1, l, by omega, by go_num, by omega, by rw [← HGO.out, HST.out, if_pos hq0, HNO.out], HN2.out⟩
     case measure => simp [intOf]; omega
    cases b4
    case true =>
     have HNO : Hid (numStep l x = l) := Lib.hid (by unfold numStep isNum; rw [k1, k2, ← HB3.out, ← HB4.out]; rfl)
     go_wp2_with fail
     go_roundw
     case rel => exact ⟨k + 1, l, by omega, by go_num, by omega, by rw [← HGO.out, HST.out, if_pos hq0, HNO.out], HN2.out⟩
     case measure => simp [intOf]; omega
    have HYE : Hid (numStep l x = l ++ [x.subj]) := Lib.hid (by unfold numStep isNum; rw [k1, k2, ← HB3.out, ← HB4.out]; rfl)
    obtain ⟨L2, hmp2, hst2⟩ := HN2.out.mp
    obtain ⟨W1, hrun, hu1, hgr, hsz⟩ := upd_set hmp2 x.subj (.bool true)
    have HST2 := Lib.hid hst2
    have HU1 := Lib.hid hu1
    have HGR := Lib.hid hgr
    have HO1 : Hid (Owns W1 (mb + 1) 3 1 intE (.slice A5 l.length c5) l) := Lib.hid (HN2.out.ow.kept hgr (fun g hg e => by have := HN2.out.ow.base_le g hg; injection e with e; omega))
    have hmb1 : mb < W1.heap.size := hu1.lt
    clear hmp2 hst2 hu1 hgr hsz
    go_wp2_with (at_builtin; refine stop_mk ?_)
    refine stop_out (wpList_append_reads (en := intE) (sz := 1) _ rfl _ _ _ rfl intE_len_ intE_one_ (mb + 1) 3 i0 _ 8 Tryz.underlying64 HI0.out hz0 hz1 hz2 rfl (by omega) _ l rfl (HO1.out.alloc _) (W1.heap.size + 1) (some ⟨W1.heap.size, 0, none⟩) 1 [x.subj] rfl (reads_one W1 intE x.subj _ _ rfl 1 W1.heap.size rfl) (fun h => by cases h) (by simp [maxLen]; omega) (by simp; omega) (by simp; omega) ?_)
    intro v2 w2 ho2 hg2 _ _
    have HN3 : Hid (NuI w mb ⟨12, 0, 0⟩ (l ++ [x.subj]) v2 w2) := Lib.hid (by
     have hr : ∀ g, (Value.slice A5 l.length c5).ownBlock = some g → mb + 1 ≤ g := HO1.out.base_le
     have hb : Below W1.heap.size W1 (W1.alloc (.cells #[.int .i64 x.subj] 3)) := (Below.refl _ _).alloc (Nat.le_refl _) _
     have hmz2 := HN2.out.mz
     refine ⟨⟨_, (HU1.out.alloc _).grown_ hg2 (fun e => by have := hr _ e; omega), HST2.out.add x.subj⟩, ho2, ?_, ?_, hmz2⟩
     ·have f1 : Bx W1 (w.heap.size + 1) [.int .i64 12, .int .i64 0, .int .i64 0] := HN2.out.ky.keep (P := fun y => y = w.heap.size + 1) (Kp.of_grown2 HGR.out (fun y hy e => by injection e with e; omega)) rfl
      exact (f1.step hb).keep (P := fun y => y = w.heap.size + 1) (Kp.of_grown2 hg2 (fun y hy e => by have := hr y e.symm; omega)) rfl
     ·have b1 := HN2.out.bw.grown HGR.out HN2.out.bw.size (fun q e => by cases e; omega)
      exact (b1.alloc b1.size _).grown hg2 (by have := b1.size; simp; omega) (fun q e => by have := hr q e; omega))
    obtain ⟨A6, c6, rfl, _, _⟩ := ho2.shape
    clear ho2 hg2
    go_wp2_with fail
    go_roundw
    case rel => exact ⟨k + 1, l ++ [x.subj], by omega, by go_num, by simp; omega, by rw [← HGO.out, HST.out, if_pos hq0, HYE.out], by have h := HN3.out; simpa using h⟩
    case measure => simp [intOf]; omega
   ·obtain rfl : k = fs.length := by omega
    have HE : Hid (l = N) := Lib.hid (by rw [← HGO.out, List.drop_length]; rfl)
    go_wp2_with fail
    go_meet
    case rel => rw [← HE.out]; exact HNU.out
 case rest =>
  have HM := Lib.hid hcut
  obtain ⟨A5, c5, rfl, _, hmax⟩ := hcut.ow.shape
  have hNl : N.length ≤ 100000 := by
   rw [HN.out]
   have := numsGo_len (many := many) fs []
   simp at this
   omega
  have HS := Lib.hid (sort_any N A5 c5 (mb + 1) wc hcut.ow (by omega))
  clear hcut HN0 hmax
  go_wp2_with fail
  refine HS.out.mono ?_
  rintro e w5 ⟨rfl, ho5, hg5⟩
  have hr : ∀ g, (Value.slice A5 N.length c5).ownBlock = some g → mb + 1 ≤ g := HM.out.ow.base_le
  have HK5 : Hid (Bx w5 (w.heap.size + 1) [.int .i64 12, .int .i64 0, .int .i64 0]) := Lib.hid (HM.out.ky.keep (P := fun y => y = w.heap.size + 1) (Kp.of_grown2 hg5 (fun y hy e => by have := hr y e.symm; omega)) rfl)
  have HB5 : Hid (Below w.heap.size w w5) := Lib.hid (HM.out.bw.grown hg5 HM.out.bw.size (fun q e => by have := hr q e; omega))
  have HO5 := Lib.hid ho5
  obtain ⟨x0, x1, x2⟩ := HK5.out
  have p0 := x0 0 _ rfl
  have p1 := x0 1 _ rfl
  have p2 := x0 2 _ rfl
  clear x0 hg5 ho5 HS hr
  go_wp2_with fail
  go_region
  go_wp2_with fail
  go_ret2
  have hz5 := HB5.out.size
  have hsl := sortI_len N
  refine ⟨⟨⟨A5, N.length, c5⟩, ⟨some ⟨w5.heap.size, 0, none⟩, 1, 1⟩, rfl, ?_, ?_, [⟨12, 0, 0, 0, 1⟩], ?_, by simp, fun k e e2 => ?_⟩, (HB5.out.alloc hz5 _).drew⟩
  ·rw [HNF.out]
   exact Owns.base' (((HO5.out.alloc _).below (Below.refl _ _).drew (Nat.le_refl _))) (by omega)
  ·have h := RdS.one w5 ⟨12, 0, 0, 0, 1⟩ 130 w5.heap.size (Nat.le_refl _)
   exact (h.mono hz5 (Nat.le_refl _)).step (Below.refl _ _).drew
  ·exact (Owns.lit (w := w5) (ys := [(⟨12, 0, 0, 0, 1⟩ : Rd)]) (en := Rd.enc) (sz := 5) (e := 130) Rd.enc_len rfl hz5 (by simp [maxLen])).below (Below.refl _ _).drew (Nat.le_refl _)
  ·have h1 := HO5.out.lt k e
   have e3 : w5.heap.size = k := by simpa [Value.ownBlock] using e2
   omega
theorem bkNumbers_any {P : Nat → Prop} (d : Wd) (known : Int) (w : World) (h : d.Ok w P) (hf : d.fs.length ≤ 100000) :
 Calls Tryz.prog 52 #[d.v, .int .i64 known] w fun e w' =>
  (∃ v s : Sl, e = .returned (.tuple #[.slice v.a v.n v.c, .slice s.a s.n s.c]) ∧ Owns w' w.heap.size 3 1 intE (.slice v.a v.n v.c) (numsF d.fs known) ∧ RdS w' w.heap.size 1 s) ∧ Below w.heap.size w w' :=
 (bkNumbers_own d known w h hf).mono fun e w' ⟨⟨v, s, h1, h2, h3, _⟩, h4⟩ => ⟨⟨v, s, h1, h2, h3⟩, h4⟩
end Go.Proofs.YtalmbigebjbaoaaGreatDoor
