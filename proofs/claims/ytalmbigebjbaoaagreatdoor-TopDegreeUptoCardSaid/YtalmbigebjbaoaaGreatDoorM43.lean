/- TopDegree, what its proof leans on: the texts TpE, TpF, TpG, TpH. -/
import Derived.Test.YtalmbigebjbaoaaGreatDoorM23
import Derived.BigRegion
import Derived.Test.YtalmbigebjbaoaaGreatDoorM36
import Derived.Test.YtalmbigebjbaoaaGreatDoorM33
import Derived.Shelf.SlLaysF
import Derived.Shelf.SlSortCmp.Whole1
import Derived.Shelf.SlSortCmp.NoneTotal
import Derived.Sort.LotA
import Derived.Sort.OwnSortedInts
import Derived.Test.YtalmbigebjbaoaaGreatDoorM07
import Derived.Shelf.SlicesE.Compact
import Derived.Shelf.SlicesE.Clone
import Derived.Test.YtalmbigebjbaoaaGreatDoorM34
namespace Go.Proofs.YtalmbigebjbaoaaGreatDoor
open Go.RowKit Go.Shelf
set_option linter.unusedSimpArgs false
set_option linter.unusedVariables false
attribute [local go_sem] Oper.semAt_some
set_option maxRecDepth 100000 in
set_option maxHeartbeats 8000000 in
theorem Audit_big {P : Nat → Prop} (p : Pg) (s : Sl) (l : List At) (B : Option Addr) (b : Nat) (w : World) (hr : Rqs w P s p.reqs) (hi : p.mean.i64) (hla : SlR w P 5 At.enc ⟨B, l.length, b⟩ l) (hll : l.length ≤ 100000) (hbig : Fl.okX (1 + (l.length : Int) + (p.reqs.length : Int) + 1) (netL p l) 0 (1 + (l.length : Int) + (p.reqs.length : Int)) = false) (hl3 : p.reqs.length ≤ 100000) (h0 : askedE p l = 0) :
 Calls Tryz.prog 17 #[pgV p s, .slice B l.length b] w fun e w' => e = .returned (.tuple #[.agg #[.slice none 0 0, .int .i64 0, .slice none 0 0], .int .i64 180]) ∧ Below w.heap.size w w' := by
 have hn := hr.len
 have HLA := Lib.hid hla
 have HR := Lib.hid hr
 have hC := Lib.hid (fun W (h : Below w.heap.size w W) => Network_any (P := P) p s l B b W (hr.step h) hi (hla.step h) hll h0)
 have HX := Lib.hid hbig
 have H0 := Lib.hid h0
 clear hbig
 obtain ⟨A, n0, c0⟩ := s
 simp only at hn
 subst hn
 clear hr hla
 unfold pgV at hC ⊢
 have hmf : ∀ (fn : Fn) (first cap : Array Value) (w : World), (Instr.makeFunc fn first cap).run Tryz.prog w = .ok (.func fn first cap) w := fun _ _ _ _ => rfl
 refine (callsIn_wide (n := 6)).1 ?_
 refine callsIn_of_wp_marks Tryz.func17 rfl trivial ?_ rfl
 simp only [Tryz.ntmps17, List.size_toArray, List.length_cons, List.length_nil, Nat.reduceAdd, Nat.reduceSub, Array.replicate_succ, Array.replicate_zero, List.push_toArray, List.append_toArray, List.nil_append, List.cons_append]
 refine wpIn_wide.2 ?_
 go_wp2_with fail
 obtain ⟨W1, hW1⟩ : ∃ X, X = ((w.alloc (.cells #[.string p.nm, .int .i64 p.number, .int .i64 p.uses, .int .i64 p.earn, .int .i64 p.mean.num, .int .i64 p.mean.den, .slice A p.reqs.length c0] 44)).alloc (.cells #[.slice none 0 0, .int .i64 0, .slice none 0 0] 35)).alloc (.cells #[.int .i64 0] 37) := ⟨_, rfl⟩
 have q1 : Bx W1 w.heap.size (pgC p ⟨A, p.reqs.length, c0⟩) := by rw [hW1]; exact ((Bx.new w _ _).alloc _).alloc _
 have q2 : Bx W1 (w.heap.size + 1) [.slice none 0 0, .int .i64 0, .slice none 0 0] := by rw [hW1]; exact (Bx.at_ _ _ _ _ (by simp)).alloc _
 have q3 : Bx W1 (w.heap.size + 1 + 1) [.int .i64 0] := by rw [hW1]; exact Bx.at_ _ _ _ _ (by simp)
 have q4 : Below w.heap.size w W1 := by rw [hW1]; exact (((Below.refl _ _).alloc (Nat.le_refl _) _).alloc (by simp) _).alloc (by simp; omega) _
 rw [← hW1]
 have HP := Lib.hid q1
 have HA := Lib.hid q2
 have HE := Lib.hid q3
 have HB := Lib.hid q4
 have HE1 : Hid (w.heap.size + 1 + 1 < W1.heap.size) := Lib.hid q3.2.2
 clear hW1 q1 q2 q3 q4
 refine (hC.out _ HB.out).mono ?_
 rintro e w2 ⟨⟨D, d, rfl, hsl⟩, hb2⟩
 have HP := Lib.hid (HP.out.step hb2)
 have HA := Lib.hid (HA.out.step hb2)
 have HE := Lib.hid (HE.out.step hb2)
 have HB := Lib.hid (HB.out.trans (hb2.mono HB.out.size))
 have HSL := Lib.hid hsl
 clear hb2 hsl
 have m0 := HE.out.1 0 _ rfl
 have mf := HE.out.2.1 0
 have mz := HE.out.2.2
 go_upto_region 3 with fail
 obtain ⟨W3, hW3⟩ : ∃ X, X = w2.setCell ⟨w.heap.size + 1 + 1, 0, none⟩ (.int .i64 0) := ⟨_, rfl⟩
 have HSL : Hid (SlR W3 (fun x => W1.heap.size ≤ x) 3 Fl.Ed.enc ⟨D, (netL p l).length, d⟩ (netL p l)) := Lib.hid (by
  rw [hW3]
  exact HSL.out.keep (Kp.of_grown (grownBy_setCell' w2 (w.heap.size + 1 + 1) (.int .i64 0)) (by have := HE1.out; omega)))
 have HP := Lib.hid (show Bx W3 w.heap.size (pgC p ⟨A, p.reqs.length, c0⟩) by rw [hW3]; exact HP.out.farC (by show w.heap.size ≠ w.heap.size + 1 + 1; omega) _)
 have HE := Lib.hid (show Bx W3 (w.heap.size + 1 + 1) [.int .i64 0] by rw [hW3]; exact HE.out.set1 _)
 have HA := Lib.hid (show Bx W3 (w.heap.size + 1) [.slice none 0 0, .int .i64 0, .slice none 0 0] by rw [hW3]; exact HA.out.farC (by show w.heap.size + 1 ≠ w.heap.size + 1 + 1; omega) _)
 have HB := Lib.hid (show Below w.heap.size w W3 by rw [hW3]; exact HB.out.setCell (by show w.heap.size ≤ w.heap.size + 1 + 1; omega) _)
 rw [← hW3]
 clear hW3 m0 mf mz
 have m0 := HE.out.1 0 _ rfl
 have mz := HE.out.2.2
 go_wp2_with fail
 refine (try_ok W3).mono ?_
 rintro e w3 ⟨rfl, rfl⟩
 have hwn : IntKind.i64.wrap (1 + (l.length : Int) + (p.reqs.length : Int) + 1 - 1) = 1 + (l.length : Int) + (p.reqs.length : Int) := by rw [IntKind.wrap_i64]; omega
 have hMx := Lib.hid (Fl.Max_any (1 + (l.length : Int) + (p.reqs.length : Int) + 1) 0 (1 + (l.length : Int) + (p.reqs.length : Int)) (by omega) (netL p l) D d W3 HSL.out.reads HSL.out.2.1 HSL.out.2.2.1 HSL.out.2.2.2.1)
 go_wp2_with fail
 refine hMx.out.mono ?_
 rintro e w4 ⟨hmx, hb4⟩
 rcases hmx with ⟨hyes, _⟩ | ⟨_, rfl⟩
 ·rw [HX.out] at hyes; cases hyes
 have HA := Lib.hid (HA.out.step hb4)
 have HE := Lib.hid (HE.out.step hb4)
 have HB := Lib.hid (HB.out.trans (hb4.mono HB.out.size))
 clear hb4 m0 mz hMx HSL
 have m0 := HE.out.1 0 _ rfl
 have mf := HE.out.2.1 0
 have mz := HE.out.2.2
 go_upto_region 5 with fail
 obtain ⟨V4, hV4⟩ : ∃ X, X = w4.setCell ⟨w.heap.size + 1 + 1, 0, none⟩ (.int .i64 180) := ⟨_, rfl⟩
 obtain ⟨W5, hW5⟩ : ∃ X, X = V4.alloc (.cells #[.slice none 0 0] 64) := ⟨_, rfl⟩
 have hst : Below V4.heap.size V4 W5 := by rw [hW5]; exact (Below.refl _ _).alloc (Nat.le_refl _) _
 have hvz : V4.heap.size = w4.heap.size := by rw [hV4, World.size_setCell]
 have HE := Lib.hid (show Bx W5 (w.heap.size + 1 + 1) [.int .i64 180] from (show Bx V4 (w.heap.size + 1 + 1) [.int .i64 180] by rw [hV4]; exact HE.out.set1 _).step hst)
 have HA := Lib.hid (show Bx W5 (w.heap.size + 1) [.slice none 0 0, .int .i64 0, .slice none 0 0] from (show Bx V4 (w.heap.size + 1) [.slice none 0 0, .int .i64 0, .slice none 0 0] by rw [hV4]; exact HA.out.farC (by show w.heap.size + 1 ≠ w.heap.size + 1 + 1; omega) _).step hst)
 have hbv : Below w.heap.size w V4 := by rw [hV4]; exact HB.out.setCell (by show w.heap.size ≤ w.heap.size + 1 + 1; omega) _
 have HB := Lib.hid (hbv.trans (hst.mono (by rw [hvz]; exact HB.out.size)))
 rw [← hV4, ← hW5]
 clear hW5 hV4 m0 mf mz hst hbv hvz
 have m0 := HE.out.1 0 _ rfl
 have mf := HE.out.2.1 0
 have mz := HE.out.2.2
 go_wp2_with fail
 refine (try_no 180 (by decide) W5).mono ?_
 rintro e w6 ⟨rfl, rfl⟩
 refine ⟨by simp, .inr ⟨fun h => by simp [Fence.wide] at h, _, _, 45, #[.pointer (some ⟨w.heap.size + 1 + 1, 0, none⟩)], rfl, rfl, fun _ _ => trivial, (deferred_caught 5 _ 180 _ W5 HE.out).mono ?_⟩⟩
 rintro e u' w7 ⟨rfl, hu, hw7⟩
 have hE4 : Bx w7 (w.heap.size + 1 + 1) [.int .i64 180] := by rw [hw7]; exact (HE.out.set1 _).alloc _
 have hA4 : Bx w7 (w.heap.size + 1) [.slice none 0 0, .int .i64 0, .slice none 0 0] := by rw [hw7]; exact (HA.out.farC (by show w.heap.size + 1 ≠ w.heap.size + 1 + 1; omega) _).alloc _
 have hB4 : Below w.heap.size w w7 := by rw [hw7]; exact (HB.out.setCell (by show w.heap.size ≤ w.heap.size + 1 + 1; omega) _).alloc (by rw [World.size_setCell]; exact HB.out.size) _
 have k0 := hA4.1 0 _ rfl
 have k1 := hA4.1 1 _ rfl
 have k2 := hA4.1 2 _ rfl
 have k3 := hE4.1 0 _ rfl
 clear hw7
 show LeavesInM _ _ _ _ _ _ [] (settle u') w7
 rw [hu]
 exact ⟨.tuple #[.agg #[.slice none 0 0, .int .i64 0, .slice none 0 0], .int .i64 180], by simp [results, Tryz.results17, go_sem, k0, k1, k2, k3], rfl, hB4⟩
end Go.Proofs.YtalmbigebjbaoaaGreatDoor
namespace Go.Proofs.YtalmbigebjbaoaaGreatDoor
open Go.RowKit Go.Shelf Go.Sort
set_option linter.unusedSimpArgs false
set_option linter.unusedVariables false
def layF_ren : Go.Shelf.Ren where
 f := fun x =>
   match x with
   | 6 => 25
   | 15 => 56
   | 14 => 55
   | 28 => 104
   | 29 => 105
   | 20 => 96
   | 21 => 97
   | 22 => 98
   | 23 => 99
   | 24 => 100
   | 25 => 101
   | 26 => 102
   | 27 => 103
   | 46 => 136
   | 47 => 137
   | 48 => 138
   | 49 => 139
   | 50 => 140
   | 57 => 165
   | n => n
 t := fun x =>
   match x with
   | 22 => 64
   | 24 => 3
   | 25 => 81
   | 3 => 3
   | 39 => 136
   | 0 => 0
   | 53 => 197
   | 55 => 154
   | 4 => 4
   | 46 => 191
   | 45 => 190
   | 50 => 131
   | 5 => 5
   | 9 => 9
   | 66 => 223
   | 70 => 227
   | 76 => 247
   | 77 => 248
   | n => n
 g := fun n => n
theorem layF : SlLaysF.n6 Tryz.prog layF_ren where
 mixed := rfl
 f6 := ⟨_, by decide, Tryz.func25⟩
 f14 := ⟨_, by decide, Tryz.func55⟩
 f15 := Tryz.func56
 f20 := ⟨_, by decide, Tryz.func96⟩
 f21 := ⟨_, by decide, Tryz.func97⟩
 f22 := ⟨_, by decide, Tryz.func98⟩
 f23 := ⟨_, by decide, Tryz.func99⟩
 f24 := ⟨_, by decide, Tryz.func100⟩
 f25 := ⟨_, by decide, Tryz.func101⟩
 f26 := ⟨_, by decide, Tryz.func102⟩
 f27 := ⟨_, by decide, Tryz.func103⟩
 f28 := Tryz.func104
 f29 := Tryz.func105
 f46 := ⟨_, by decide, Tryz.func136⟩
 f47 := Tryz.func137
 f48 := Tryz.func138
 f49 := ⟨_, by decide, Tryz.func139⟩
 f50 := ⟨_, by decide, Tryz.func140⟩
 f57 := ⟨_, by decide, Tryz.func165⟩
 t0 := Tryz.underlying0
 a0 := Tryz.isAgg0
 z0 := Tryz.sizeOf0
 v0 := Tryz.zeroValue0
 t3 := Tryz.underlying3
 a3 := Tryz.isAgg3
 z3 := Tryz.sizeOf3
 v3 := Tryz.zeroValue3
 t4 := Tryz.underlying4
 a4 := Tryz.isAgg4
 z4 := Tryz.sizeOf4
 v4 := Tryz.zeroValue4
 t5 := Tryz.underlying5
 a5 := Tryz.isAgg5
 z5 := Tryz.sizeOf5
 v5 := Tryz.zeroValue5
 t9 := Tryz.underlying9
 a9 := Tryz.isAgg9
 z9 := Tryz.sizeOf9
 v9 := Tryz.zeroValue9
 t22 := Tryz.underlying64
 a22 := Tryz.isAgg64
 z22 := Tryz.sizeOf64
 v22 := Tryz.zeroValue64
 a24 := Tryz.isAgg3
 z24 := Tryz.sizeOf3
 t25 := Tryz.underlying81
 a25 := Tryz.isAgg81
 z25 := Tryz.sizeOf81
 v25 := Tryz.zeroValue81
 t39 := Tryz.underlying136
 a39 := Tryz.isAgg136
 z39 := Tryz.sizeOf136
 v39 := Tryz.zeroValue136
 t45 := Tryz.underlying190
 a45 := Tryz.isAgg190
 z45 := Tryz.sizeOf190
 v45 := Tryz.zeroValue190
 t46 := Tryz.underlying191
 a46 := Tryz.isAgg191
 z46 := Tryz.sizeOf191
 v46 := Tryz.zeroValue191
 t50 := Tryz.underlying131
 a50 := Tryz.isAgg131
 z50 := Tryz.sizeOf131
 v50 := Tryz.zeroValue131
 t53 := Tryz.underlying197
 a53 := Tryz.isAgg197
 z53 := Tryz.sizeOf197
 v53 := Tryz.zeroValue197
 t55 := Tryz.underlying154
 a55 := Tryz.isAgg154
 z55 := Tryz.sizeOf154
 v55 := Tryz.zeroValue154
 t66 := Tryz.underlying223
 a66 := Tryz.isAgg223
 z66 := Tryz.sizeOf223
 v66 := Tryz.zeroValue223
 t70 := Tryz.underlying227
 a70 := Tryz.isAgg227
 z70 := Tryz.sizeOf227
 v70 := Tryz.zeroValue227
 t76 := Tryz.underlying247
 a76 := Tryz.isAgg247
 z76 := Tryz.sizeOf247
 v76 := Tryz.zeroValue247
 t77 := Tryz.underlying248
 a77 := Tryz.isAgg248
 z77 := Tryz.sizeOf248
 v77 := Tryz.zeroValue248
theorem ltI_iff (x y : Int) : ltOf cmpI x y = decide (x < y) := by
 unfold ltOf
 rw [Bool.eq_iff_iff, decide_eq_true_iff, decide_eq_true_iff]
 exact cmpI_lt x y
theorem swoI : SWO (ltOf cmpI) := by
 refine ⟨fun x => ?_, fun x y z h1 h2 => ?_, fun x y z h1 h2 => ?_⟩
 ·rw [ltI_iff]; simp
 ·rw [ltI_iff, decide_eq_true_iff] at *; omega
 ·rw [ltI_iff, decide_eq_false_iff_not] at *; omega
set_option maxRecDepth 100000 in
theorem sortF_any (l : List Int) (A : Option Addr) (c B : Nat) (W : World) (hown : Owns W B 3 1 intE (.slice A l.length c) l) (hl : l.length < 4611686018427387904) :
 Calls Tryz.prog 25 #[.slice A l.length c, .func (.func 26) #[] #[]] W fun e w' => e = .returned (.tuple #[]) ∧ Owns w' B 3 1 intE (.slice A l.length c) (sortI l) ∧ W.grownBy w' (Value.slice A l.length c).ownBlock := by
 have hlen := sortI_len l
 rcases hown.2 with ⟨h1, h2⟩ | ⟨g, cap, cur, h1, h2, h3, h4, h5, h6, h7⟩
 ·have h0 : l = [] := List.eq_nil_of_length_eq_zero h2
  subst h0
  cases h1
  have h := AnyF.slices_SortFunc_none (P := Tryz.prog) (ρ := layF_ren) { layF with } none 0 (.func (.func 26) #[] #[]) W
  refine h.mono ?_
  rintro e w' ⟨rfl, rfl⟩
  refine ⟨rfl, ?_, World.grownBy.refl _ _⟩
  rw [show sortI [] = [] from List.eq_nil_of_length_eq_zero hlen]
  exact Owns.nil_ _ _ _ _ _
 ·simp only [Value.slice.injEq] at h1
  obtain ⟨rfl, _, rfl⟩ := h1
  rw [Nat.mul_one] at h7
  rw [flat_ints] at h7
  have eg : ∀ args w, (callFunc 26 args).run Tryz.prog w = .ok (.enter 26 args) w := enters_of Tryz.func26 (by kernel_rfl) rfl
  have h := Any.slices_SortFunc layF (Value.int .i64) (fun _ => rfl) cmpI swoI 26 #[] g 0 c l.toArray W eg (fun m os dk _ x y => (Compare_any x y _).mono fun _ _ ⟨he, hw⟩ => ⟨he, 0, #[], by rw [← hw, grow_empty]; rfl⟩) (holds_of_blockI h3 h7) (Array.getElem?_eq_some_iff.1 h3).1 (by simpa using hl)
  refine h.mono ?_
  rintro e w' ⟨rfl, d', n, os, hp, hs, rfl⟩
  have hd : d'.toList = sortI l := by
   have h2 := sorted_unique_holds (lt := ltOf cmpI) swoI (fun x y h1 h2 => by rw [ltI_iff, decide_eq_false_iff_not] at *; omega) l.toArray d' hp (by simpa using hs)
   rw [h2]
   unfold sortI
   congr 1
   funext x y
   rw [ltI_iff, Bool.eq_iff_iff]
   simp
  have hd2 : d' = (sortI l).toArray := by rw [← hd]
  subst hd2
  refine ⟨rfl, ?_, grownBy_sortedI _⟩
  have h9 := ownsRow_sortedI (n := n) (os := os) (ss := l) (ts := sortI l) hlen h2 h3 h4 h5 h6
  unfold Owns
  rw [hlen, flat_ints]
  exact h9
theorem cmp_mem (l : List Int) : ∀ m, m ≤ l.length → ∀ x, x ∈ Lib.compactUpTo l.toArray m ↔ x ∈ l.take m
 | 0, _, x => by simp [Lib.compactUpTo]
 | m + 1, h, x => by
   have hm : m < l.length := by omega
   have e1 : l.toArray[m]! = l[m] := by rw [getElem!_pos l.toArray m (by simpa using hm)]; simp
   rw [Lib.compactUpTo_succ, List.mem_append, cmp_mem l m (by omega) x, List.take_succ_eq_append_getElem hm, List.mem_append, List.mem_singleton]
   cases hk : Lib.keeps l.toArray m
   ·simp only [Bool.false_eq_true, if_false, List.not_mem_nil, or_false]
    refine ⟨.inl, fun h1 => h1.elim id (fun h2 => ?_)⟩
    have h3 : ¬ (m = 0 ∨ l.toArray[m]! ≠ l.toArray[m - 1]!) := by simpa [Lib.keeps] using hk
    have h4 : m ≠ 0 := fun e => h3 (.inl e)
    have h5 : l.toArray[m]! = l.toArray[m - 1]! := Classical.byContradiction fun e => h3 (.inr e)
    have e2 : l.toArray[m - 1]! = l[m - 1] := by rw [getElem!_pos l.toArray (m - 1) (by simp; omega)]; simp
    rw [e1, e2] at h5
    subst h2
    rw [h5]
    exact List.mem_take_iff_getElem.2 ⟨m - 1, by omega, rfl⟩
   ·simp only [if_true, List.mem_singleton, e1]
theorem cmp_sorted (l : List Int) (hs : l.Pairwise (· ≤ ·)) : ∀ m, m ≤ l.length → (Lib.compactUpTo l.toArray m).Pairwise (· < ·)
 | 0, _ => by simp [Lib.compactUpTo]
 | m + 1, h => by
   have hm : m < l.length := by omega
   have e1 : l.toArray[m]! = l[m] := by rw [getElem!_pos l.toArray m (by simpa using hm)]; simp
   rw [Lib.compactUpTo_succ]
   cases hk : Lib.keeps l.toArray m
   ·simpa using cmp_sorted l hs m (by omega)
   ·simp only [if_true]
    refine List.pairwise_append.2 ⟨cmp_sorted l hs m (by omega), List.pairwise_singleton _ _, fun y hy z hz => ?_⟩
    rw [List.mem_singleton, e1] at hz
    subst hz
    have h1 := (cmp_mem l m (by omega) y).1 hy
    obtain ⟨i, hi, rfl⟩ := List.mem_take_iff_getElem.1 h1
    have hi2 : i < m := by omega
    have h3 : m = 0 ∨ l.toArray[m]! ≠ l.toArray[m - 1]! := by simpa [Lib.keeps] using hk
    have e2 : l.toArray[m - 1]! = l[m - 1] := by rw [getElem!_pos l.toArray (m - 1) (by simp; omega)]; simp
    rw [e1, e2] at h3
    have p1 : l[m - 1] ≤ l[m] := List.pairwise_iff_getElem.1 hs (m - 1) m (by omega) hm (by omega)
    have p2 : l[i] ≤ l[m - 1] := by
     by_cases e : i = m - 1
     ·subst e; exact Int.le_refl _
     ·exact List.pairwise_iff_getElem.1 hs i (m - 1) (by omega) (by omega) (by omega)
    rcases h3 with h3 | h3
    ·omega
    ·omega
def cmpL (l : List Int) : List Int := Lib.compactUpTo l.toArray l.length
theorem cmpL_setL (xs : List Int) (hb : ∀ x ∈ xs, 0 ≤ x ∧ x ≤ 4095) : cmpL (sortI xs) = setL xs := by
 refine sorted_ext _ _ (cmp_sorted _ (sortI_sorted xs) _ (Nat.le_refl _)) (setL_sorted _) (fun x => ?_)
 unfold cmpL
 rw [cmp_mem _ _ (Nat.le_refl _), List.take_length, sortI_mem, setL_mem]
 exact ⟨fun h => ⟨h, hb x h⟩, fun h => h.1⟩
theorem cmpL_len (l : List Int) : (cmpL l).length ≤ l.length := by
 unfold cmpL Lib.compactUpTo
 rw [List.length_map]
 exact Nat.le_trans (List.length_filter_le _ _) (by simp)
theorem Owns.cut {W : World} {B : Nat} {e : TypeId} {A : Option Addr} {c : Nat} {xs ys : List Int} (h : Owns W B e 1 intE (.slice A (xs ++ ys).length c) (xs ++ ys)) (hA : A ≠ none) : Owns W B e 1 intE (.slice A xs.length c) xs := by
 have e1 : (xs ++ ys).flatMap intE = xs.flatMap intE ++ ys.flatMap intE := List.flatMap_append
 have el : ∀ l : List Int, (l.flatMap intE).length = l.length := fun l => by rw [flat_ints, List.length_map]
 refine ⟨by rw [el, Nat.mul_one], ?_⟩
 rcases h.2 with ⟨h1, h2⟩ | ⟨g, cap, cur, h1, h2, h3, h4, h5, h6, h7⟩
 ·simp only [Value.slice.injEq] at h1
  exact absurd h1.1 hA
 ·simp only [Value.slice.injEq] at h1
  obtain ⟨rfl, _, rfl⟩ := h1
  refine .inr ⟨g, c, cur, rfl, h2, h3, by simp at h4; omega, h5, h6, ?_⟩
  rw [e1, Nat.mul_one] at h7
  have h8 := congrArg (List.take xs.length) h7
  rw [List.take_take, List.take_append_of_le_length (by rw [el]; exact Nat.le_refl _), List.take_of_length_le (l := xs.flatMap intE) (by rw [el]; exact Nat.le_refl _)] at h8
  rw [Nat.mul_one, ← h8]
  congr 1
  simp
def layC_ren : Go.Shelf.Ren where
 f := fun x =>
   match x with
   | 43 => 27
   | n => n
 t := fun x =>
   match x with
   | 22 => 64
   | 23 => 3
   | 3 => 3
   | 4 => 4
   | n => n
 g := fun n => n
theorem layC : SlLaysE.n43 Tryz.prog layC_ren where
 mixed := rfl
 f43 := ⟨_, by decide, Tryz.func27⟩
 t0 := Tryz.underlying0
 a0 := Tryz.isAgg0
 z0 := Tryz.sizeOf0
 v0 := Tryz.zeroValue0
 t3 := Tryz.underlying3
 a3 := Tryz.isAgg3
 z3 := Tryz.sizeOf3
 v3 := Tryz.zeroValue3
 t4 := Tryz.underlying4
 a4 := Tryz.isAgg4
 z4 := Tryz.sizeOf4
 v4 := Tryz.zeroValue4
 t22 := Tryz.underlying64
 a22 := Tryz.isAgg64
 z22 := Tryz.sizeOf64
 v22 := Tryz.zeroValue64
 a23 := Tryz.isAgg3
 z23 := Tryz.sizeOf3
def layN_ren : Go.Shelf.Ren where
 f := fun x =>
   match x with
   | 41 => 23
   | n => n
 t := fun x =>
   match x with
   | 22 => 42
   | 23 => 67
   | 3 => 3
   | 4 => 4
   | n => n
 g := fun n => n
theorem layN : SlLaysE0.n41 Tryz.prog layN_ren where
 mixed := rfl
 f41 := ⟨_, by decide, Tryz.func23⟩
 t4 := Tryz.underlying4
 a4 := Tryz.isAgg4
 z4 := Tryz.sizeOf4
 v4 := Tryz.zeroValue4
 t22 := Tryz.underlying42
 a22 := Tryz.isAgg42
 z22 := Tryz.sizeOf42
 v22 := Tryz.zeroValue42
set_option maxRecDepth 100000 in
theorem compact_any (l : List Int) (A : Option Addr) (c B : Nat) (W : World) (hown : Owns W B 3 1 intE (.slice A l.length c) l) (hl : l.length ≤ 4611686018427387904) :
 Calls Tryz.prog 27 #[.slice A l.length c] W fun e w' => e = .returned (.slice A (cmpL l).length c) ∧ Owns w' B 3 1 intE (.slice A (cmpL l).length c) (cmpL l) ∧ W.grownBy w' (Value.slice A l.length c).ownBlock := by
 rcases hown.2 with ⟨h1, h2⟩ | ⟨g, cap, cur, h1, h2, h3, h4, h5, h6, h7⟩
 ·have h0 : l = [] := List.eq_nil_of_length_eq_zero h2
  subst h0
  cases h1
  go_enter Tryz.func27, Tryz.ntmps27
  go_wp2_with fail
  go_ret
  exact ⟨rfl, Owns.nil_ _ _ _ _ _, World.grownBy.refl _ _⟩
 ·simp only [Value.slice.injEq] at h1
  obtain ⟨rfl, _, rfl⟩ := h1
  rw [Nat.mul_one] at h7
  rw [flat_ints] at h7
  have h := AnyE.slices_Compact layC (Value.int .i64) (fun _ => rfl) (EqlAt.intD _ _ _) (NeqAt.intD _ _ _) (0 : Int) Tryz.zeroValue3 g 0 c l.toArray W (holds_of_blockI h3 h7) (by simp; omega) (by simpa using h4)
  refine h.mono ?_
  rintro e w' ⟨rfl, q, rfl⟩
  have hcl := cmpL_len l
  have hts : (cmpL l ++ List.replicate (l.length - (cmpL l).length) (0 : Int)).length = l.length := by simp; omega
  have h9 := ownsRow_sortedI (n := q) (os := #[]) (ss := l) (ts := cmpL l ++ List.replicate (l.length - (cmpL l).length) (0 : Int)) hts h2 h3 h4 h5 h6
  rw [grow_empty] at h9
  refine ⟨rfl, ?_, ?_⟩
  ·refine Owns.cut (ys := List.replicate (l.length - (cmpL l).length) (0 : Int)) ?_ (by simp)
   unfold Owns
   rw [hts, flat_ints]
   exact h9
  ·have h8 := grownBy_sortedI (w := W) (g := g) (n := q) (os := #[]) (cmpL l ++ List.replicate (l.length - (cmpL l).length) (0 : Int)).toArray
   rw [grow_empty] at h8
   exact h8
theorem Tryz.infoRqH : (Tryz.prog.info? 67).map (fun i => (i.zero, i.size, i.bytes)) = some (some (.agg #[.string ⟨#[]⟩, .int .i64 0, .int .i64 0, .bool false, .slice none 0 0, .slice none 0 0]), 6, 88) := by kernel_rfl
set_option maxRecDepth 100000 in
theorem clone_any {P : Nat → Prop} (s : Sl) (hs : List RqH) (W : World) (h : SlR W P 6 RqH.enc s hs) (hl : hs.length ≤ 1000000) :
 Calls Tryz.prog 23 #[.slice s.a s.n s.c] W fun e w' => ∃ v', e = .returned v' ∧ Owns w' W.heap.size 67 6 RqH.enc v' hs ∧ Below W.heap.size W w' := by
 obtain ⟨A, n, c⟩ := s
 have hn : n = hs.length := h.1
 subst hn
 have hr := h.reads
 rcases A with _ | ⟨b, off, ix⟩
 ·have h0 : hs = [] := by
   rcases hs with _ | ⟨x, t⟩
   ·rfl
   ·obtain ⟨_, _, e, _⟩ := hr (by simp)
    cases e
  subst h0
  refine (AnyE.slices_Clone_nil layN _ _ W).mono ?_
  rintro e w' ⟨rfl, rfl⟩
  exact ⟨_, rfl, Owns.nil_ _ _ _ _ _, Below.refl _ _⟩
 ·obtain ⟨i0, hi0, hz0, hz1, hz2⟩ := info_parts Tryz.infoRqH
  have HI0 := Lib.hid hi0
  have HX := Lib.hid hr
  have q22 : ∀ (w : World) (a : Option Addr) (n c n' c' : Nat), (binOp .eql 42 (.slice a n c) (.slice none n' c')).run Tryz.prog w = .ok (.bool a.isNone) w := fun w a n c n' c' => Lib.run_eql_slice_nil w _ _ a n c n' c' Tryz.underlying42
  clear hi0 hr h
  go_enter Tryz.func23, Tryz.ntmps23
  go_wp2_with (at_builtin; refine stop_mk ?_)
  refine stop_out (wpList_append_reads (en := RqH.enc) (sz := 6) _ rfl _ _ _ rfl RqH.enc_len RqH.enc_one W.heap.size 67 i0 _ 88 Tryz.underlying42 HI0.out hz0 hz1 hz2 rfl (by omega) _ [] rfl (Owns.lit (ys := ([] : List RqH)) RqH.enc_len rfl (Nat.le_refl _) (by simp)) W.heap.size (some ⟨b, off, ix⟩) c hs rfl (HX.out.alloc (Nat.le_refl _) _) (fun h => by cases h) (by simp [maxLen]; omega) (by simp; omega) (by simp) ?_)
  intro v' w' ho hg _ _
  have hb : Below W.heap.size W w' := ((Below.refl _ W).alloc (Nat.le_refl _) _).grown hg (by simp) (fun k hk => by
   have : W.heap.size = k := Option.some.inj (show some W.heap.size = some k from hk)
   omega)
  go_wp2_with fail
  go_ret
  exact ⟨v', rfl, by simpa using ho, hb⟩
end Go.Proofs.YtalmbigebjbaoaaGreatDoor
namespace Go.Proofs.YtalmbigebjbaoaaGreatDoor
open Go.RowKit Go.Shelf
set_option linter.unusedSimpArgs false
set_option linter.unusedVariables false
attribute [local go_sem] Oper.semAt_some
theorem of_idle (n bA bC bR bE : Nat) (w : World) :
 CallsDIn Fence.wide n Tryz.prog 19 #[.pointer (some ⟨bA, 0, none⟩), .pointer (some ⟨bC, 0, none⟩), .pointer (some ⟨bR, 0, none⟩), .pointer (some ⟨bE, 0, none⟩)] .returning w fun e u' w' => e = .returned (.tuple #[]) ∧ u' = .returning ∧ w' = w := by
 refine callsDIn_of_wpS Tryz.func19 rfl fun c₀ cs hu => ?_
 repeat (first | refine wpS_seq ?_ | apply wpS_region)
 simp [wpOpsS, go_sem, recoverD, hu, Tryz.ntmps19, Exit.thenS]
 refine wpS_of_wp ?_
 simp only [Array.replicate_succ, Array.replicate_zero, List.push_toArray, List.append_toArray, List.nil_append, List.cons_append, List.setIfInBounds_toArray, List.set_cons_succ, List.set_cons_zero]
 go_wp2_with fail
 exact ⟨rfl, .returning, by rw [← hu], .tuple #[], results_none rfl _ _ _, rfl, rfl, rfl⟩
theorem of_caught (n bA bC bR bE : Nat) (e : Int) (a0 a1 a2 c0 r0 e0 : Value) (w : World) (hA : Bx w bA [a0, a1, a2]) (hC : Bx w bC [c0]) (hR : Bx w bR [r0]) (hE : Bx w bE [e0]) (h1 : bA < bC) (h2 : bC < bR) (h3 : bR < bE) :
 CallsDIn Fence.wide n Tryz.prog 19 #[.pointer (some ⟨bA, 0, none⟩), .pointer (some ⟨bC, 0, none⟩), .pointer (some ⟨bR, 0, none⟩), .pointer (some ⟨bE, 0, none⟩)] (.panicking (failE e)) w fun r u' w' => r = .returned (.tuple #[]) ∧ settle u' = .returning ∧
  Bx w' bA [.slice none 0 0, .int .i64 0, .slice none 0 0] ∧ Bx w' bC [.bool false] ∧ Bx w' bR [.slice none 0 0] ∧ Bx w' bE [.int .i64 e] ∧ ∀ B, B ≤ bA → Below B w w' := by
 refine callsDIn_of_wpS Tryz.func19 rfl fun c₀ cs hu => ?_
 unfold failE at hu
 repeat (first | refine wpS_seq ?_ | apply wpS_region)
 simp [wpOpsS, go_sem, recoverD, hu, Tryz.ntmps19, Exit.thenS]
 refine wpS_of_wp ?_
 simp only [Array.replicate_succ, Array.replicate_zero, List.push_toArray, List.append_toArray, List.nil_append, List.cons_append, List.setIfInBounds_toArray, List.set_cons_succ, List.set_cons_zero]
 obtain ⟨W1, hW1⟩ : ∃ X, X = ((((w.setCell ⟨bA, 0, none⟩ (.slice none 0 0)).setCell ⟨bA, 1, none⟩ (.int .i64 0)).setCell ⟨bA, 2, none⟩ (.slice none 0 0)).setCell ⟨bC, 0, none⟩ (.bool false)).setCell ⟨bR, 0, none⟩ (.slice none 0 0) := ⟨_, rfl⟩
 have kA : Bx W1 bA [.slice none 0 0, .int .i64 0, .slice none 0 0] := by
  rw [hW1]
  exact ((((hA.setAt (i := 0) (by simp) _).setAt (i := 1) (by simp) _).setAt (i := 2) (by simp) _).farC (by show bA ≠ bC; omega) _).farC (by show bA ≠ bR; omega) _
 have kC : Bx W1 bC [.bool false] := by
  rw [hW1]
  exact ((((hC.farC (by show bC ≠ bA; omega) _).farC (by show bC ≠ bA; omega) _).farC (by show bC ≠ bA; omega) _).set1 _).farC (by show bC ≠ bR; omega) _
 have kR : Bx W1 bR [.slice none 0 0] := by
  rw [hW1]
  exact ((((hR.farC (by show bR ≠ bA; omega) _).farC (by show bR ≠ bA; omega) _).farC (by show bR ≠ bA; omega) _).farC (by show bR ≠ bC; omega) _).set1 _
 have kE : Bx W1 bE [e0] := by
  rw [hW1]
  exact ((((hE.farC (by show bE ≠ bA; omega) _).farC (by show bE ≠ bA; omega) _).farC (by show bE ≠ bA; omega) _).farC (by show bE ≠ bC; omega) _).farC (by show bE ≠ bR; omega) _
 have kB : ∀ B, B ≤ bA → Below B w W1 := fun B hB => by
  rw [hW1]
  exact (((((Below.refl B w).setCell (by show B ≤ bA; omega) _).setCell (by show B ≤ bA; omega) _).setCell (by show B ≤ bA; omega) _).setCell (by show B ≤ bC; omega) _).setCell (by show B ≤ bR; omega) _
 have HK := Lib.hid (And.intro kA (And.intro kC (And.intro kR (And.intro kE kB))))
 obtain ⟨x0, x1, x2⟩ := hA
 obtain ⟨y0, y1, y2⟩ := hC
 obtain ⟨z0, z1, z2⟩ := hR
 have p0 := x0 0 _ rfl
 have p1 := x0 1 _ rfl
 have p2 := x0 2 _ rfl
 have f0 := x1 0
 have f1 := x1 1
 have f2 := x1 2
 have q0 := y0 0 _ rfl
 have g0 := y1 0
 have s0 := z0 0 _ rfl
 have t0 := z1 0
 have n1 : bA ≠ bC := by omega
 have n2 : bA ≠ bR := by omega
 have n3 : bC ≠ bR := by omega
 clear kA kC kR kE kB x0 x1 y0 y1 z0 z1 hE
 go_upto_region 3 with fail
 rw [← hW1]
 clear hW1
 obtain ⟨kA, kC, kR, kE, kB⟩ := HK.out
 go_wp2_with fail
 refine (caught_fail e bE e0 W1 kE).mono ?_
 rintro r w1 ⟨rfl, rfl⟩
 go_wp2_with fail
 refine ⟨rfl, _, rfl, .tuple #[], results_none rfl _ _ _, rfl, rfl, ?_, ?_, ?_, ?_, ?_⟩
 ·exact (kA.farC (by show bA ≠ bE; omega) _).alloc _
 ·exact (kC.farC (by show bC ≠ bE; omega) _).alloc _
 ·exact (kR.farC (by show bR ≠ bE; omega) _).alloc _
 ·exact (kE.set1 _).alloc _
 ·exact fun B hB => ((kB B hB).setCell (by show B ≤ bE; omega) _).alloc (by rw [World.size_setCell]; have := (kB B hB).size; have := kE.2.2; omega) _
set_option maxRecDepth 100000 in
set_option maxHeartbeats 4000000 in
theorem ofAdd_any (bR B : Nat) (v : Value) (rs xs : List Rd) (A : Option Addr) (c : Nat) (W : World) (hR : Bx W bR [v]) (hb : bR < B) (ho : Owns W B 130 5 Rd.enc v rs) (hx : Reads W W.heap.size A 5 Rd.enc xs) (hnil : A = none → c = 0) (hm : rs.length + xs.length ≤ 1099511627776) (hB : B ≤ W.heap.size) :
 Calls Tryz.prog 21 #[.slice A xs.length c, .pointer (some ⟨bR, 0, none⟩)] W fun e w' => e = .returned (.tuple #[]) ∧ ∃ v', Bx w' bR [v'] ∧ Owns w' B 130 5 Rd.enc v' (rs ++ xs) ∧ (v'.ownBlock = v.ownBlock ∨ v'.ownBlock = some W.heap.size) ∧
  W.heap.size ≤ w'.heap.size ∧ w'.os = W.os ∧ w'.tape = W.tape ∧ w'.output = W.output ∧ ∀ k, k < W.heap.size → k ≠ bR → v.ownBlock ≠ some k → w'.heap[k]? = W.heap[k]? := by
 obtain ⟨i0, hi0, hz0, hz1, hz2⟩ := info_parts Tryz.infoRd
 have HI0 := Lib.hid hi0
 have HO := Lib.hid ho
 have HX := Lib.hid hx
 have HR := Lib.hid hR
 obtain ⟨A5, c5, rfl, _, hmax⟩ := ho.shape
 obtain ⟨x0, x1, x2⟩ := hR
 have p0 := x0 0 _ rfl
 have q0 := x1 0
 clear hi0 ho hx x0 x1 hmax
 go_enter Tryz.func21, Tryz.ntmps21
 go_wp2_with (at_builtin; refine stop_mk ?_)
 refine stop_out (wpList_append_reads (en := Rd.enc) (sz := 5) _ rfl _ _ _ rfl Rd.enc_len_ Rd.enc_one B 130 i0 _ 40 Tryz.underlying36 HI0.out hz0 hz1 hz2 rfl (by omega) _ rs rfl HO.out W.heap.size A c xs rfl HX.out hnil (by simp [maxLen]; omega) (by omega) hB ?_)
 intro v2 w2 ho2 hg2 hob _
 have hr : ∀ g, (Value.slice A5 rs.length c5).ownBlock = some g → B ≤ g := HO.out.base_le
 have HB2 : Hid (Bx w2 bR [.slice A5 rs.length c5]) := Lib.hid (HR.out.keep (P := fun y => y = bR) (Kp.of_grown2 hg2 (fun y hy e => by have := hr y e.symm; omega)) rfl)
 obtain ⟨y0, y1, y2⟩ := HB2.out
 have p0 := y0 0 _ rfl
 have q0 := y1 0
 have HO2 := Lib.hid ho2
 have HG2 := Lib.hid hg2
 have HOB := Lib.hid hob
 obtain ⟨A6, c6, rfl, _, _⟩ := ho2.shape
 rw [List.length_append] at HO2 HOB
 clear y0 y1 ho2 hg2 hob
 go_wp2_with fail
 go_end0
 refine ⟨rfl, .slice A6 (rs.length + xs.length) c6, HB2.out.set1 _, HO2.out.farS hb _, HOB.out, by simp [World.setCell]; exact HG2.out.size, HG2.out.os, HG2.out.tape, HG2.out.output, fun k hk h1 h2 => (Below.heap_setCell _ _ _ _ (by first | exact h1 | exact h1.symm)).trans (HG2.out.block k hk (fun e => h2 e.symm))⟩
end Go.Proofs.YtalmbigebjbaoaaGreatDoor
