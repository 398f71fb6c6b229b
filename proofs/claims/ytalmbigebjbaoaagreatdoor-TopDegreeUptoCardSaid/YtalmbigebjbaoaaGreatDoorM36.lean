/- TopDegree, what its proof leans on: the texts TopS. -/
import Derived.Test.YtalmbigebjbaoaaGreatDoorM35
import Derived.Test.YtalmbigebjbaoaaGreatDoorM24
import Derived.Test.YtalmbigebjbaoaaGreatDoorM33
import Derived.Shelf.SlLaysF0
import Derived.Shelf.SlGeneric
import Derived.Shelf.SlSortCmp.WholeK
import Derived.Shelf.SlSortCmp.NoneTotal
import Derived.StillTailTactics
import Derived.BigRegion
namespace Go.Proofs.YtalmbigebjbaoaaGreatDoor
open Go.RowKit Go.Shelf Go.Sort
set_option linter.unusedSimpArgs false
set_option linter.unusedVariables false
def cmpA (a b : At) : Int := firstNZ [cmpI a.term b.term, cmpI a.course b.course]
set_option maxRecDepth 100000 in
set_option maxHeartbeats 2000000 in
theorem order_any (a b : At) (w : World) :
 Calls Tryz.prog 65 #[a.v, b.v] w fun e w' => e = .returned (.int .i64 (cmpA a b)) ∧ ∃ q os', w' = grow (w.drewN q) os' := by
 obtain ⟨a0, a1, a2, a3, a4⟩ := a
 obtain ⟨b0, b1, b2, b3, b4⟩ := b
 unfold At.v
 go_enter Tryz.func65, Tryz.ntmps65
 go_wp2_with fail
 refine wp_region_tail 10 (by kernel_rfl) (by kernel_rfl) ?_
 simp only [List.take_succ_cons, List.take_zero, List.drop_succ_cons, List.drop_zero]
 repeat still_step
 still_call ((Compare_any _ _ _).mono fun _ _ h => ⟨h.1, h.2.symm⟩)
 repeat still_step
 still_call ((Compare_any _ _ _).mono fun _ _ h => ⟨h.1, h.2.symm⟩)
 refine wpStill_nil ?_
 go_wp2_with fail
 refine (Or_any [_, _] _ _ _ ((reads_ints ((w.alloc _).alloc _) (w.heap.size + 1 + 1) (by simp) [_, _] _ _ rfl).drew.more (by simp)) (by simp)).mono ?_
 rintro e w1 ⟨rfl, rfl⟩
 go_wp2_with fail
 go_ret
 exact ⟨ret_int (by simp [cmpA, *]), 1, _, by rw [alloc_eq_grow, alloc_eq_grow, alloc_eq_grow, grow_grow, grow_grow]; rfl⟩
theorem cmpI_lt (x y : Int) : cmpI x y < 0 ↔ x < y := by unfold cmpI; split <;> (try split) <;> omega
theorem cmpI_eq (x y : Int) : cmpI x y = 0 ↔ x = y := by unfold cmpI; split <;> (try split) <;> omega
def ltA (a b : At) : Bool := decide (cmpA a b < 0)
theorem ltA_iff (a b : At) : ltA a b = true ↔ a.term < b.term ∨ (a.term = b.term ∧ a.course < b.course) := by
 unfold ltA cmpA
 have h1 := cmpI_lt a.term b.term
 have h2 := cmpI_eq a.term b.term
 have h3 := cmpI_lt a.course b.course
 rw [decide_eq_true_iff]
 simp only [firstNZ]
 by_cases e : cmpI a.term b.term = 0
 ·rw [if_pos e]
  have e2 := h2.1 e
  by_cases e3 : cmpI a.course b.course = 0
  ·rw [if_pos e3]
   have := (cmpI_eq a.course b.course).1 e3
   omega
  ·rw [if_neg e3, h3]
   omega
 ·rw [if_neg e, h1]
  have : ¬ a.term = b.term := fun h => e (h2.2 h)
  omega
theorem swoA : SWO (ltOf cmpA) := by
 have key : ∀ a b, ltOf cmpA a b = ltA a b := fun a b => rfl
 have iff_ := ltA_iff
 refine ⟨fun x => ?_, fun x y z h1 h2 => ?_, fun x y z h1 h2 => ?_⟩
 ·rw [key, Bool.eq_false_iff]
  intro h
  have := (iff_ x x).1 h
  omega
 ·rw [key] at *
  have := (iff_ x y).1 h1
  have := (iff_ y z).1 h2
  exact (iff_ x z).2 (by omega)
 ·rw [key, Bool.eq_false_iff] at *
  intro h
  have h3 := (iff_ x z).1 h
  have h4 : ¬ (x.term < y.term ∨ (x.term = y.term ∧ x.course < y.course)) := fun h => h1 ((iff_ x y).2 h)
  have h5 : ¬ (y.term < z.term ∨ (y.term = z.term ∧ y.course < z.course)) := fun h => h2 ((iff_ y z).2 h)
  omega
def layA_ren : Go.Shelf.Ren where
 f := fun x =>
   match x with
   | 6 => 64
   | 15 => 56
   | 14 => 113
   | 28 => 104
   | 29 => 105
   | 20 => 147
   | 21 => 148
   | 22 => 149
   | 23 => 150
   | 24 => 151
   | 25 => 152
   | 26 => 153
   | 27 => 154
   | 46 => 167
   | 47 => 137
   | 48 => 138
   | 49 => 168
   | 50 => 169
   | 57 => 176
   | n => n
 t := fun x =>
   match x with
   | 22 => 47
   | 24 => 69
   | 25 => 149
   | 3 => 3
   | 39 => 136
   | 0 => 0
   | 53 => 197
   | 55 => 154
   | 4 => 4
   | 46 => 191
   | 45 => 190
   | 50 => 131
   | 5 => 5
   | 9 => 9
   | 66 => 223
   | 70 => 227
   | 76 => 247
   | 77 => 248
   | n => n
 g := fun n => n
theorem layA : SlLaysF0.n6 Tryz.prog layA_ren where
 mixed := rfl
 f6 := ⟨_, by decide, Tryz.func64⟩
 f14 := ⟨_, by decide, Tryz.func113⟩
 f15 := Tryz.func56
 f20 := ⟨_, by decide, Tryz.func147⟩
 f21 := ⟨_, by decide, Tryz.func148⟩
 f22 := ⟨_, by decide, Tryz.func149⟩
 f23 := ⟨_, by decide, Tryz.func150⟩
 f24 := ⟨_, by decide, Tryz.func151⟩
 f25 := ⟨_, by decide, Tryz.func152⟩
 f26 := ⟨_, by decide, Tryz.func153⟩
 f27 := ⟨_, by decide, Tryz.func154⟩
 f28 := Tryz.func104
 f29 := Tryz.func105
 f46 := ⟨_, by decide, Tryz.func167⟩
 f47 := Tryz.func137
 f48 := Tryz.func138
 f49 := ⟨_, by decide, Tryz.func168⟩
 f50 := ⟨_, by decide, Tryz.func169⟩
 f57 := ⟨_, by decide, Tryz.func176⟩
 t0 := Tryz.underlying0
 a0 := Tryz.isAgg0
 z0 := Tryz.sizeOf0
 v0 := Tryz.zeroValue0
 t3 := Tryz.underlying3
 a3 := Tryz.isAgg3
 z3 := Tryz.sizeOf3
 v3 := Tryz.zeroValue3
 t4 := Tryz.underlying4
 a4 := Tryz.isAgg4
 z4 := Tryz.sizeOf4
 v4 := Tryz.zeroValue4
 t5 := Tryz.underlying5
 a5 := Tryz.isAgg5
 z5 := Tryz.sizeOf5
 v5 := Tryz.zeroValue5
 t9 := Tryz.underlying9
 a9 := Tryz.isAgg9
 z9 := Tryz.sizeOf9
 v9 := Tryz.zeroValue9
 t22 := Tryz.underlying47
 a22 := Tryz.isAgg47
 z22 := Tryz.sizeOf47
 v22 := Tryz.zeroValue47
 t25 := Tryz.underlying149
 a25 := Tryz.isAgg149
 z25 := Tryz.sizeOf149
 v25 := Tryz.zeroValue149
 t39 := Tryz.underlying136
 a39 := Tryz.isAgg136
 z39 := Tryz.sizeOf136
 v39 := Tryz.zeroValue136
 t45 := Tryz.underlying190
 a45 := Tryz.isAgg190
 z45 := Tryz.sizeOf190
 v45 := Tryz.zeroValue190
 t46 := Tryz.underlying191
 a46 := Tryz.isAgg191
 z46 := Tryz.sizeOf191
 v46 := Tryz.zeroValue191
 t50 := Tryz.underlying131
 a50 := Tryz.isAgg131
 z50 := Tryz.sizeOf131
 v50 := Tryz.zeroValue131
 t53 := Tryz.underlying197
 a53 := Tryz.isAgg197
 z53 := Tryz.sizeOf197
 v53 := Tryz.zeroValue197
 t55 := Tryz.underlying154
 a55 := Tryz.isAgg154
 z55 := Tryz.sizeOf154
 v55 := Tryz.zeroValue154
 t66 := Tryz.underlying223
 a66 := Tryz.isAgg223
 z66 := Tryz.sizeOf223
 v66 := Tryz.zeroValue223
 t70 := Tryz.underlying227
 a70 := Tryz.isAgg227
 z70 := Tryz.sizeOf227
 v70 := Tryz.zeroValue227
 t76 := Tryz.underlying247
 a76 := Tryz.isAgg247
 z76 := Tryz.sizeOf247
 v76 := Tryz.zeroValue247
 t77 := Tryz.underlying248
 a77 := Tryz.isAgg248
 z77 := Tryz.sizeOf248
 v77 := Tryz.zeroValue248
theorem flatK_list (d : List At) : (flatK At.enc 5 d.toArray).toList = d.flatMap At.enc := by
 have hfl := flat_length At.enc_len5 d
 apply List.ext_getElem?
 intro i
 by_cases hi : i < d.length * 5
 ·have h5 : i / 5 < d.length := by omega
  have h6 : i % 5 < (At.enc d[i / 5]).length := by rw [At.enc_len5]; omega
  have h1 := flat_get At.enc_len5 d (i / 5) d[i / 5] (i % 5) (At.enc d[i / 5])[i % 5] (List.getElem?_eq_getElem h5) (List.getElem?_eq_getElem h6)
  rw [show i / 5 * 5 + i % 5 = i by omega] at h1
  rw [h1, Array.getElem?_toList, Array.getElem?_eq_getElem (by simpa using hi)]
  have h2 := get_flatK At.enc 5 d.toArray i (by simpa using hi)
  rw [getElem!_pos (flatK At.enc 5 d.toArray) i (by simpa using hi)] at h2
  rw [h2]
  have h3 : d.toArray[i / 5]! = d[i / 5] := by rw [getElem!_pos d.toArray (i / 5) (by simpa using h5)]; simp
  rw [h3, getElem!_pos (At.enc d[i / 5]) (i % 5) h6]
 ·rw [List.getElem?_eq_none (by simp; omega), List.getElem?_eq_none (by omega)]
theorem holdsK_of_block {w : World} {g : Nat} {cur : Array Value} {e : TypeId} {d : List At} (hb : w.heap[g]? = some (.cells cur e (0, 0))) (ht : cur.toList.take (d.length * 5) = d.flatMap At.enc) : HoldsK At.enc 5 w g 0 d.toArray := by
 intro j hj
 have hj' : j < d.length * 5 := by simpa using hj
 refine ⟨?_, by simp [World.frozen?, hb]⟩
 have h1 : (cur.toList.take (d.length * 5))[j]? = (d.flatMap At.enc)[j]? := by rw [ht]
 rw [List.getElem?_take_of_lt hj', ← flatK_list] at h1
 simp only [World.cell?, hb, Nat.zero_add]
 simp only [Option.isSome_none, Bool.false_eq_true, if_false]
 rw [← Array.getElem?_toList, h1, Array.getElem?_toList, Array.getElem?_eq_getElem hj, getElem!_pos (flatK At.enc 5 d.toArray) j hj]
 rfl
theorem take_putId (cur F : Array Value) (h : F.size ≤ cur.size) : (putCells id 0 F cur).toList.take F.size = F.toList := by
 apply List.ext_getElem?
 intro j
 by_cases hj : j < F.size
 ·rw [List.getElem?_take_of_lt hj, Array.getElem?_toList, Array.getElem?_toList]
  simp [putCells, hj, show j < cur.size by omega]
 ·rw [List.getElem?_take_eq_none (by omega), List.getElem?_eq_none (by simp; omega)]
def sortA (l : List At) : List At := (Go.Sort.pdq (ltOf cmpA) l.toArray 0 l.length (Lib.bitLen l.length) true true).toList
theorem sortA_len (l : List At) : (sortA l).length = l.length := by
 have h := (pdq_sorts (ltOf cmpA) swoA l.toArray 0 l.toArray.size (Lib.bitLen l.toArray.size) true true (Nat.zero_le _) (Nat.le_refl _) (Or.inl rfl)).1.1
 unfold sortA
 simpa using h
set_option maxRecDepth 100000 in
theorem sortA_any (l : List At) (A : Option Addr) (c B : Nat) (W : World) (hown : Owns W B 69 5 At.enc (.slice A l.length c) l) (hl : l.length < 4611686018427387904) :
 Calls Tryz.prog 64 #[.slice A l.length c, .func (.func 65) #[] #[]] W fun e w' => e = .returned (.tuple #[]) ∧ Owns w' B 69 5 At.enc (.slice A l.length c) (sortA l) ∧ W.grownBy w' (Value.slice A l.length c).ownBlock := by
 have hlen := sortA_len l
 rcases hown.2 with ⟨h1, h2⟩ | ⟨g, cap, cur, h1, h2, h3, h4, h5, h6, h7⟩
 ·have h0 : l = [] := List.eq_nil_of_length_eq_zero h2
  subst h0
  cases h1
  have h := AnyF.slices_SortFunc_none layA none 0 (.func (.func 65) #[] #[]) W
  refine h.mono ?_
  rintro e w' ⟨rfl, rfl⟩
  refine ⟨rfl, ?_, World.grownBy.refl _ _⟩
  rw [show sortA [] = [] from List.eq_nil_of_length_eq_zero hlen]
  exact Owns.nil_ _ _ _ _ _
 ·simp only [Value.slice.injEq] at h1
  obtain ⟨rfl, _, rfl⟩ := h1
  have eg : ∀ args w, (callFunc 65 args).run Tryz.prog w = .ok (.enter 65 args) w := enters_of Tryz.func65 (by kernel_rfl) rfl
  have h := AnyQ.slices_SortFunc_eq layA 5 Tryz.isAgg69 Tryz.sizeOf69 At.enc At.enc_len5 At.enc_one5 cmpA swoA 65 #[] g 0 c l.toArray W eg (fun _ _ _ _ x y => order_any x y _) (holdsK_of_block h3 h7) (Array.getElem?_eq_some_iff.1 h3).1 (by simpa using hl)
  refine h.mono ?_
  rintro e w' ⟨rfl, n, os, rfl⟩
  have hg : g < W.heap.size := (Array.getElem?_eq_some_iff.1 h3).1
  have hF : (flatK At.enc 5 (sortA l).toArray).size = l.length * 5 := by simp [hlen]
  refine ⟨rfl, ⟨?_, .inr ⟨g, c, putCells id 0 (flatK At.enc 5 (sortA l).toArray) cur, by rw [hlen], h2, ?_, by rw [hlen]; exact h4, h5, by simp [putCells, h6], ?_⟩⟩, ⟨rfl, rfl, rfl, by simp [sortWorldK, putRowK], fun k hk hne => ?_⟩⟩
  ·rw [flat_length At.enc_len5]
  ·unfold sortWorldK
   rw [heap_grow_old _ _ (by simpa [putRowK] using hg)]
   simp only [sortA, List.size_toArray, Array.toArray_toList]
   simp [putRowK, putRow, mapBlock, Sort.ahead, Array.getElem?_modify, h3, onCells]
  ·rw [← flatK_list, hlen, ← hF]
   exact take_putId cur _ (by rw [hF, h6]; exact Nat.mul_le_mul_right _ h4)
  ·unfold sortWorldK
   rw [heap_grow_old _ _ (by simpa [putRowK] using hk)]
   have : g ≠ k := fun e => hne (by rw [e]; rfl)
   simp [putRowK, putRow, mapBlock, Sort.ahead, Array.getElem?_modify, this]
end Go.Proofs.YtalmbigebjbaoaaGreatDoor
