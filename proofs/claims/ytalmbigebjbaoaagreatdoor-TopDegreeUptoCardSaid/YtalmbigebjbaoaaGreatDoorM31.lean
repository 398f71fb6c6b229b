/- TopDegree, what its proof leans on: the texts TopL. -/
import Derived.Test.YtalmbigebjbaoaaGreatDoorM30
import Derived.Deep.Cut
namespace Go.Proofs.YtalmbigebjbaoaaGreatDoor
open Go.RowKit Go.Shelf
set_option linter.unusedSimpArgs false
set_option linter.unusedVariables false
attribute [local go_sem] Oper.semAt_some
def crC : Option Cr → List Value
 | some x => x.enc
 | none => [.string ⟨#[]⟩, .int .i64 0, .int .i64 0, .int .i64 0, .int .i64 0, .int .i64 0, .string ⟨#[]⟩, .int .i64 0, .int .i64 0, .slice none 0 0, .int .i64 0, .int .i64 0, .string ⟨#[]⟩, .int .i64 0, .int .i64 0, .slice none 0 0]
theorem crC_len (o : Option Cr) : (crC o).length = 16 := by cases o <;> rfl
theorem Cr.enc_one (x : Cr) : ∀ v ∈ x.enc, v.oneCell' = true := by
 intro v hv
 simp only [Cr.enc, List.mem_cons, List.not_mem_nil, or_false] at hv
 rcases hv with rfl | rfl | rfl | rfl | rfl | rfl | rfl | rfl | rfl | rfl | rfl | rfl | rfl | rfl | rfl | rfl <;> rfl
theorem crC_one (o : Option Cr) : (crC o).toArray.all (·.oneCell') = true := by
 cases o with
 | none =>
   refine all_oneCell_toArray (fun v hv => ?_)
   simp only [crC, List.mem_cons, List.not_mem_nil, or_false] at hv
   rcases hv with rfl | rfl | rfl | rfl | rfl | rfl | rfl | rfl | rfl | rfl | rfl | rfl | rfl | rfl | rfl | rfl <;> rfl
 | some x => exact all_oneCell_toArray (Cr.enc_one x)
theorem infoCr : (Tryz.prog.info? 123).map (·.size) = some 16 := by kernel_rfl
theorem infoCr_ (o : Option Cr) : (Tryz.prog.info? 123).map (·.size) = some (crC o).toArray.size := by rw [infoCr]; simp [crC_len]
theorem results_cell2 {fn : Func} {p u v : Tmp} {ty : TypeId} (h : fn.results = #[.cell p ty, .tmp u, .tmp v]) {tmps : Array Value} {P : Program} {w : World} {a : Addr} {x : Value} (ha : tmps.getD p undef = .pointer (some a)) (hl : (loadVar ty a).run P w = .ok x w) :
 (results fn tmps).run P w = .ok (.tuple #[x, tmps.getD u undef, tmps.getD v undef]) w := by
 simp only [results, h]
 simp only [Array.getD_eq_getD_getElem?] at ha
 simp [Sem.run_bind, Result.andThen, ha, asAddr, hl]
theorem new_at (W : World) (q : Obj) (b : Nat) (h : b = W.heap.size) : (W.alloc q).heap[b]? = some q := by subst h; exact World.alloc_heap_new _ _
theorem old_at {W : World} {b : Nat} {q r : Obj} (h : W.heap[b]? = some q) : (W.alloc r).heap[b]? = some q := (Below.heap_alloc _ _ _ (Array.getElem?_eq_some_iff.1 h).1).trans h
def courF (d : Wd) (num term known : Int) : Option Cr := defAt d.cs (fun x => (x.number == num) && goodC x) d.fs ⟨1, num, 0⟩ term known
set_option maxRecDepth 100000 in
set_option maxHeartbeats 4000000 in
theorem bkCourseL_any {P : Nat → Prop} (d : Wd) (b : Nat) (num term known : Int) (w : World) (h : d.Ok w P) (hb : w.cell? ⟨b, 0, none⟩ = some (.int .i64 num)) (hf : d.fs.length ≤ 100000) (hk : KindsAt w) (hfw : ∀ x ∈ d.cs, Cr.Few x) :
 Calls Tryz.prog 146 #[d.v, .slice d.c.a d.c.n d.c.c, .agg #[.int .i64 1, .int .i64 num, .int .i64 0], .int .i64 term, .int .i64 known, .func (.func 144) #[] #[.pointer (some ⟨b, 0, none⟩)]] w fun e w' =>
  (∃ s : Sl, e = .returned (.tuple #[.agg (crC (courF d num term known)).toArray, .slice s.a s.n s.c, .bool (courF d num term known).isSome]) ∧ RdS w' w.heap.size 1 s) ∧ Below w.heap.size w w' := by
 have hlt : b < w.heap.size := cell_in hb
 obtain ⟨⟨A1, n1, c1⟩, ⟨A2, n2, c2⟩, ⟨A3, n3, c3⟩, ⟨A4, n4, c4⟩, cs, ps, fs⟩ := d
 obtain ⟨E, hE⟩ : ∃ E, E = courF ⟨⟨A1, n1, c1⟩, ⟨A2, n2, c2⟩, ⟨A3, n3, c3⟩, ⟨A4, n4, c4⟩, cs, ps, fs⟩ num term known := ⟨_, rfl⟩
 have hl := h.cs
 have hfs := h.fs
 have hn1 := hl.1
 have hn2 := hfs.1
 simp only at hn1 hn2 hf hfw
 subst hn1 hn2
 have HL := Lib.hid hl.reads
 have HF := Lib.hid hfs.reads
 have HO := Lib.hid h.co
 have HKA := Lib.hid hk
 have HFW := Lib.hid hfw
 rw [← hE]
 have HE := Lib.hid hE
 obtain ⟨zc, hzc⟩ : ∃ zc : Array Value, zc = (crC none).toArray := ⟨_, rfl⟩
 have HZC := Lib.hid hzc
 have HZI : Hid ((Tryz.prog.info? 123).map (·.size) = some zc.size) := Lib.hid (by rw [hzc]; exact infoCr_ none)
 have HZ1 : Hid (zc.all (·.oneCell') = true) := Lib.hid (by rw [hzc]; exact crC_one none)
 have HZ2 : Hid (zc.size = 16) := Lib.hid (by rw [hzc]; rfl)
 clear hE h hl hfs hk hfw
 simp only [Wd.v]
 cases t1 : inB term 0 1023
 ·have T1 := Lib.hid t1
  obtain rfl : E = none := by rw [HE.out]; unfold courF defAt; simp [t1]
  have HZ : Hid ((((w.alloc (.cells #[.slice A1 cs.length c1, .slice A2 n2 c2, .slice A3 n3 c3, .slice A4 fs.length c4] 29)).alloc (.cells #[.int .i64 1, .int .i64 num, .int .i64 0] 86)).alloc (.cells #[.string ⟨#[]⟩, .int .i64 0, .int .i64 0, .int .i64 0, .int .i64 0, .int .i64 0, .string ⟨#[]⟩, .int .i64 0, .int .i64 0, .slice none 0 0, .int .i64 0, .int .i64 0, .string ⟨#[]⟩, .int .i64 0, .int .i64 0, .slice none 0 0] 123)).heap[w.heap.size + 2]? = some (.cells zc 123 (0, 0))) := Lib.hid (by rw [hzc]; exact new_at _ _ _ (by simp))
  have HB2 : Hid (Below w.heap.size w (((w.alloc (.cells #[.slice A1 cs.length c1, .slice A2 n2 c2, .slice A3 n3 c3, .slice A4 fs.length c4] 29)).alloc (.cells #[.int .i64 1, .int .i64 num, .int .i64 0] 86)).alloc (.cells #[.string ⟨#[]⟩, .int .i64 0, .int .i64 0, .int .i64 0, .int .i64 0, .int .i64 0, .string ⟨#[]⟩, .int .i64 0, .int .i64 0, .slice none 0 0, .int .i64 0, .int .i64 0, .string ⟨#[]⟩, .int .i64 0, .int .i64 0, .slice none 0 0] 123))) := Lib.hid (by go_grown)
  clear t1 HE hzc
  go_enter Tryz.func146, Tryz.ntmps146
  go_wp2_with fail
  refine (bkIn_any _ _ _ _).mono ?_
  rw [T1.out]
  rintro e w1 ⟨rfl, rfl⟩
  go_upto_region 2 with fail
  repeat (first
   | (refine wpList_load_row rfl 123 (.tmp 12) rfl (w.heap.size + 2) rfl HZ.out Tryz.underlying123 rfl HZI.out ?_)
   | (refine wpList_store_row rfl 123 (.tmp 12) (.tmp 19) rfl (w.heap.size + 2) rfl rfl HZ.out HZI.out rfl HZ1.out ?_)
   | go_values | go_skip | go_guarded | go_step | go_upon)
  rw [setRow_self _ _ _ _ _ HZ.out]
  refine bodyPost_ret (results_cell2 Tryz.results146 rfl (loadVar_row_ HZ.out Tryz.underlying123 rfl HZI.out)) rfl ⟨⟨⟨none, 0, 0⟩, by rw [HZC.out]; rfl, RdS.nil_ _ _ _⟩, HB2.out⟩
 have T1 := Lib.hid t1
 have htm : 0 ≤ term ∧ term ≤ 1023 := by simpa [inB] using t1
 obtain ⟨hb1, hb2⟩ := htm
 have hwr : wrap64 (term + 1) = term + 1 := IntWalk.wrap64_in _ ⟨by omega, by omega⟩
 obtain ⟨r, hr⟩ : ∃ r, r = atF fs ⟨1, num, 0⟩ term known := ⟨_, rfl⟩
 have HA := Lib.hid (fun W (h2 : Below w.heap.size w W) => At_any fs A4 c4 ⟨1, num, 0⟩ term known W ((HF.out.below h2).more h2.size) hf)
 simp only [← hr] at HA
 have HR := Lib.hid hr
 clear hr
 obtain ⟨v, o⟩ := r
 have HEE : Hid (E = if o && decide (0 ≤ v) then (cs[v.toNat]?).filter (fun x => (x.number == num) && goodC x) else none) := Lib.hid (by
  rw [HE.out]
  unfold courF defAt
  simp only [t1, ← HR.out, if_true])
 clear HE t1
 have hsz : fs.length ≤ 100000 := hf
 have H3 : Hid (Below w.heap.size w ((((w.alloc (.cells #[.slice A1 cs.length c1, .slice A2 n2 c2, .slice A3 n3 c3, .slice A4 fs.length c4] 29)).alloc (.cells #[.int .i64 1, .int .i64 num, .int .i64 0] 86)).alloc (.cells #[.string ⟨#[]⟩, .int .i64 0, .int .i64 0, .int .i64 0, .int .i64 0, .int .i64 0, .string ⟨#[]⟩, .int .i64 0, .int .i64 0, .slice none 0 0, .int .i64 0, .int .i64 0, .string ⟨#[]⟩, .int .i64 0, .int .i64 0, .slice none 0 0] 123)).alloc (.cells #[.int .i64 1, .int .i64 num, .int .i64 0, .int .i64 term, .int .i64 (term + 1)] 130))) := Lib.hid (by go_grown)
 have HRD : Hid (RdS ((((w.alloc (.cells #[.slice A1 cs.length c1, .slice A2 n2 c2, .slice A3 n3 c3, .slice A4 fs.length c4] 29)).alloc (.cells #[.int .i64 1, .int .i64 num, .int .i64 0] 86)).alloc (.cells #[.string ⟨#[]⟩, .int .i64 0, .int .i64 0, .int .i64 0, .int .i64 0, .int .i64 0, .string ⟨#[]⟩, .int .i64 0, .int .i64 0, .slice none 0 0, .int .i64 0, .int .i64 0, .string ⟨#[]⟩, .int .i64 0, .int .i64 0, .slice none 0 0] 123)).alloc (.cells #[.int .i64 1, .int .i64 num, .int .i64 0, .int .i64 term, .int .i64 (term + 1)] 130)) (w.heap.size + 3) 1 ⟨some ⟨w.heap.size + 3, 0, none⟩, 1, 1⟩) := Lib.hid (by
  have h := RdS.one (((w.alloc (.cells #[.slice A1 cs.length c1, .slice A2 n2 c2, .slice A3 n3 c3, .slice A4 fs.length c4] 29)).alloc (.cells #[.int .i64 1, .int .i64 num, .int .i64 0] 86)).alloc (.cells #[.string ⟨#[]⟩, .int .i64 0, .int .i64 0, .int .i64 0, .int .i64 0, .int .i64 0, .string ⟨#[]⟩, .int .i64 0, .int .i64 0, .slice none 0 0, .int .i64 0, .int .i64 0, .string ⟨#[]⟩, .int .i64 0, .int .i64 0, .slice none 0 0] 123)) ⟨1, num, 0, term, term + 1⟩ 130 (w.heap.size + 3) (by simp)
  simpa using h)
 have HZ : Hid (((((w.alloc (.cells #[.slice A1 cs.length c1, .slice A2 n2 c2, .slice A3 n3 c3, .slice A4 fs.length c4] 29)).alloc (.cells #[.int .i64 1, .int .i64 num, .int .i64 0] 86)).alloc (.cells #[.string ⟨#[]⟩, .int .i64 0, .int .i64 0, .int .i64 0, .int .i64 0, .int .i64 0, .string ⟨#[]⟩, .int .i64 0, .int .i64 0, .slice none 0 0, .int .i64 0, .int .i64 0, .string ⟨#[]⟩, .int .i64 0, .int .i64 0, .slice none 0 0] 123)).alloc (.cells #[.int .i64 1, .int .i64 num, .int .i64 0, .int .i64 term, .int .i64 (term + 1)] 130)).heap[w.heap.size + 2]? = some (.cells zc 123 (0, 0))) := Lib.hid (by rw [hzc]; exact old_at (new_at _ _ _ (by simp)))
 clear hzc
 go_enter Tryz.func146, Tryz.ntmps146
 go_wp2_with fail
 refine (bkIn_any _ _ _ _).mono ?_
 rw [T1.out]
 rintro e w1 ⟨rfl, rfl⟩
 go_wp2_with fail
 refine (HA.out _ H3.out).mono ?_
 rintro e w2 ⟨rfl, hb2⟩
 have HB2 := Lib.hid (H3.out.trans (hb2.mono H3.out.size))
 have HRD2 := Lib.hid (HRD.out.step hb2)
 have HZW := Lib.hid ((hb2.block _ (Array.getElem?_eq_some_iff.1 HZ.out).1).trans HZ.out)
 have HL2 := Lib.hid ((HL.out.below HB2.out).more HB2.out.size)
 have hlt2 : b < w2.heap.size := by have := HB2.out.size; omega
 have hcb := (HB2.out.cell (p := ⟨b, 0, none⟩) hlt).trans hb
 clear hb2 hb H3 HRD HZ HA HF
 cases o
 ·obtain rfl : E = none := by rw [HEE.out]; rfl
  go_upto_region 6 with fail
  repeat (first
   | (refine wpList_load_row rfl 123 (.tmp 12) rfl (w.heap.size + 2) rfl HZW.out Tryz.underlying123 rfl HZI.out ?_)
   | (refine wpList_store_row rfl 123 (.tmp 12) (.tmp 56) rfl (w.heap.size + 2) rfl rfl HZW.out HZI.out rfl HZ1.out ?_)
   | go_values | go_skip | go_guarded | go_step | go_upon)
  rw [setRow_self _ _ _ _ _ HZW.out]
  refine bodyPost_ret (results_cell2 Tryz.results146 rfl (loadVar_row_ HZW.out Tryz.underlying123 rfl HZI.out)) rfl ⟨⟨⟨some ⟨w.heap.size + 3, 0, none⟩, 1, 1⟩, by rw [HZC.out]; rfl, ?_⟩, ?_⟩
  ·exact (HRD2.out.mono (by omega) (Nat.le_refl _))
  ·exact HB2.out
 by_cases hv : 0 ≤ v
 case neg =>
  obtain rfl : E = none := by rw [HEE.out, if_neg (by simpa using hv)]
  go_upto_region 6 with fail
  repeat (first
   | (refine wpList_load_row rfl 123 (.tmp 12) rfl (w.heap.size + 2) rfl HZW.out Tryz.underlying123 rfl HZI.out ?_)
   | (refine wpList_store_row rfl 123 (.tmp 12) (.tmp 56) rfl (w.heap.size + 2) rfl rfl HZW.out HZI.out rfl HZ1.out ?_)
   | go_values | go_skip | go_guarded | go_step | go_upon)
  rw [setRow_self _ _ _ _ _ HZW.out]
  refine bodyPost_ret (results_cell2 Tryz.results146 rfl (loadVar_row_ HZW.out Tryz.underlying123 rfl HZI.out)) rfl ⟨⟨⟨some ⟨w.heap.size + 3, 0, none⟩, 1, 1⟩, by rw [HZC.out]; rfl, ?_⟩, ?_⟩
  ·exact (HRD2.out.mono (by omega) (Nat.le_refl _))
  ·exact HB2.out
 obtain ⟨k, rfl⟩ : ∃ k : Nat, v = k := ⟨v.toNat, by omega⟩
 by_cases hk : k < cs.length
 case neg =>
  obtain rfl : E = none := by rw [HEE.out, if_pos (by simp), List.getElem?_eq_none (by simp; omega)]; rfl
  go_upto_region 6 with fail
  repeat (first
   | (refine wpList_load_row rfl 123 (.tmp 12) rfl (w.heap.size + 2) rfl HZW.out Tryz.underlying123 rfl HZI.out ?_)
   | (refine wpList_store_row rfl 123 (.tmp 12) (.tmp 56) rfl (w.heap.size + 2) rfl rfl HZW.out HZI.out rfl HZ1.out ?_)
   | go_values | go_skip | go_guarded | go_step | go_upon)
  rw [setRow_self _ _ _ _ _ HZW.out]
  refine bodyPost_ret (results_cell2 Tryz.results146 rfl (loadVar_row_ HZW.out Tryz.underlying123 rfl HZI.out)) rfl ⟨⟨⟨some ⟨w.heap.size + 3, 0, none⟩, 1, 1⟩, by rw [HZC.out]; rfl, ?_⟩, ?_⟩
  ·exact (HRD2.out.mono (by omega) (Nat.le_refl _))
  ·exact HB2.out
 obtain ⟨bb, off, x, rfl, hbl, hxk, hc⟩ := HL2.out.at_ hk
 have HXK := Lib.hid hxk
 have HFX : Hid (Cr.Few x) := Lib.hid (HFW.out x (List.mem_of_getElem? hxk))
 have HXM : Hid (Cr.Ok w2 P x) := Lib.hid ((HO.out x (List.mem_of_getElem? hxk)).step HB2.out)
 have HE3 : Hid (E = if (x.number == num) && goodC x then some x else none) := Lib.hid (by
  rw [HEE.out, if_pos (by simp), Int.toNat_natCast, HXK.out]
  rfl)
 obtain ⟨gg, hgg⟩ : ∃ gg, gg = ((x.number == num) && goodC x) := ⟨_, rfl⟩
 rw [← hgg] at HE3
 have HV := Lib.hid (bkCourse1_any x b num _ HXM.out hcb (HKA.out.step HB2.out) HFX.out)
 rw [← hgg] at HV
 have HRNG : Hid (∀ W, Below w2.heap.size w2 W → W.rangeAt bb (off + k * 16) x.enc) := Lib.hid (fun W hW j v hj => (hW.cell (p := ⟨bb, off + k * 16 + j, none⟩) (by show bb < _; have := HB2.out.size; omega)).trans (hc j v hj))
 have HXI : Hid ((Tryz.prog.info? 123).map (·.size) = some x.enc.length) := Lib.hid (infoCr_ (some x))
 have HX1 : Hid (x.enc.toArray.all (·.oneCell') = true) := Lib.hid (crC_one (some x))
 have HXL : Hid (zc.size = x.enc.toArray.size) := Lib.hid (by rw [HZ2.out]; rfl)
 have HB2e := HB2.out.size
 simp only [Cr.v] at HV
 have q0 := hc 0 _ rfl
 have q1 := hc 1 _ rfl
 have q2 := hc 2 _ rfl
 have q3 := hc 3 _ rfl
 have q4 := hc 4 _ rfl
 have q5 := hc 5 _ rfl
 have q6 := hc 6 _ rfl
 have q7 := hc 7 _ rfl
 have q8 := hc 8 _ rfl
 have q9 := hc 9 _ rfl
 have q10 := hc 10 _ rfl
 have q11 := hc 11 _ rfl
 have q12 := hc 12 _ rfl
 have q13 := hc 13 _ rfl
 have q14 := hc 14 _ rfl
 have q15 := hc 15 _ rfl
 simp only [Nat.add_zero] at q0
 obtain ⟨xe, hxe⟩ : ∃ xe, xe = x.enc := ⟨_, rfl⟩
 rw [← hxe] at HRNG HXI HX1 HXL
 have HXE := Lib.hid hxe
 clear hgg hc hxk hxe
 go_wp2_with fail
 refine HV.out.mono ?_
 rintro e w3 ⟨rfl, hb3⟩
 have HB3 := Lib.hid (HB2.out.trans (hb3.mono HB2.out.size))
 have HRD3 := Lib.hid (HRD2.out.step hb3)
 have HZ3 := Lib.hid ((hb3.block _ (Array.getElem?_eq_some_iff.1 HZW.out).1).trans HZW.out)
 have HRN3 := Lib.hid (HRNG.out _ hb3)
 clear hb3 q0 q1 q2 q3 q4 q5 q6 q7 q8 q9 q10 q11 q12 q13 q14 q15
 cases gg
 ·obtain rfl : E = none := by rw [HE3.out]; rfl
  go_upto_region 6 with fail
  repeat (first
   | (refine wpList_load_row rfl 123 (.tmp 12) rfl (w.heap.size + 2) rfl HZ3.out Tryz.underlying123 rfl HZI.out ?_)
   | (refine wpList_store_row rfl 123 (.tmp 12) (.tmp 56) rfl (w.heap.size + 2) rfl rfl HZ3.out HZI.out rfl HZ1.out ?_)
   | go_values | go_skip | go_guarded | go_step | go_upon)
  rw [setRow_self _ _ _ _ _ HZ3.out]
  refine bodyPost_ret (results_cell2 Tryz.results146 rfl (loadVar_row_ HZ3.out Tryz.underlying123 rfl HZI.out)) rfl ⟨⟨⟨some ⟨w.heap.size + 3, 0, none⟩, 1, 1⟩, by rw [HZC.out]; rfl, ?_⟩, ?_⟩
  ·exact (HRD3.out.mono (by omega) (Nat.le_refl _))
  ·exact HB3.out
 obtain rfl : E = some x := by rw [HE3.out]; rfl
 go_upto_region 7 with fail
 repeat (first
  | (refine wpList_load_mid rfl 123 (.tmp 60) rfl bb (off + k * 16) rfl xe _ HRN3.out Tryz.underlying123 rfl HXI.out ?_)
  | (refine wpList_store_row rfl 123 (.tmp 12) (.tmp 61) rfl (w.heap.size + 2) rfl rfl HZ3.out (by simpa using HXI.out) HXL.out HX1.out ?_)
  | go_values | go_skip | go_guarded | go_step | go_upon)
 refine bodyPost_ret (results_cell2 Tryz.results146 rfl (loadVar_row_ (setRow_at HZ3.out) Tryz.underlying123 rfl (by simpa using HXI.out))) rfl ⟨⟨⟨some ⟨w.heap.size + 3, 0, none⟩, 1, 1⟩, by rw [HXE.out]; rfl, ?_⟩, ?_⟩
 ·exact (HRD3.out.setRow (by omega)).mono (by omega) (Nat.le_refl _)
 ·exact below_setRow HB3.out (by omega) _
set_option maxRecDepth 100000 in
set_option maxHeartbeats 1000000 in
theorem bkCourse_any {P : Nat → Prop} (d : Wd) (num term known : Int) (w : World) (h : d.Ok w P) (hf : d.fs.length ≤ 100000) (hk : KindsAt w) (hfw : ∀ x ∈ d.cs, Cr.Few x) :
 Calls Tryz.prog 112 #[d.v, .int .i64 num, .int .i64 term, .int .i64 known] w fun e w' =>
  (∃ s : Sl, e = .returned (.tuple #[.agg (crC (courF d num term known)).toArray, .slice s.a s.n s.c, .bool (courF d num term known).isSome]) ∧ RdS w' w.heap.size 1 s) ∧ Below w.heap.size w w' := by
 obtain ⟨zc, hzc⟩ : ∃ zc : Array Value, zc = (crC none).toArray := ⟨_, rfl⟩
 have HZ2 : Hid (zc.size = 16) := Lib.hid (by rw [hzc]; rfl)
 have H3 : Hid (Below w.heap.size w (((w.alloc (.cells d.enc.toArray 29)).alloc (.cells #[.int .i64 num] 3)).alloc (.cells #[.string ⟨#[]⟩, .int .i64 0, .int .i64 0, .int .i64 0, .int .i64 0, .int .i64 0, .string ⟨#[]⟩, .int .i64 0, .int .i64 0, .slice none 0 0, .int .i64 0, .int .i64 0, .string ⟨#[]⟩, .int .i64 0, .int .i64 0, .slice none 0 0] 123))) := Lib.hid (by go_grown)
 have HZ : Hid ((((w.alloc (.cells d.enc.toArray 29)).alloc (.cells #[.int .i64 num] 3)).alloc (.cells #[.string ⟨#[]⟩, .int .i64 0, .int .i64 0, .int .i64 0, .int .i64 0, .int .i64 0, .string ⟨#[]⟩, .int .i64 0, .int .i64 0, .slice none 0 0, .int .i64 0, .int .i64 0, .string ⟨#[]⟩, .int .i64 0, .int .i64 0, .slice none 0 0] 123)).heap[w.heap.size + 2]? = some (.cells zc 123 (0, 0))) := Lib.hid (by rw [hzc]; exact new_at _ _ _ (by simp))
 have HC := Lib.hid (bkCourseL_any d (w.heap.size + 1) num term known _ (h.step H3.out) (by simp [go_sem]) hf (hk.step H3.out) hfw)
 clear h hk hfw hzc
 obtain ⟨E, hE⟩ : ∃ E, E = courF d num term known := ⟨_, rfl⟩
 rw [← hE] at HC ⊢
 clear hE
 obtain ⟨ec, hec⟩ : ∃ ec : Array Value, ec = (crC E).toArray := ⟨_, rfl⟩
 have HXI : Hid ((Tryz.prog.info? 123).map (·.size) = some ec.size) := Lib.hid (by rw [hec]; exact infoCr_ E)
 have HX1 : Hid (ec.all (·.oneCell') = true) := Lib.hid (by rw [hec]; exact crC_one E)
 have HXL : Hid (zc.size = ec.size) := Lib.hid (by rw [HZ2.out, hec]; simp [crC_len])
 rw [← hec] at HC ⊢
 clear hec
 obtain ⟨⟨A1, n1, c1⟩, ⟨A2, n2, c2⟩, ⟨A3, n3, c3⟩, ⟨A4, n4, c4⟩, cs, ps, fs⟩ := d
 simp only [Wd.v, Wd.enc] at *
 go_enter Tryz.func112, Tryz.ntmps112
 go_wp2_with fail
 refine HC.out.mono ?_
 rintro e w1 ⟨⟨s, rfl, hs⟩, hb1⟩
 have HB2 := Lib.hid (H3.out.trans (hb1.mono H3.out.size))
 have HRD2 := Lib.hid hs
 have HZ3 := Lib.hid ((hb1.block _ (Array.getElem?_eq_some_iff.1 HZ.out).1).trans HZ.out)
 clear hs hb1
 dsimp only
 repeat (first
  | (refine wpList_store_row rfl 123 (.tmp 8) (.tmp 23) rfl (w.heap.size + 2) rfl rfl HZ3.out HXI.out HXL.out HX1.out ?_)
  | go_values | go_skip | go_guarded | go_step | go_upon)
 refine bodyPost_ret (results_cell2 Tryz.results112 rfl (loadVar_row_ (setRow_at HZ3.out) Tryz.underlying123 rfl HXI.out)) rfl ⟨⟨s, rfl, ?_⟩, ?_⟩
 ·exact ((by simpa using HRD2.out : RdS w1 (w.heap.size + 3) 1 s).setRow (by omega)).mono (by omega) (Nat.le_refl _)
 ·exact below_setRow HB2.out (by omega) _
end Go.Proofs.YtalmbigebjbaoaaGreatDoor
