/- TopDegree, the second form, tied: for every input of bulk at most 1048576, where the package variable rules.kinds reads as the text of the program lays it, the law returns true, and each argument reads afterwards as it read before. -/
import Derived.Test.YtalmbigebjbaoaaGreatDoorM28
import Derived.ProofKit
import Derived.LaidMore
import Derived.LaidHandle
import Derived.OpenShut
import Derived.Test.YtalmbigebjbaoaaGreatDoorM50
import Derived.Test.YtalmbigebjbaoaaGreatDoorM49
import Derived.Test.YtalmbigebjbaoaaGreatDoorM01
import Derived.Test.YtalmbigebjbaoaaGreatDoorCards
import Derived.Test.YtalmbigebjbaoaaGreatDoorTie
import Derived.LaidLaws
import Derived.Deep.DeepHandedRow
import Derived.Deep.DeepWitnessRowRef
import Derived.SevenTiedAt
namespace Go.Proofs.YtalmbigebjbaoaaGreatDoor
open Go.RowKit Go.WideShapes Go.ChangeShapes Go.ChangeAt
set_option linter.unusedSimpArgs false
set_option linter.unusedVariables false
set_option maxRecDepth 100000
theorem Tryz.cells_KB : Tryz.prog.cellsOf 4 = 1 := by kernel_rfl
theorem Tryz.cells_KF : Tryz.prog.cellsOf 118 = 1 := by kernel_rfl
theorem Tryz.cells_KG : Tryz.prog.cellsOf 267 = 1 := by kernel_rfl
theorem Tryz.cells_KK : Tryz.prog.cellsOf 269 = 6 := by kernel_rfl
theorem Tryz.tKinds : (Tryz.prog.globals[0]?).map (·.type) = some 270 := by kernel_rfl
theorem kind_row {W : World} {fuel : Nat} {cs : List Value} {x : DataW (List UInt8) × List MemPlace} (h : DataW.trod (funcToken Tryz.prog) Tryz.prog W 0 (fun _ => true) true fuel 269 cs = some x) {b0 b1 b2 b3 : Bool} {n m : UInt8} {ns ms : List UInt8} {f g : FuncId}
 (hx : x.1 = .agg [.lit (.bool b0), .lit (.bool b1), .lit (.bool b2), .lit (.bool b3), .held (n :: ns), .held (m :: ms)])
 (h1 : ((List.range Tryz.prog.funcs.size).filter fun f => (Tryz.prog.funcs[f]?).any (·.name.toUTF8.data.toList == n :: ns)) = [f])
 (h2 : ((List.range Tryz.prog.funcs.size).filter fun f => (Tryz.prog.funcs[f]?).any (·.name.toUTF8.data.toList == m :: ms)) = [g]) :
 cs = [.bool b0, .bool b1, .bool b2, .bool b3, .func (.func f) #[] #[], .func (.func g) #[] #[]] := by
 obtain ⟨xs, nn, _, hxx, hl, hxl, hf⟩ := DataW.trod_struct Tryz.underlying269 h
 rw [Tryz.cells_KK] at hl
 obtain ⟨c0, c1, c2, c3, c4, c5, rfl⟩ : ∃ c0 c1 c2 c3 c4 c5, cs = [c0, c1, c2, c3, c4, c5] := by
  match cs, hl with
  | [c0, c1, c2, c3, c4, c5], _ => exact ⟨c0, c1, c2, c3, c4, c5, rfl⟩
 have f0 := hf 0 _ rfl
 have f1 := hf 1 _ rfl
 have f2 := hf 2 _ rfl
 have f3 := hf 3 _ rfl
 have f4 := hf 4 _ rfl
 have f5 := hf 5 _ rfl
 simp at hxl
 simp [Tryz.cells_KB, Tryz.cells_KF, Tryz.cells_KG] at f0 f1 f2 f3 f4 f5
 match xs, hxl with
 | [y0, y1, y2, y3, y4, y5], _ =>
   rw [hxx] at hx
   simp only [List.map_cons, List.map_nil, DataW.agg.injEq, List.cons.injEq, and_true] at hx
   obtain ⟨e0, e1, e2, e3, e4, e5⟩ := hx
   simp at f0 f1 f2 f3 f4 f5
   obtain ⟨a0, g0, k0⟩ := DataW.trod_bool Tryz.underlying4 f0
   obtain ⟨a1, g1, k1⟩ := DataW.trod_bool Tryz.underlying4 f1
   obtain ⟨a2, g2, k2⟩ := DataW.trod_bool Tryz.underlying4 f2
   obtain ⟨a3, g3, k3⟩ := DataW.trod_bool Tryz.underlying4 f3
   rw [k0] at e0
   rw [k1] at e1
   rw [k2] at e2
   rw [k3] at e3
   simp only [DataW.lit.injEq, Lit.bool.injEq] at e0 e1 e2 e3
   simp only [List.cons.injEq, and_true] at g0 g1 g2 g3
   subst e0 e1 e2 e3 g0 g1 g2 g3
   obtain ⟨y4a, y4b⟩ := y4
   obtain ⟨y5a, y5b⟩ := y5
   simp only at e4 e5
   subst e4 e5
   have r4 := func_of_trod (f0 := f) Tryz.underlying118 h1 f4
   have r5 := func_of_trod (f0 := g) Tryz.underlying267 h2 f5
   rw [r4, r5]
theorem kinds_of_laid {W : World} {d : DataW Unit} {l : List (String × DataW Unit)} {nm : String} (gK : Tryz.prog.globalNamed nm = some 0) (h : laidMetH Tryz.prog l W) (hm : (nm, DataW.iface "func table" d) ∈ l)
 (hdd : d.funcsOut = .agg [.agg [.lit (.bool false), .lit (.bool false), .lit (.bool false), .lit (.bool false), .nil, .nil], .agg [.lit (.bool false), .lit (.bool false), .lit (.bool false), .lit (.bool true), .held [115, 105, 122, 97, 114, 47, 114, 117, 108, 101, 115, 46, 107, 105, 110, 100, 115, 36, 49], .held [115, 105, 122, 97, 114, 47, 114, 117, 108, 101, 115, 46, 107, 105, 110, 100, 115, 36, 50]], .agg [.lit (.bool false), .lit (.bool false), .lit (.bool false), .lit (.bool true), .held [115, 105, 122, 97, 114, 47, 114, 117, 108, 101, 115, 46, 107, 105, 110, 100, 115, 36, 51], .held [115, 105, 122, 97, 114, 47, 114, 117, 108, 101, 115, 46, 107, 105, 110, 100, 115, 36, 52]], .agg [.lit (.bool false), .lit (.bool true), .lit (.bool false), .lit (.bool true), .held [115, 105, 122, 97, 114, 47, 114, 117, 108, 101, 115, 46, 107, 105, 110, 100, 115, 36, 53], .held [115, 105, 122, 97, 114, 47, 114, 117, 108, 101, 115, 46, 107, 105, 110, 100, 115, 36, 54]], .agg [.lit (.bool false), .lit (.bool false), .lit (.bool false), .lit (.bool true), .held [115, 105, 122, 97, 114, 47, 114, 117, 108, 101, 115, 46, 107, 105, 110, 100, 115, 36, 55], .held [115, 105, 122, 97, 114, 47, 114, 117, 108, 101, 115, 46, 107, 105, 110, 100, 115, 36, 56]], .agg [.lit (.bool true), .lit (.bool true), .lit (.bool false), .lit (.bool false), .held [115, 105, 122, 97, 114, 47, 114, 117, 108, 101, 115, 46, 107, 105, 110, 100, 115, 36, 57], .held [115, 105, 122, 97, 114, 47, 114, 117, 108, 101, 115, 46, 107, 105, 110, 100, 115, 36, 49, 48]], .agg [.lit (.bool true), .lit (.bool true), .lit (.bool false), .lit (.bool false), .held [115, 105, 122, 97, 114, 47, 114, 117, 108, 101, 115, 46, 107, 105, 110, 100, 115, 36, 49, 49], .held [115, 105, 122, 97, 114, 47, 114, 117, 108, 101, 115, 46, 107, 105, 110, 100, 115, 36, 49, 50]], .agg [.lit (.bool false), .lit (.bool true), .lit (.bool false), .lit (.bool false), .held [115, 105, 122, 97, 114, 47, 114, 117, 108, 101, 115, 46, 107, 105, 110, 100, 115, 36, 49, 51], .held [115, 105, 122, 97, 114, 47, 114, 117, 108, 101, 115, 46, 107, 105, 110, 100, 115, 36, 49, 52]], .agg [.lit (.bool false), .lit (.bool true), .lit (.bool true), .lit (.bool false), .held [115, 105, 122, 97, 114, 47, 114, 117, 108, 101, 115, 46, 107, 105, 110, 100, 115, 36, 49, 53], .held [115, 105, 122, 97, 114, 47, 114, 117, 108, 101, 115, 46, 107, 105, 110, 100, 115, 36, 49, 54]], .agg [.lit (.bool true), .lit (.bool false), .lit (.bool false), .lit (.bool false), .held [115, 105, 122, 97, 114, 47, 114, 117, 108, 101, 115, 46, 99, 111, 117, 114, 115, 101], .held [115, 105, 122, 97, 114, 47, 114, 117, 108, 101, 115, 46, 107, 105, 110, 100, 115, 36, 49, 55]]]) : KindsAt W := by
 obtain ⟨g, t, cs, fuel, p, hg, ht, hv, hd⟩ := h.funcs hm
 obtain rfl := Option.some.inj (gK.symm.trans hg)
 obtain rfl := Option.some.inj (Tryz.tKinds.symm.trans ht)
 rw [hdd] at hd
 obtain ⟨xs, m, _, hx, hl, hxl, hf⟩ := DataW.trod_array Tryz.underlying270 hd
 rw [Tryz.cells_KK] at hf
 have hx1 := congrArg Prod.fst hx
 simp only [DataW.agg.injEq] at hx1
 have row : ∀ (i : Nat) (y : DataW (List UInt8)), i < 10 → (xs.map (·.1))[i]? = some y → ∃ z, DataW.trod (funcToken Tryz.prog) Tryz.prog W 0 (fun _ => true) true m 269 ((cs.toList.drop (i * 6)).take 6) = some z ∧ z.1 = y := fun i y hi hy => by
  rw [List.getElem?_map] at hy
  obtain ⟨z, hz, hzy⟩ := Option.map_eq_some_iff.1 hy
  exact ⟨z, by rw [hf i hi]; exact hz, hzy⟩
 rw [← hx1] at row
 have fin : ∀ (i : Nat) (r : List Value), (cs.toList.drop (i * 6)).take 6 = r → ∀ (j : Nat) (v : Value), r[j]? = some v → W.cell? ⟨0, i * 6 + j, none⟩ = some v := fun i r hr j v hj => by
  rw [World.var?_cell hg hv]
  rw [← hr] at hj
  rw [List.getElem?_take] at hj
  split at hj
  ·rw [List.getElem?_drop] at hj
   rw [← hj, Array.getElem?_toList]
  ·cases hj
 intro i j v hv2
 match i with
 | 0 => simp [kindC] at hv2
 | 1 =>
   obtain ⟨z, hz, hz1⟩ := row 1 _ (by decide) rfl
   exact fin 1 _ (kind_row hz hz1 (f := 196) (g := 197) (by kernel_rfl) (by kernel_rfl)) j v hv2
 | 2 =>
   obtain ⟨z, hz, hz1⟩ := row 2 _ (by decide) rfl
   exact fin 2 _ (kind_row hz hz1 (f := 198) (g := 199) (by kernel_rfl) (by kernel_rfl)) j v hv2
 | 3 =>
   obtain ⟨z, hz, hz1⟩ := row 3 _ (by decide) rfl
   exact fin 3 _ (kind_row hz hz1 (f := 200) (g := 201) (by kernel_rfl) (by kernel_rfl)) j v hv2
 | 4 =>
   obtain ⟨z, hz, hz1⟩ := row 4 _ (by decide) rfl
   exact fin 4 _ (kind_row hz hz1 (f := 202) (g := 203) (by kernel_rfl) (by kernel_rfl)) j v hv2
 | 5 =>
   obtain ⟨z, hz, hz1⟩ := row 5 _ (by decide) rfl
   exact fin 5 _ (kind_row hz hz1 (f := 204) (g := 206) (by kernel_rfl) (by kernel_rfl)) j v hv2
 | 6 =>
   obtain ⟨z, hz, hz1⟩ := row 6 _ (by decide) rfl
   exact fin 6 _ (kind_row hz hz1 (f := 208) (g := 209) (by kernel_rfl) (by kernel_rfl)) j v hv2
 | 7 =>
   obtain ⟨z, hz, hz1⟩ := row 7 _ (by decide) rfl
   exact fin 7 _ (kind_row hz hz1 (f := 210) (g := 211) (by kernel_rfl) (by kernel_rfl)) j v hv2
 | 8 =>
   obtain ⟨z, hz, hz1⟩ := row 8 _ (by decide) rfl
   exact fin 8 _ (kind_row hz hz1 (f := 212) (g := 214) (by kernel_rfl) (by kernel_rfl)) j v hv2
 | 9 =>
   obtain ⟨z, hz, hz1⟩ := row 9 _ (by decide) rfl
   exact fin 9 _ (kind_row hz hz1 (f := 205) (g := 215) (by kernel_rfl) (by kernel_rfl)) j v hv2
 | n + 10 => simp [kindC] at hv2
end Go.Proofs.YtalmbigebjbaoaaGreatDoor
namespace Go.Proofs.YtalmbigebjbaoaaGreatDoor.topDegree
open Go.ChangeShapes Go.WideShapes Go.ChangeAt Go.RowKit Go.Joins
set_option linter.unusedVariables false
theorem own : ownKnob Tryz.prog.godebug = none := by kernel_rfl
theorem laid : laidOutB Tryz.prog = true := by kernel_rfl
set_option maxRecDepth 100000 in
theorem contract (H : Type) (enc : TypeId × Value → H) (W : World) (base : Nat) (args : Array Value) (ds gs : List (DataW H)) (before : List MemPlace)
 (hval0 : ∀ (j : Nat) t v, Tryz.f3.params[j]? = some t → args[j]? = some v → Value.okWide Tryz.prog W .any base t v)
 (hW : DataW.Whole enc Tryz.prog Tryz.f3.params.toList Rows.topDegreeSpec.vars false W args.toList ds gs before) (hk : Rows.uptoSmall H (ds ++ gs) = true) (hL : laidMetH Tryz.prog Rows.topDegreeUptoRow.laid W) :
 Calls Tryz.prog 3 args W fun e W' => ∃ v, e = .returned v ∧ Rows.topDegreeSpec.post enc Tryz.prog Tryz.f3 false true false false W args v W' := by
 have hval : ∀ (j : Nat) t v, Tryz.f3.params[j]? = some t → args[j]? = some v → Value.okWide Tryz.prog W .any base t v := hval0
 have hW0 := hW
 obtain ⟨p, q, hA0, hV, rfl, hfz, hnd⟩ := hW
 have hA : DataW.TrodAll enc Tryz.prog W 0 (fun _ => true) true Tryz.f3.params.toList args.toList ds p := hA0
 rw [Tryz.params3] at hA hval
 obtain ⟨v0, vs0, d0, ds0, p0, q0, hargs, rfl, rfl, h0, r0⟩ := trodAll_cons hA
 obtain ⟨v1, vs1, d1, ds1, p1, q1, rfl, rfl, rfl, h1, r1⟩ := trodAll_cons r0
 obtain ⟨v2, vs2, d2, ds2, p2, q2, rfl, rfl, rfl, h2, r2⟩ := trodAll_cons r1
 obtain ⟨v3, vs3, d3, ds3, p3, q3, rfl, rfl, rfl, h3, r3⟩ := trodAll_cons r2
 obtain ⟨v4, vs4, d4, ds4, p4, q4, rfl, rfl, rfl, h4, r4⟩ := trodAll_cons r3
 obtain ⟨v5, vs5, d5, ds5, p5, q5, rfl, rfl, rfl, h5, r5⟩ := trodAll_cons r4
 obtain ⟨v6, vs6, d6, ds6, p6, q6, rfl, rfl, rfl, h6, r6⟩ := trodAll_cons r5
 obtain ⟨rfl, rfl, rfl⟩ := trodAll_nil r6
 obtain rfl : args = #[v0, v1, v2, v3, v4, v5, v6] := by cases args; simp_all
 obtain ⟨rfl, rfl⟩ := trodVars_none hV
 have hB : Rows.uptoBulkAll ([d0, d1, d2, d3, d4, d5, d6] ++ []) ≤ 1048576 := of_decide_eq_true hk
 obtain ⟨x0, rfl, hq0, hps, hv⟩ := openV_Wd (N := 1048576) (hval 0 _ v0 rfl rfl) h0 (Nat.le_trans (bulk_part (.head _)) hB)
 obtain ⟨a1, rfl, rfl, rfl, w1⟩ := open_int Tryz.underlying3 (hval 1 3 v1 rfl rfl) h1
 obtain ⟨a2, rfl, rfl, rfl, w2⟩ := open_int Tryz.underlying3 (hval 2 3 v2 rfl rfl) h2
 obtain ⟨a3, rfl, rfl, rfl, w3⟩ := open_int Tryz.underlying3 (hval 3 3 v3 rfl rfl) h3
 obtain ⟨a4, rfl, rfl, rfl, w4⟩ := open_int Tryz.underlying3 (hval 4 3 v4 rfl rfl) h4
 obtain ⟨a6, rfl, rfl, rfl, w6⟩ := open_int Tryz.underlying3 (hval 6 3 v6 rfl rfl) h6
 obtain ⟨al5, ll5, cl5, e5⟩ := okWide_slice Tryz.underlying30 (hval 5 30 v5 rfl rfl)
 obtain ⟨A5, c5, xs5, rfl, hlc5, hm5, hx5, hq5, hnil5⟩ := open_reads (en := Us.enc) (Q := Us.ok) Tryz.underlying30 (Tryz.cells_Us) (by omega) (fun _ _ _ h => openE_Us h) ⟨al5, ll5, cl5, e5⟩ h5
 have hki : KindsAt W := kinds_of_laid (by kernel_rfl) hL (.head _) rfl
 clear hA0 hval0 hk hB
 refine (TopDegree_any (w := W) x0 (hq0.small (fun b hb => hb)) hps hv hki a1 a2 a3 a4 xs5 A5 c5 hx5 a6).mono fun e W' ⟨he, hb⟩ => ?_
 subst he
 exact ⟨_, rfl, law_post laid (bt := 4) Tryz.underlying4 rfl (by rw [Tryz.params3]; intro t ht; simp at ht; rcases ht with rfl | rfl | rfl | rfl | rfl | rfl | rfl <;> exact ⟨by kernel_rfl, by decide +kernel⟩) rfl hW0 rfl rfl rfl hb⟩
theorem door_met (os : Os) : laidMetH Tryz.prog Rows.topDegreeUptoRow.laid ((World.doorLaid Tryz.prog 23 os).forCall (fun _ _ => 0) ⟨#[], #[zero_Wd, .int .i64 0, .int .i64 0, .int .i64 0, .int .i64 0, .slice none 0 0, .int .i64 0], []⟩).memory :=
 laidMetH_of_parts3 (fuel := 8) (laidMet_of_run' 8 (by kernel_rfl) (by kernel_rfl)) (by kernel_rfl) (by kernel_rfl)
theorem reads (os : Os) {H : Type} (enc : TypeId × Value → H) : ∃ places, DataW.whole enc Tryz.prog ((World.doorLaid Tryz.prog 23 os).forCall (fun _ _ => 0) ⟨#[], #[zero_Wd, .int .i64 0, .int .i64 0, .int .i64 0, .int .i64 0, .slice none 0 0, .int .i64 0], []⟩).memory Tryz.f3.params.toList Rows.topDegreeSpec.vars false (#[zero_Wd, .int .i64 0, .int .i64 0, .int .i64 0, .int .i64 0, .slice none 0 0, .int .i64 0] : Array Value).toList 20 = some ([.agg [.agg [.nil, .nil, .nil], .nil], .lit (.int .i64 0), .lit (.int .i64 0), .lit (.int .i64 0), .lit (.int .i64 0), .nil, .lit (.int .i64 0)], [], places) :=
 ⟨[], by kernel_rfl⟩
set_option maxRecDepth 100000 in
theorem lifted (os : Os) (started : os.Started) (H : Type) (enc : TypeId × Value → H) (F : Stop.Interp) :
 ReturnsInHanded {} Tryz.checked os 3 .any ((Rows.OpenSpec.upto Rows.topDegreeSpec).preRow enc Tryz.prog Tryz.f3 Rows.topDegreeUptoRow.domain false Rows.topDegreeUptoRow.laid) (((Rows.OpenSpec.upto Rows.topDegreeSpec).at F).post enc Tryz.prog Tryz.f3 false true false false) := by
 obtain ⟨places, hx⟩ := reads os enc
 refine returnsInHanded_of_row (C := Tryz.checked) (s := Rows.OpenSpec.upto Rows.topDegreeSpec) own started (by kernel_rfl) Tryz.func3
  (witness_row_atRef (enc := enc) (C := Tryz.checked) false (World.doorLaid Tryz.prog 23 os) #[zero_Wd, .int .i64 0, .int .i64 0, .int .i64 0, .int .i64 0, .slice none 0 0, .int .i64 0] rfl (by kernel_rfl) (by kernel_rfl) (by kernel_rfl)
    (OpenSpec.preRow_of_cond 20 hx (by kernel_rfl) (fun k hk => by cases hk; kernel_rfl) (by kernel_rfl) (door_met os))) ?_
 intro W base args ds gs before hval hW _ hk _ hL _ _
 exact contract H enc W base args ds gs before hval hW (hk _ rfl) hL
theorem over : Rows.TopDegreeUptoSaid :=
 OpenClaim.holds_of_cond 3 Tryz.f3 rfl rfl rfl rfl rfl rfl rfl ⟨rfl, rfl, rfl, rfl, rfl⟩ rfl rfl rfl rfl rfl (by kernel_rfl) Tryz.func3 (by kernel_rfl)
  (of_decide_eq_true (by kernel_rfl)) (by unfold Func.isWrapper; first | (rw [if_pos (by decide +kernel)]; kernel_rfl) | (rw [if_neg (by decide +kernel)]; exact ⟨rfl, rfl⟩))
  (fun os started H enc _ F => by rw [OpenClaim.pre_eq_preRow]; exact lifted os started H enc F)
theorem plain (f : FuncId) (fn : Func) (hf : Tryz.pinned.checked.prog.funcNamed Rows.topDegreeUptoRow.func = some f) (hfn : Tryz.pinned.checked.prog.funcs[f]? = some fn) :
 true = Tryz.pinned.checked.prog.looks [] ∧ ∀ (j : Nat) t, fn.params[j]? = some t → Tryz.pinned.checked.prog.wantsStandIn t = false := by
 obtain rfl : f = 3 := Option.some.inj ((show Tryz.prog.funcNamed Rows.topDegreeUptoRow.func = some 3 by kernel_rfl).symm.trans hf) |>.symm
 obtain rfl : fn = Tryz.f3 := (Option.some.inj (Tryz.func3.symm.trans hfn)).symm
 refine ⟨by kernel_rfl, fun j t ht => ?_⟩
 rw [Tryz.params3] at ht
 have hall : ((#[29, 3, 3, 3, 3, 30, 3] : Array TypeId).toList.all fun u => !Tryz.prog.wantsStandIn u) = true := by kernel_rfl
 have h := List.all_eq_true.1 hall t (Array.mem_toList_iff.2 (Array.mem_of_getElem? ht))
 exact (show Tryz.prog.wantsStandIn t = false by simpa using h)
theorem proved : Rows.TopDegreeUptoCardSaid :=
 Claim7.holds_tied_plain_at .later [] _ _ _ _ over (fun _ h => by cases h) (by kernel_rfl) (fun _ h => by cases h) topDegreeUpto_row_tie rfl ⟨rfl, rfl⟩ (by kernel_rfl) rfl plain (by kernel_rfl)
end Go.Proofs.YtalmbigebjbaoaaGreatDoor.topDegree
