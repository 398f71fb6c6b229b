/- TopDegree, what its proof leans on: the texts TpC. -/
import Derived.Test.YtalmbigebjbaoaaGreatDoorM40
import Derived.Deep.CutRange
import Derived.Deep.QuietTactic
namespace Go.Proofs.YtalmbigebjbaoaaGreatDoor
open Go.RowKit Go.Shelf
set_option linter.unusedSimpArgs false
set_option linter.unusedVariables false
attribute [local go_sem] Oper.semAt_some
def ofB (student term : Int) : Bool := inB student 0 19999 && inB term 0 1024
def ofR (d : Wd) (student term known : Int) : List At := if ofB student term then recF d student term known else []
theorem Lk.new {n₀ : Nat} {d : Wd} {W : World} (known : Int) (h : d.Ok W (fun k => k < n₀)) (hk : KindsAt W) (h0 : 0 < n₀) (h1 : n₀ ≤ W.heap.size) {W3 : World} (hb : Below W.heap.size W W3) {b : Nat} (hz : W.heap.size ≤ b) (hx : Bx W3 b (lkC d known (.slice none 0 0))) : Lk n₀ b (b + 1) d known 0 (.slice none 0 0) W3 :=
 ⟨hx, ⟨[], Owns.nil_ _ _ _ _ _, Nat.le_refl _⟩, h.step hb, hk.step hb, h0, by omega, by omega⟩
set_option maxRecDepth 100000 in
set_option maxHeartbeats 8000000 in
theorem rcOf_any {n₀ : Nat} (d : Wd) (student term known : Int) (W : World) (hd : d.Ok W (fun k => k < n₀)) (hki : KindsAt W) (h0 : 0 < n₀) (hn : n₀ ≤ W.heap.size) (hf : d.fs.length ≤ 100000) (hfw : ∀ x ∈ d.cs, Cr.Few x) (hv : ∀ f ∈ d.fs, f.val ≤ 9223372036854775807) :
 Calls Tryz.prog 8 #[d.v, .int .i64 student, .int .i64 term, .int .i64 known] W fun e w' =>
  ∃ (s : Sl) (v' : Value), e = .returned (.tuple #[.agg #[.int .i64 (if ofB student term then student else 0), .slice s.a s.n s.c], v', .int .i64 (if ofB student term then 0 else 150)]) ∧ Owns w' W.heap.size 69 5 At.enc (.slice s.a s.n s.c) (ofR d student term known) ∧ (∃ rs : List Rd, Owns w' W.heap.size 130 5 Rd.enc v' rs ∧ rs.length ≤ 300000000) ∧ Below W.heap.size W w' := by
 obtain ⟨E1, h1⟩ : ∃ E : Int, E = if ofB student term then student else 0 := ⟨_, rfl⟩
 obtain ⟨E2, h2⟩ : ∃ E : Int, E = if ofB student term then 0 else 150 := ⟨_, rfl⟩
 obtain ⟨ER, h3⟩ : ∃ E, E = ofR d student term known := ⟨_, rfl⟩
 rw [← h1, ← h2, ← h3]
 have HE1 := Lib.hid h1
 have HE2 := Lib.hid h2
 have HE3 := Lib.hid h3
 obtain ⟨W3, hW3⟩ : ∃ X, X = ((W.alloc (.cells #[.slice d.c.a d.c.n d.c.c, .slice d.p.a d.p.n d.p.c, .slice d.y.a d.y.n d.y.c, .slice d.f.a d.f.n d.f.c] 29)).alloc (.cells #[.int .i64 0, .slice none 0 0] 49)).alloc (.cells #[.slice none 0 0, .slice d.c.a d.c.n d.c.c, .slice d.p.a d.p.n d.p.c, .slice d.y.a d.y.n d.y.c, .slice d.f.a d.f.n d.f.c, .int .i64 known] 91) := ⟨_, rfl⟩
 have hb3 : Below W.heap.size W W3 := by rw [hW3]; exact (((Below.refl _ _).alloc (Nat.le_refl _) _).alloc (by simp) _).alloc (by simp; omega) _
 obtain ⟨q, hq⟩ : ∃ q, q = W.heap.size + 1 + 1 := ⟨_, rfl⟩
 have hx3 : Bx W3 q (lkC d known (.slice none 0 0)) := by
  rw [hW3, hq]
  exact Bx.at_ _ (lkC d known (.slice none 0 0)) _ _ (by simp)
 have hx2 : Bx W3 (W.heap.size + 1) [.int .i64 0, .slice none 0 0] := by
  rw [hW3]
  exact (Bx.at_ _ [.int .i64 0, .slice none 0 0] _ _ (by simp)).alloc _
 have HL := Lib.hid (Lk.new known hd hki h0 hn hb3 (b := q) (by omega) hx3)
 have HX2 := Lib.hid hx2
 have HB3 := Lib.hid hb3
 have HQ := Lib.hid hq
 unfold Wd.v
 clear hd hki h1 h2 h3 hx3 hx2 hb3
 cases t0 : inB student 0 19999
 ·have T0 := Lib.hid t0
  have HF : Hid (ofB student term = false) := Lib.hid (by unfold ofB; rw [t0]; rfl)
  clear t0
  go_enter Tryz.func8, Tryz.ntmps8
  go_wp2_with fail
  refine (rcWithin_any _ _ _ _).mono ?_
  rw [T0.out]
  rintro e w1 ⟨rfl, rfl⟩
  go_wp2_with fail
  refine bodyPost_ret (v := .tuple #[.agg #[.int .i64 0, .slice none 0 0], .slice none 0 0, .int .i64 150]) (by simp [results, Tryz.results8, go_sem]) rfl ⟨⟨none, 0, 0⟩, .slice none 0 0, ?_, ?_, ⟨[], Owns.nil_ _ _ _ _ _, by simp⟩, ((Below.refl _ _).alloc (Nat.le_refl _) _).alloc (by simp) _⟩
  ·rw [HE1.out, HE2.out, HF.out]; rfl
  ·rw [HE3.out]; unfold ofR; rw [HF.out]; exact Owns.nil_ _ _ _ _ _
 have T0 := Lib.hid t0
 cases t1 : inB term 0 1024
 ·have T1 := Lib.hid t1
  have HF : Hid (ofB student term = false) := Lib.hid (by unfold ofB; rw [t0, t1]; rfl)
  clear t0 t1
  go_enter Tryz.func8, Tryz.ntmps8
  go_wp2_with fail
  refine (rcWithin_any _ _ _ _).mono ?_
  rw [T0.out]
  rintro e w1 ⟨rfl, rfl⟩
  go_wp2_with fail
  refine (rcWithin_any _ _ _ _).mono ?_
  rw [T1.out]
  rintro e w1 ⟨rfl, rfl⟩
  go_wp2_with fail
  refine bodyPost_ret (v := .tuple #[.agg #[.int .i64 0, .slice none 0 0], .slice none 0 0, .int .i64 150]) (by simp [results, Tryz.results8, go_sem]) rfl ⟨⟨none, 0, 0⟩, .slice none 0 0, ?_, ?_, ⟨[], Owns.nil_ _ _ _ _ _, by simp⟩, ((Below.refl _ _).alloc (Nat.le_refl _) _).alloc (by simp) _⟩
  ·rw [HE1.out, HE2.out, HF.out]; rfl
  ·rw [HE3.out]; unfold ofR; rw [HF.out]; exact Owns.nil_ _ _ _ _ _
 have T1 := Lib.hid t1
 have HF : Hid (ofB student term = true) := Lib.hid (by unfold ofB; rw [t0, t1]; rfl)
 clear t0 t1
 go_enter Tryz.func8, Tryz.ntmps8
 go_wp2_with fail
 refine (rcWithin_any _ _ _ _).mono ?_
 rw [T0.out]
 rintro e w1 ⟨rfl, rfl⟩
 go_wp2_with fail
 refine (rcWithin_any _ _ _ _).mono ?_
 rw [T1.out]
 rintro e w1 ⟨rfl, rfl⟩
 go_wp2_with fail
 rw [← hW3, ← hq]
 clear hW3 hq
 refine (lkOf_any student term W3 HL.out hf hfw hv (by omega) (by have := HL.out.bx.2.2; omega)).mono ?_
 rintro e w4 ⟨s, v4, rfl, hs, hk4, hf4⟩
 have hx4 : Bx w4 (W.heap.size + 1) [.int .i64 0, .slice none 0 0] := HX2.out.keep (P := fun y => y = W.heap.size + 1) (hf4.kp (fun k e => ⟨by have := HQ.out; omega, by simp [Value.ownBlock]⟩)) rfl
 obtain ⟨sA, sn, sc⟩ := s
 simp only at hs
 obtain ⟨W5, hW5⟩ : ∃ X, X = (w4.setCell ⟨W.heap.size + 1, 0, none⟩ (.int .i64 student)).setCell ⟨W.heap.size + 1, 1, none⟩ (.slice sA sn sc) := ⟨_, rfl⟩
 have hx5 : Bx W5 (W.heap.size + 1) [.int .i64 student, .slice sA sn sc] := by rw [hW5]; exact (hx4.setAt (i := 0) (by simp) (.int .i64 student)).setAt (i := 1) (by simp) (.slice sA sn sc)
 have HX5 := Lib.hid hx5
 have hfar : ∀ k, k ≠ W.heap.size + 1 → W5.heap[k]? = w4.heap[k]? := fun k hk => by
  rw [hW5, Below.heap_setCell _ _ _ _ (by first | exact hk | exact hk.symm), Below.heap_setCell _ _ _ _ (by first | exact hk | exact hk.symm)]
 have HFAR := Lib.hid hfar
 have HSZ5 : Hid (W5.heap.size = w4.heap.size ∧ W5.os = w4.os ∧ W5.tape = w4.tape ∧ W5.output = w4.output) := Lib.hid (by rw [hW5]; exact ⟨by simp [World.setCell], rfl, rfl, rfl⟩)
 obtain ⟨x0, x1, x2⟩ := hx4
 have c0 := x0 0 _ rfl
 have c1 := x0 1 _ rfl
 have f0 := x1 0
 have f1 := x1 1
 have c3 := hk4.bx.1 0 _ rfl
 have hne : W.heap.size + 1 ≠ q := by have := HQ.out; omega
 have HS := Lib.hid hs
 have HK4 := Lib.hid hk4
 have HF4 := Lib.hid hf4
 clear x0 x1 hs hk4 hf4 hx5 hfar
 go_upto_region 5 with fail
 rw [← hW5]
 obtain ⟨y0, y1, y2⟩ := HX5.out
 have e0 := y0 0 _ rfl
 have e1 := y0 1 _ rfl
 have g0 := y1 0
 have g1 := y1 1
 have e3 : W5.cell? ⟨q, 0, none⟩ = some v4 := (World.cell?_of_block (a := ⟨q, 0, none⟩) (HFAR.out q (fun e => hne e.symm))).trans c3
 clear hW5 y0 y1 c0 c1 c3 f0 f1 x2
 go_region
 go_wp2_with fail
 obtain ⟨W6, hW6⟩ : ∃ X, X = ((W5.setCell ⟨W.heap.size + 1, 0, none⟩ (.int .i64 student)).setCell ⟨W.heap.size + 1, 1, none⟩ (.slice sA sn sc)).drew := ⟨_, rfl⟩
 have hx6 : Bx W6 (W.heap.size + 1) [.int .i64 student, .slice sA sn sc] := by rw [hW6]; exact (HX5.out.setAt (i := 0) (by simp) (.int .i64 student)).setAt (i := 1) (by simp) (.slice sA sn sc)
 have hfar6 : ∀ k, k ≠ W.heap.size + 1 → W6.heap[k]? = w4.heap[k]? := fun k hk => by
  rw [hW6]
  exact ((Below.heap_setCell _ _ _ _ (by first | exact hk | exact hk.symm)).trans (Below.heap_setCell _ _ _ _ (by first | exact hk | exact hk.symm))).trans (HFAR.out k hk)
 have hsz6 : W6.heap.size = w4.heap.size ∧ W6.os = w4.os ∧ W6.tape = w4.tape ∧ W6.output = w4.output := by
  have h := HSZ5.out
  rw [hW6]
  exact ⟨by simp [World.setCell]; exact h.1, h.2⟩
 rw [← hW6]
 obtain ⟨z0, z1, z2⟩ := hx6
 have u0 := z0 0 _ rfl
 have u1 := z0 1 _ rfl
 have hq3 : q < W3.heap.size := HL.out.bx.2.2
 have hqq := HQ.out
 clear e0 e1 e3 g0 g1 z0 z1
 refine bodyPost_ret (v := .tuple #[.agg #[.int .i64 student, .slice sA sn sc], v4, .int .i64 0]) (by simp [results, Tryz.results8, go_sem, u0, u1, z2]) rfl ⟨⟨sA, sn, sc⟩, v4, ?_, ?_, ?_, ?_⟩
 ·rw [HE1.out, HE2.out, HF.out]; rfl
 ·rw [HE3.out]
  unfold ofR
  rw [HF.out]
  exact Owns.base (HS.out.same (fun k e => hfar6 k (by have := HS.out.base_le k e; omega))) (by omega)
 ·obtain ⟨rs, h, hl⟩ := HK4.out.ow
  exact ⟨rs, Owns.base (h.same (fun k e => hfar6 k (by have := h.base_le k e; omega))) (by omega), by omega⟩
 ·have hF := HF4.out
  have hB := HB3.out
  exact ⟨hsz6.2.1.trans (hF.os.trans hB.os), hsz6.2.2.1.trans (hF.tape.trans hB.tape), hsz6.2.2.2.trans (hF.output.trans hB.output), by rw [hsz6.1]; exact Nat.le_trans hB.size hF.size, fun k hk => (hfar6 k (by omega)).trans ((hF.block k (by omega) (by omega) (by simp [Value.ownBlock])).trans (hB.block k hk))⟩
def cntE (d : Wd) (student term known : Int) (l : List At) : List At × Int :=
 if recB student l && inB term 0 1023 then (if (countedA l (rulesF d term known l)).2 = 0 then countedA l (rulesF d term known l) else ([], (countedA l (rulesF d term known l)).2)) else ([], 150)
set_option maxRecDepth 100000 in
set_option maxHeartbeats 8000000 in
theorem rcCounted_any {n₀ : Nat} (d : Wd) (student : Int) (l : List At) (A : Option Addr) (c : Nat) (term known : Int) (W : World) (hd : d.Ok W (fun k => k < n₀)) (hki : KindsAt W) (h0 : 0 < n₀) (hn : n₀ ≤ W.heap.size) (hx : Reads W W.heap.size A 5 At.enc l) (hl : l.length ≤ 100000) (hf : d.fs.length ≤ 100000) (hfw : ∀ x ∈ d.cs, Cr.Few x) :
 Calls Tryz.prog 9 #[d.v, .agg #[.int .i64 student, .slice A l.length c], .int .i64 term, .int .i64 known] W fun e w' =>
  ∃ (u v' : Value), e = .returned (.tuple #[u, v', .int .i64 (cntE d student term known l).2]) ∧ Owns w' W.heap.size 69 5 At.enc u (cntE d student term known l).1 ∧ (∃ rs : List Rd, Owns w' W.heap.size 130 5 Rd.enc v' rs ∧ rs.length ≤ 300000000) ∧ Below W.heap.size W w' := by
 have HD := Lib.hid hd
 have HKI := Lib.hid hki
 have HX := Lib.hid hx
 obtain ⟨E, hE⟩ : ∃ E, E = cntE d student term known l := ⟨_, rfl⟩
 rw [← hE]
 have HE := Lib.hid hE
 obtain ⟨W1, hW1⟩ : ∃ X, X = (W.alloc (.cells #[.slice d.c.a d.c.n d.c.c, .slice d.p.a d.p.n d.p.c, .slice d.y.a d.y.n d.y.c, .slice d.f.a d.f.n d.f.c] 29)).alloc (.cells #[.int .i64 student, .slice A l.length c] 49) := ⟨_, rfl⟩
 have hb1 : Below W.heap.size W W1 := by rw [hW1]; exact ((Below.refl _ _).alloc (Nat.le_refl _) _).alloc (by simp) _
 have hx0 : Bx W1 W.heap.size [.slice d.c.a d.c.n d.c.c, .slice d.p.a d.p.n d.p.c, .slice d.y.a d.y.n d.y.c, .slice d.f.a d.f.n d.f.c] := by rw [hW1]; exact (Bx.new W [.slice d.c.a d.c.n d.c.c, .slice d.p.a d.p.n d.p.c, .slice d.y.a d.y.n d.y.c, .slice d.f.a d.f.n d.f.c] _).alloc _
 have hx1 : Bx W1 (W.heap.size + 1) [.int .i64 student, .slice A l.length c] := by rw [hW1]; exact Bx.at_ _ [.int .i64 student, .slice A l.length c] _ _ (by simp)
 have HX0 := Lib.hid hx0
 have HX1 := Lib.hid hx1
 have HB1 := Lib.hid hb1
 have HCK := Lib.hid (rcCheck_any student l A c W1 ((hx.below hb1).more hb1.size) (by omega))
 unfold Wd.v
 obtain ⟨x0, x1, x2⟩ := hx1
 have c0 := x0 0 _ rfl
 have c1 := x0 1 _ rfl
 clear hd hki hx hE hx0 hb1 x0 x1
 cases t0 : recB student l
 ·have HF : Hid (E = ([], 150)) := Lib.hid (by rw [HE.out]; unfold cntE; rw [t0]; rfl)
  rw [t0] at HCK
  clear t0
  go_enter Tryz.func9, Tryz.ntmps9
  go_wp2_with fail
  rw [← hW1]
  clear hW1
  go_wp2_with fail
  refine HCK.out.mono ?_
  rintro e w1 ⟨rfl, hb⟩
  have HB := Lib.hid (HB1.out.trans (hb.mono HB1.out.size))
  clear hb
  go_wp2_with fail
  go_ret3
  exact ⟨.slice none 0 0, .slice none 0 0, by rw [HF.out]; rfl, by rw [HF.out]; exact Owns.nil_ _ _ _ _ _, ⟨[], Owns.nil_ _ _ _ _ _, by simp⟩, HB.out⟩
 rw [t0] at HCK
 cases t1 : inB term 0 1023
 ·have HF : Hid (E = ([], 150)) := Lib.hid (by rw [HE.out]; unfold cntE; rw [t0, t1]; rfl)
  have T1 := Lib.hid t1
  clear t0 t1
  go_enter Tryz.func9, Tryz.ntmps9
  go_wp2_with fail
  rw [← hW1]
  clear hW1
  go_wp2_with fail
  refine HCK.out.mono ?_
  rintro e w1 ⟨rfl, hb⟩
  have HB := Lib.hid (HB1.out.trans (hb.mono HB1.out.size))
  clear hb
  go_wp2_with fail
  refine (rcWithin_any _ _ _ _).mono ?_
  rw [T1.out]
  rintro e w1 ⟨rfl, rfl⟩
  go_wp2_with fail
  go_ret3
  exact ⟨.slice none 0 0, .slice none 0 0, by rw [HF.out]; rfl, by rw [HF.out]; exact Owns.nil_ _ _ _ _ _, ⟨[], Owns.nil_ _ _ _ _ _, by simp⟩, HB.out⟩
 have T1 := Lib.hid t1
 obtain ⟨ls, z, hlz⟩ : ∃ ls z, (ls, z) = countedA l (rulesF d term known l) := ⟨_, _, rfl⟩
 have HF : Hid (E = if z = 0 then (ls, z) else ([], z)) := Lib.hid (by rw [HE.out]; unfold cntE; rw [t0, t1, ← hlz]; rfl)
 have HLZ := Lib.hid hlz
 clear t0 t1 hlz
 go_enter Tryz.func9, Tryz.ntmps9
 go_wp2_with fail
 rw [← hW1]
 clear hW1
 go_wp2_with fail
 refine HCK.out.mono ?_
 rintro e w1 ⟨rfl, hb⟩
 have HB := Lib.hid (HB1.out.trans (hb.mono HB1.out.size))
 have hx0 := HX0.out.step hb
 have HX1' := Lib.hid (HX1.out.step hb)
 obtain ⟨y0, y1, y2⟩ := hx0
 have e0 := y0 0 _ rfl
 have e1 := y0 1 _ rfl
 have e2 := y0 2 _ rfl
 have e3 := y0 3 _ rfl
 clear hb c0 c1 y0 y1 x2
 go_wp2_with fail
 refine (rcWithin_any _ _ _ _).mono ?_
 rw [T1.out]
 rintro e w1 ⟨rfl, rfl⟩
 obtain ⟨W3, hW3⟩ : ∃ X, X = w1.alloc (.cells #[.slice none 0 0, .slice d.c.a d.c.n d.c.c, .slice d.p.a d.p.n d.p.c, .slice d.y.a d.y.n d.y.c, .slice d.f.a d.f.n d.f.c, .int .i64 known] 91) := ⟨_, rfl⟩
 have hb3 : Below w1.heap.size w1 W3 := by rw [hW3]; exact (Below.refl _ _).alloc (Nat.le_refl _) _
 have HB3 : Hid (Below W.heap.size W W3) := Lib.hid (HB.out.trans (hb3.mono HB.out.size))
 obtain ⟨q, hq⟩ : ∃ q, q = w1.heap.size := ⟨_, rfl⟩
 have hx3 : Bx W3 q (lkC d known (.slice none 0 0)) := by
  rw [hW3, hq]
  exact Bx.new w1 (lkC d known (.slice none 0 0)) _
 have hqW : W.heap.size ≤ q := by rw [hq]; exact HB.out.size
 have HL := Lib.hid (Lk.new known HD.out HKI.out h0 hn HB3.out (b := q) hqW hx3)
 have HX3 : Hid (Reads W3 q A 5 At.enc l) := Lib.hid ((HX.out.below HB3.out).more hqW)
 have hX1 := HX1'.out.step hb3
 obtain ⟨x0, x1, x2⟩ := hX1
 have c0 := x0 0 _ rfl
 have c1 := x0 1 _ rfl
 have hq3 : q < W3.heap.size := HL.out.bx.2.2
 have HC := lkCounted_any l A c term W3 HL.out HX3.out hl hf hfw (by omega) hq3
 rw [← HLZ.out] at HC
 have HC2 := Lib.hid HC
 clear hx3 hb3 x0 x1 HC
 go_upto_region 4 with fail
 rw [← hW3, ← hq]
 clear hW3 hq
 go_wp2_with fail
 refine HC2.out.mono ?_
 rintro e w5 ⟨u, v5, rfl, hu, hk5, hf5⟩
 have HU := Lib.hid hu
 have HK5 := Lib.hid hk5
 have HF5 := Lib.hid hf5
 have HBE : Hid (Below W.heap.size W w5) := Lib.hid (HB3.out.trans (hf5.below hqW (fun k e => by simp [Value.ownBlock] at e) (by omega)))
 have c3 := hk5.bx.1 0 _ rfl
 clear hu hk5 hf5 c0 c1
 by_cases hz : z = 0
 ·subst hz
  have HG : Hid (E = (ls, 0)) := Lib.hid (by rw [HF.out, if_pos rfl])
  clear HC2
  go_wp2_with fail
  go_quiet (fail)
  go_wp2_with fail
  go_ret3
  exact ⟨u, v5, by rw [HG.out]; rfl, by rw [HG.out]; exact Owns.base HU.out (by omega), by obtain ⟨rs, o, hl⟩ := HK5.out.ow; exact ⟨rs, Owns.base o (by omega), by omega⟩, HBE.out.trans ⟨rfl, rfl, rfl, Nat.le_refl _, fun _ _ => rfl⟩⟩
 ·have hz2 : (z == 0) = false := by simpa using hz
  have HG : Hid (E = ([], z)) := Lib.hid (by rw [HF.out, if_neg hz])
  clear HC2
  go_wp2_with fail
  go_ret3
  exact ⟨.slice none 0 0, .slice none 0 0, by rw [HG.out]; rfl, by rw [HG.out]; exact Owns.nil_ _ _ _ _ _, ⟨[], Owns.nil_ _ _ _ _ _, by simp⟩, HBE.out⟩
end Go.Proofs.YtalmbigebjbaoaaGreatDoor
