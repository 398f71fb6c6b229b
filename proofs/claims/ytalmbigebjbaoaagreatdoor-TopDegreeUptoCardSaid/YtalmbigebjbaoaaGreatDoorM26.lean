/- TopDegree, what its proof leans on: the texts TopD, TopE, TopF. -/
import Derived.Test.YtalmbigebjbaoaaGreatDoorM25
namespace Go.Proofs.YtalmbigebjbaoaaGreatDoor
open Go.RowKit Go.Shelf
set_option linter.unusedSimpArgs false
set_option linter.unusedVariables false
set_option maxRecDepth 100000 in
set_option maxHeartbeats 4000000 in
theorem bkProg_any {P : Nat → Prop} (p : Pg) (s : Sl) (w : World) (hr : Rqs w P s p.reqs) (hi : p.mean.i64) :
 Calls Tryz.prog 29 #[pgV p s] w fun e w' => e = .returned (.bool (goodP p)) ∧ Below w.heap.size w w' := by
 have hn := hr.len
 have HR := Lib.hid hr
 have HC := Lib.hid (fun W => bkMean_any p.mean hi W)
 have HQ := Lib.hid (fun W (h : Below w.heap.size w W) => bkAllQ_any p.reqs s W (hr.step h))
 obtain ⟨A, n, c⟩ := s
 simp only at hn
 subst hn
 clear hr hi
 obtain ⟨E, hE⟩ : ∃ E, E = goodP p := ⟨_, rfl⟩
 have hE2 : goodP p = (inB p.number 0 255 && (inB p.uses 1 4 && (inB p.earn 0 10000 && (meanB p.mean && (decide (p.reqs.length ≤ 64) && !(p.reqs.any (fun q => !goodQ q))))))) := by unfold goodP meanB; simp only [Bool.and_assoc]
 rw [← hE]
 rw [hE2] at hE
 clear hE2
 have HE := Lib.hid hE
 clear hE
 have HX0 := Lib.hid (Bx.new w (pgC p ⟨A, p.reqs.length, c⟩) 44)
 have HB0 : Hid (Below w.heap.size w (w.alloc (.cells (pgC p ⟨A, p.reqs.length, c⟩).toArray 44))) := Lib.hid ((Below.refl _ _).alloc (Nat.le_refl _) _)
 unfold pgV
 simp only at HQ ⊢
 go_enter Tryz.func29, Tryz.ntmps29
 go_wp2_with fail
 refine (bkIn_any _ _ _ _).mono ?_
 obtain ⟨t1, ht1⟩ : ∃ b, b = inB p.number 0 255 := ⟨_, rfl⟩
 rw [← ht1]
 have Ht1 := Lib.hid ht1
 clear ht1
 rintro e w1 ⟨rfl, rfl⟩
 cases t1
 ·have HF : Hid (E = false) := Lib.hid (by rw [HE.out, ← Ht1.out]; simp)
  go_wp2_with fail
  go_ret
  exact ⟨by rw [HF.out]; rfl, HB0.out⟩
 go_wp2_with fail
 refine (bkIn_any _ _ _ _).mono ?_
 obtain ⟨t2, ht2⟩ : ∃ b, b = inB p.uses 1 4 := ⟨_, rfl⟩
 rw [← ht2]
 have Ht2 := Lib.hid ht2
 clear ht2
 rintro e w1 ⟨rfl, rfl⟩
 cases t2
 ·have HF : Hid (E = false) := Lib.hid (by rw [HE.out, ← Ht2.out]; simp)
  go_wp2_with fail
  go_ret
  exact ⟨by rw [HF.out]; rfl, HB0.out⟩
 go_wp2_with fail
 refine (bkIn_any _ _ _ _).mono ?_
 obtain ⟨t3, ht3⟩ : ∃ b, b = inB p.earn 0 10000 := ⟨_, rfl⟩
 rw [← ht3]
 have Ht3 := Lib.hid ht3
 clear ht3
 rintro e w1 ⟨rfl, rfl⟩
 cases t3
 ·have HF : Hid (E = false) := Lib.hid (by rw [HE.out, ← Ht3.out]; simp)
  go_wp2_with fail
  go_ret
  exact ⟨by rw [HF.out]; rfl, HB0.out⟩
 go_wp2_with fail
 refine (HC.out _).mono ?_
 obtain ⟨t4, ht4⟩ : ∃ b, b = meanB p.mean := ⟨_, rfl⟩
 rw [← ht4]
 have Ht4 := Lib.hid ht4
 clear ht4
 rintro e w2 ⟨rfl, hb2⟩
 have HX2 := Lib.hid (HX0.out.step hb2)
 have HB2 := Lib.hid (HB0.out.trans (hb2.mono HB0.out.size))
 clear hb2
 obtain ⟨x0, x1, x2⟩ := HX2.out
 have p6 := x0 6 _ rfl
 cases t4
 ·have HF : Hid (E = false) := Lib.hid (by rw [HE.out, ← Ht4.out]; simp)
  go_wp2_with fail
  go_ret
  exact ⟨by rw [HF.out]; rfl, HB2.out⟩
 cases t5 : decide (p.reqs.length ≤ 64)
 ·have t5i : decide ((p.reqs.length : Int) ≤ 64) = false := by simp at t5 ⊢; omega
  have HF : Hid (E = false) := Lib.hid (by rw [HE.out, t5]; simp)
  go_wp2_with fail
  go_ret
  exact ⟨by rw [HF.out]; rfl, HB2.out⟩
 have t5i : decide ((p.reqs.length : Int) ≤ 64) = true := by simp at t5 ⊢; omega
 have HF : Hid (E = !(p.reqs.any (fun q => !goodQ q))) := Lib.hid (by rw [HE.out, ← Ht1.out, ← Ht2.out, ← Ht3.out, ← Ht4.out, t5]; simp)
 go_wp2_with fail
 refine (HQ.out _ HB2.out).mono ?_
 rw [← HF.out]
 rintro e w3 ⟨rfl, hb3⟩
 have HB3 := Lib.hid (HB2.out.trans (hb3.mono HB2.out.size))
 clear hb3
 go_wp2_with fail
 go_ret
 exact ⟨rfl, HB3.out⟩
theorem cell_in {w : World} {b o : Nat} {v : Value} (h : w.cell? ⟨b, o, none⟩ = some v) : b < w.heap.size := by
 rcases Nat.lt_or_ge b w.heap.size with h1 | h1
 ·exact h1
 ·simp [World.cell?, Array.getElem?_eq_none h1] at h
inductive RT where
 | mk (op course : Int) (nm : ByteArray) (n d : Int) (kids : List RT) (s : Sl)
instance : Inhabited RT := ⟨.mk 0 0 ⟨#[]⟩ 0 0 [] ⟨none, 0, 0⟩⟩
def RT.op : RT → Int | .mk a _ _ _ _ _ _ => a
def RT.course : RT → Int | .mk _ a _ _ _ _ _ => a
def RT.nm : RT → ByteArray | .mk _ _ a _ _ _ _ => a
def RT.n : RT → Int | .mk _ _ _ a _ _ _ => a
def RT.d : RT → Int | .mk _ _ _ _ a _ _ => a
def RT.kids : RT → List RT | .mk _ _ _ _ _ a _ => a
def RT.s : RT → Sl | .mk _ _ _ _ _ _ a => a
def RT.enc : RT → List Value
 | .mk op course nm n d _ s => [.int .i64 op, .int .i64 course, .string nm, .int .i64 n, .int .i64 d, .slice s.a s.n s.c]
def RT.v : RT → Value
 | .mk op course nm n d _ s => .agg #[.int .i64 op, .int .i64 course, .string nm, .int .i64 n, .int .i64 d, .slice s.a s.n s.c]
inductive RT.Ok (w : World) (P : Nat → Prop) : RT → Prop
 | mk {op course : Int} {nm : ByteArray} {n d : Int} {kids : List RT} {s : Sl} : (⟨n, d⟩ : Ra).i64 → SlR w P 6 RT.enc s kids → (∀ k ∈ kids, RT.Ok w P k) → RT.Ok w P (.mk op course nm n d kids s)
theorem RT.Ok.keep {w w' : World} {P : Nat → Prop} {r : RT} (h : RT.Ok w P r) (hk : Kp P w w') : RT.Ok w' P r := by
 induction h with
 | mk hi hs _ ih => exact .mk hi (hs.keep hk) ih
theorem RT.Ok.step {w w' : World} {P : Nat → Prop} {r : RT} (h : RT.Ok w P r) (hb : Below w.heap.size w w') : RT.Ok w' P r := h.keep (Kp.of_below hb)
structure Cr where
 nm : ByteArray
 number : Int
 credits : Int
 again : Int
 need : RT
 bar : RT
 deriving Inhabited
def Cr.enc (x : Cr) : List Value := [.string x.nm, .int .i64 x.number, .int .i64 x.credits, .int .i64 x.again, .int .i64 x.need.op, .int .i64 x.need.course, .string x.need.nm, .int .i64 x.need.n, .int .i64 x.need.d, .slice x.need.s.a x.need.s.n x.need.s.c, .int .i64 x.bar.op, .int .i64 x.bar.course, .string x.bar.nm, .int .i64 x.bar.n, .int .i64 x.bar.d, .slice x.bar.s.a x.bar.s.n x.bar.s.c]
def Cr.v (x : Cr) : Value := .agg #[.string x.nm, .int .i64 x.number, .int .i64 x.credits, .int .i64 x.again, .int .i64 x.need.op, .int .i64 x.need.course, .string x.need.nm, .int .i64 x.need.n, .int .i64 x.need.d, .slice x.need.s.a x.need.s.n x.need.s.c, .int .i64 x.bar.op, .int .i64 x.bar.course, .string x.bar.nm, .int .i64 x.bar.n, .int .i64 x.bar.d, .slice x.bar.s.a x.bar.s.n x.bar.s.c]
def Cr.Ok (w : World) (P : Nat → Prop) (x : Cr) : Prop := x.need.Ok w P ∧ x.bar.Ok w P
theorem Cr.Ok.keep {w w' : World} {P : Nat → Prop} {x : Cr} (h : Cr.Ok w P x) (hk : Kp P w w') : Cr.Ok w' P x := ⟨h.1.keep hk, h.2.keep hk⟩
theorem Cr.Ok.step {w w' : World} {P : Nat → Prop} {x : Cr} (h : Cr.Ok w P x) (hb : Below w.heap.size w w') : Cr.Ok w' P x := h.keep (Kp.of_below hb)
structure Px where
 p : Pg
 s : Sl
instance : Inhabited Px := ⟨⟨⟨⟨#[]⟩, 0, 0, 0, ⟨0, 0⟩, []⟩, ⟨none, 0, 0⟩⟩⟩
def Px.enc (x : Px) : List Value := pgC x.p x.s
def Px.v (x : Px) : Value := pgV x.p x.s
def Px.Ok (w : World) (P : Nat → Prop) (x : Px) : Prop := Rqs w P x.s x.p.reqs ∧ x.p.mean.i64
theorem Px.Ok.keep {w w' : World} {P : Nat → Prop} {x : Px} (h : Px.Ok w P x) (hk : Kp P w w') : Px.Ok w' P x := ⟨h.1.keep hk, h.2⟩
theorem Px.Ok.step {w w' : World} {P : Nat → Prop} {x : Px} (h : Px.Ok w P x) (hb : Below w.heap.size w w') : Px.Ok w' P x := h.keep (Kp.of_below hb)
structure Wd where
 c : Sl
 p : Sl
 y : Sl
 f : Sl
 cs : List Cr
 ps : List Px
 fs : List Fc
def Wd.enc (d : Wd) : List Value := [.slice d.c.a d.c.n d.c.c, .slice d.p.a d.p.n d.p.c, .slice d.y.a d.y.n d.y.c, .slice d.f.a d.f.n d.f.c]
def Wd.v (d : Wd) : Value := .agg #[.slice d.c.a d.c.n d.c.c, .slice d.p.a d.p.n d.p.c, .slice d.y.a d.y.n d.y.c, .slice d.f.a d.f.n d.f.c]
structure Wd.Ok (w : World) (P : Nat → Prop) (d : Wd) : Prop where
 cs : SlR w P 16 Cr.enc d.c d.cs
 ps : SlR w P 7 Px.enc d.p d.ps
 fs : SlR w P 8 Fc.enc d.f d.fs
 co : ∀ x ∈ d.cs, Cr.Ok w P x
 po : ∀ x ∈ d.ps, Px.Ok w P x
theorem Wd.Ok.keep {w w' : World} {P : Nat → Prop} {d : Wd} (h : Wd.Ok w P d) (hk : Kp P w w') : Wd.Ok w' P d :=
 ⟨h.cs.keep hk, h.ps.keep hk, h.fs.keep hk, fun x m => (h.co x m).keep hk, fun x m => (h.po x m).keep hk⟩
theorem Wd.Ok.step {w w' : World} {P : Nat → Prop} {d : Wd} (h : Wd.Ok w P d) (hb : Below w.heap.size w w') : Wd.Ok w' P d := h.keep (Kp.of_below hb)
structure Rd where
 kind : Int
 subj : Int
 obj : Int
 frm : Int
 till : Int
 deriving Inhabited
def Rd.enc (r : Rd) : List Value := [.int .i64 r.kind, .int .i64 r.subj, .int .i64 r.obj, .int .i64 r.frm, .int .i64 r.till]
theorem Rd.enc_len (r : Rd) : r.enc.length = 5 := rfl
def RdS (w : World) (base m : Nat) (s : Sl) : Prop := ∃ xs : List Rd, SlR w (fun b => base ≤ b) 5 Rd.enc s xs ∧ xs.length ≤ m
theorem RdS.nil_ (w : World) (base m : Nat) : RdS w base m ⟨none, 0, 0⟩ := ⟨[], SlR.nil_ _ _ _ _, Nat.zero_le _⟩
theorem RdS.step {w w' : World} {base m : Nat} {s : Sl} (h : RdS w base m s) (hb : Below w.heap.size w w') : RdS w' base m s := by
 obtain ⟨xs, h1, h2⟩ := h
 exact ⟨xs, h1.step hb, h2⟩
theorem RdS.mono {w : World} {base base' m m' : Nat} {s : Sl} (h : RdS w base m s) (hb : base' ≤ base) (hm : m ≤ m') : RdS w base' m' s := by
 obtain ⟨xs, h1, h2⟩ := h
 exact ⟨xs, h1.mono (fun b hb' => Nat.le_trans hb hb'), Nat.le_trans h2 hm⟩
theorem RdS.set {w : World} {base m : Nat} {s : Sl} (h : RdS w base m s) {a : Addr} {v : Value} (ha : a.block < base) : RdS (w.setCell a v) base m s := by
 obtain ⟨xs, h1, h2⟩ := h
 exact ⟨xs, h1.keep ⟨by simp [World.setCell], fun b hb _ => Below.heap_setCell _ _ _ _ (by omega)⟩, h2⟩
theorem RdS.one (w : World) (r : Rd) (t : TypeId) (base : Nat) (hb : base ≤ w.heap.size) : RdS (w.alloc (.cells #[.int .i64 r.kind, .int .i64 r.subj, .int .i64 r.obj, .int .i64 r.frm, .int .i64 r.till] t)) base 1 ⟨some ⟨w.heap.size, 0, none⟩, 1, 1⟩ := by
 refine ⟨[r], ⟨rfl, Nat.le_refl _, by simp [maxLen], (fun h => by cases h), fun _ => ⟨w.heap.size, 0, rfl, by simp, fun i x j v hi hj => ?_⟩, fun _ a e => by cases e; exact hb⟩, by simp⟩
 cases i with
 | succ i => simp at hi
 | zero =>
   simp only [List.getElem?_cons_zero, Option.some.injEq] at hi
   subst hi
   simp only [Nat.zero_mul, Nat.zero_add]
   rw [← hj]
   unfold World.cell?
   simp only
   rw [World.alloc_heap_new]
   simp [Rd.enc]
def defAt {α : Type} (l : List α) (good : α → Bool) (fs : List Fc) (k : Ky) (term known : Int) : Option α :=
 if inB term 0 1023 then
  (if (atF fs k term known).2 && decide (0 ≤ (atF fs k term known).1) then (l[(atF fs k term known).1.toNat]?).filter good else none)
 else none
end Go.Proofs.YtalmbigebjbaoaaGreatDoor
namespace Go.Proofs.YtalmbigebjbaoaaGreatDoor
open Go.RowKit Go.Shelf
set_option linter.unusedSimpArgs false
set_option linter.unusedVariables false
attribute [local go_sem] Oper.semAt_some
set_option maxRecDepth 100000 in
set_option maxHeartbeats 400000 in
theorem bkProgramme1_any {P : Nat → Prop} (x : Px) (b : Nat) (num : Int) (w : World) (h : Px.Ok w P x) (hb : w.cell? ⟨b, 0, none⟩ = some (.int .i64 num)) :
 Calls Tryz.prog 28 #[x.v, .pointer (some ⟨b, 0, none⟩)] w fun e w' => e = .returned (.bool ((x.p.number == num) && goodP x.p)) ∧ Below w.heap.size w w' := by
 have hlt : b < w.heap.size := cell_in hb
 have HC := Lib.hid (fun W (h2 : Below w.heap.size w W) => bkProg_any x.p x.s W (h.1.step h2) h.2)
 have HB0 : Hid (Below w.heap.size w (w.alloc (.cells x.enc.toArray 44))) := Lib.hid ((Below.refl _ _).alloc (Nat.le_refl _) _)
 clear h
 obtain ⟨⟨x0, x1, x2, x3, ⟨x4, x5⟩, xr⟩, xs⟩ := x
 simp only [Px.v, pgV, Px.enc, pgC] at HC HB0 ⊢
 cases hn : x1 == num
 ·go_enter Tryz.func28, Tryz.ntmps28
  go_wp2_with fail
  go_ret
  exact ⟨rfl, HB0.out⟩
 ·go_enter Tryz.func28, Tryz.ntmps28
  go_wp2_with fail
  refine (HC.out _ HB0.out).mono ?_
  rintro e w1 ⟨rfl, hb1⟩
  have HB1 := Lib.hid (HB0.out.trans (hb1.mono HB0.out.size))
  clear hb1
  go_wp2_with fail
  go_ret
  exact ⟨by rw [Bool.true_and]; rfl, HB1.out⟩
def progF (d : Wd) (num term known : Int) : Option Px := defAt d.ps (fun x => (x.p.number == num) && goodP x.p) d.fs ⟨3, num, 0⟩ term known
set_option maxRecDepth 100000 in
set_option maxHeartbeats 1000000 in
theorem bkProgrammeL_any {P : Nat → Prop} (d : Wd) (b : Nat) (num term known : Int) (w : World) (h : d.Ok w P) (hb : w.cell? ⟨b, 0, none⟩ = some (.int .i64 num)) (hf : d.fs.length ≤ 100000) :
 Calls Tryz.prog 30 #[d.v, .slice d.p.a d.p.n d.p.c, .agg #[.int .i64 3, .int .i64 num, .int .i64 0], .int .i64 term, .int .i64 known, .func (.func 28) #[] #[.pointer (some ⟨b, 0, none⟩)]] w fun e w' =>
  (∃ s : Sl, e = .returned (.tuple #[(match progF d num term known with | some x => x.v | none => .agg #[.string ⟨#[]⟩, .int .i64 0, .int .i64 0, .int .i64 0, .int .i64 0, .int .i64 0, .slice none 0 0]), .slice s.a s.n s.c, .bool (progF d num term known).isSome]) ∧ RdS w' w.heap.size 1 s) ∧ Below w.heap.size w w' := by
 have hlt : b < w.heap.size := cell_in hb
 obtain ⟨⟨A1, n1, c1⟩, ⟨A2, n2, c2⟩, ⟨A3, n3, c3⟩, ⟨A4, n4, c4⟩, cs, ps, fs⟩ := d
 obtain ⟨E, hE⟩ : ∃ E, E = progF ⟨⟨A1, n1, c1⟩, ⟨A2, n2, c2⟩, ⟨A3, n3, c3⟩, ⟨A4, n4, c4⟩, cs, ps, fs⟩ num term known := ⟨_, rfl⟩
 have hl := h.ps
 have hfs := h.fs
 have hn1 := hl.1
 have hn2 := hfs.1
 simp only at hn1 hn2 hf
 subst hn1 hn2
 have HL := Lib.hid hl.reads
 have HF := Lib.hid hfs.reads
 have HO := Lib.hid h.po
 rw [← hE]
 have HE := Lib.hid hE
 clear hE h hl hfs
 simp only [Wd.v]
 cases t1 : inB term 0 1023
 ·have T1 := Lib.hid t1
  obtain rfl : E = none := by rw [HE.out]; unfold progF defAt; simp [t1]
  clear t1 HE
  go_enter Tryz.func30, Tryz.ntmps30
  go_wp2_with fail
  refine (bkIn_any _ _ _ _).mono ?_
  rw [T1.out]
  rintro e w1 ⟨rfl, rfl⟩
  go_wp2_with fail
  exact bodyPost_ret (v := .tuple #[.agg #[.string ⟨#[]⟩, .int .i64 0, .int .i64 0, .int .i64 0, .int .i64 0, .int .i64 0, .slice none 0 0], .slice none 0 0, .bool false]) (by simp [results, Tryz.results30, go_sem]) rfl ⟨⟨⟨none, 0, 0⟩, rfl, RdS.nil_ _ _ _⟩, by go_grown⟩
 have T1 := Lib.hid t1
 have htm : 0 ≤ term ∧ term ≤ 1023 := by simpa [inB] using t1
 obtain ⟨hb1, hb2⟩ := htm
 have hwr : wrap64 (term + 1) = term + 1 := IntWalk.wrap64_in _ ⟨by omega, by omega⟩
 obtain ⟨r, hr⟩ : ∃ r, r = atF fs ⟨3, num, 0⟩ term known := ⟨_, rfl⟩
 have HA := Lib.hid (fun W (h2 : Below w.heap.size w W) => At_any fs A4 c4 ⟨3, num, 0⟩ term known W ((HF.out.below h2).more h2.size) hf)
 simp only [← hr] at HA
 have HR := Lib.hid hr
 clear hr
 obtain ⟨v, o⟩ := r
 have HEE : Hid (E = if o && decide (0 ≤ v) then (ps[v.toNat]?).filter (fun x => (x.p.number == num) && goodP x.p) else none) := Lib.hid (by
  rw [HE.out]
  unfold progF defAt
  simp only [t1, ← HR.out, if_true])
 clear HE t1
 have hsz : fs.length ≤ 100000 := hf
 have H3 : Hid (Below w.heap.size w (((((w.alloc (.cells #[.slice A1 n1 c1, .slice A2 ps.length c2, .slice A3 n3 c3, .slice A4 fs.length c4] 29)).alloc (.cells #[.int .i64 3, .int .i64 num, .int .i64 0] 86)).alloc (.cells #[.string ⟨#[]⟩, .int .i64 0, .int .i64 0, .int .i64 0, .int .i64 0, .int .i64 0, .slice none 0 0] 44)).alloc (.cells #[.int .i64 3, .int .i64 num, .int .i64 0, .int .i64 term, .int .i64 (term + 1)] 130)))) := Lib.hid (by go_grown)
 have HRD : Hid (RdS (((((w.alloc (.cells #[.slice A1 n1 c1, .slice A2 ps.length c2, .slice A3 n3 c3, .slice A4 fs.length c4] 29)).alloc (.cells #[.int .i64 3, .int .i64 num, .int .i64 0] 86)).alloc (.cells #[.string ⟨#[]⟩, .int .i64 0, .int .i64 0, .int .i64 0, .int .i64 0, .int .i64 0, .slice none 0 0] 44)).alloc (.cells #[.int .i64 3, .int .i64 num, .int .i64 0, .int .i64 term, .int .i64 (term + 1)] 130))) (w.heap.size + 3) 1 ⟨some ⟨w.heap.size + 3, 0, none⟩, 1, 1⟩) := Lib.hid (by
  have h := RdS.one ((((w.alloc (.cells #[.slice A1 n1 c1, .slice A2 ps.length c2, .slice A3 n3 c3, .slice A4 fs.length c4] 29)).alloc (.cells #[.int .i64 3, .int .i64 num, .int .i64 0] 86)).alloc (.cells #[.string ⟨#[]⟩, .int .i64 0, .int .i64 0, .int .i64 0, .int .i64 0, .int .i64 0, .slice none 0 0] 44))) ⟨3, num, 0, term, term + 1⟩ 130 (w.heap.size + 3) (by simp)
  simpa using h)
 have HBX : Hid (Bx (((((w.alloc (.cells #[.slice A1 n1 c1, .slice A2 ps.length c2, .slice A3 n3 c3, .slice A4 fs.length c4] 29)).alloc (.cells #[.int .i64 3, .int .i64 num, .int .i64 0] 86)).alloc (.cells #[.string ⟨#[]⟩, .int .i64 0, .int .i64 0, .int .i64 0, .int .i64 0, .int .i64 0, .slice none 0 0] 44)).alloc (.cells #[.int .i64 3, .int .i64 num, .int .i64 0, .int .i64 term, .int .i64 (term + 1)] 130))) (w.heap.size + 2) [.string ⟨#[]⟩, .int .i64 0, .int .i64 0, .int .i64 0, .int .i64 0, .int .i64 0, .slice none 0 0]) := Lib.hid ((Bx.at_ ((w.alloc (.cells #[.slice A1 n1 c1, .slice A2 ps.length c2, .slice A3 n3 c3, .slice A4 fs.length c4] 29)).alloc (.cells #[.int .i64 3, .int .i64 num, .int .i64 0] 86)) [.string ⟨#[]⟩, .int .i64 0, .int .i64 0, .int .i64 0, .int .i64 0, .int .i64 0, .slice none 0 0] 44 (w.heap.size + 2) (by simp)).step ((Below.refl _ _).alloc (Nat.le_refl _) _))
 go_enter Tryz.func30, Tryz.ntmps30
 go_wp2_with fail
 refine (bkIn_any _ _ _ _).mono ?_
 rw [T1.out]
 rintro e w1 ⟨rfl, rfl⟩
 go_wp2_with fail
 refine (HA.out _ H3.out).mono ?_
 rintro e w2 ⟨rfl, hb2⟩
 have HB2 := Lib.hid (H3.out.trans (hb2.mono H3.out.size))
 have HRD2 := Lib.hid (HRD.out.step hb2)
 have HBX2 := Lib.hid (HBX.out.step hb2)
 have HL2 := Lib.hid ((HL.out.below HB2.out).more HB2.out.size)
 have hlt2 : b < w2.heap.size := by have := HB2.out.size; omega
 have hcb := (HB2.out.cell (p := ⟨b, 0, none⟩) hlt).trans hb
 clear hb2 hb H3 HRD HBX HA HF
 obtain ⟨x0, x1, x2⟩ := HBX2.out
 have p0 := x0 0 _ rfl
 have p1 := x0 1 _ rfl
 have p2 := x0 2 _ rfl
 have p3 := x0 3 _ rfl
 have p4 := x0 4 _ rfl
 have p5 := x0 5 _ rfl
 have p6 := x0 6 _ rfl
 clear x0
 cases o
 ·obtain rfl : E = none := by rw [HEE.out]; rfl
  go_wp2_with fail
  refine bodyPost_ret (v := .tuple #[.agg #[.string ⟨#[]⟩, .int .i64 0, .int .i64 0, .int .i64 0, .int .i64 0, .int .i64 0, .slice none 0 0], .slice (some ⟨w.heap.size + 3, 0, none⟩) 1 1, .bool false]) (by simp [results, Tryz.results30, go_sem, p0, p1, p2, p3, p4, p5, p6, x1, x2]) rfl ⟨⟨⟨some ⟨w.heap.size + 3, 0, none⟩, 1, 1⟩, rfl, ?_⟩, ?_⟩
  ·refine RdS.mono (base := w.heap.size + 3) (m := 1) ?_ (by omega) (Nat.le_refl _)
   repeat (refine RdS.set ?_ (by simp))
   exact HRD2.out
  ·repeat (refine Below.setCell ?_ (by simp; omega) _)
   exact HB2.out
 by_cases hv : 0 ≤ v
 case neg =>
  obtain rfl : E = none := by rw [HEE.out, if_neg (by simpa using hv)]
  go_wp2_with fail
  refine bodyPost_ret (v := .tuple #[.agg #[.string ⟨#[]⟩, .int .i64 0, .int .i64 0, .int .i64 0, .int .i64 0, .int .i64 0, .slice none 0 0], .slice (some ⟨w.heap.size + 3, 0, none⟩) 1 1, .bool false]) (by simp [results, Tryz.results30, go_sem, p0, p1, p2, p3, p4, p5, p6, x1, x2]) rfl ⟨⟨⟨some ⟨w.heap.size + 3, 0, none⟩, 1, 1⟩, rfl, ?_⟩, ?_⟩
  ·refine RdS.mono (base := w.heap.size + 3) (m := 1) ?_ (by omega) (Nat.le_refl _)
   repeat (refine RdS.set ?_ (by simp))
   exact HRD2.out
  ·repeat (refine Below.setCell ?_ (by simp; omega) _)
   exact HB2.out
 obtain ⟨k, rfl⟩ : ∃ k : Nat, v = k := ⟨v.toNat, by omega⟩
 by_cases hk : k < ps.length
 case neg =>
  obtain rfl : E = none := by rw [HEE.out, if_pos (by simp), List.getElem?_eq_none (by simp; omega)]; rfl
  go_wp2_with fail
  refine bodyPost_ret (v := .tuple #[.agg #[.string ⟨#[]⟩, .int .i64 0, .int .i64 0, .int .i64 0, .int .i64 0, .int .i64 0, .slice none 0 0], .slice (some ⟨w.heap.size + 3, 0, none⟩) 1 1, .bool false]) (by simp [results, Tryz.results30, go_sem, p0, p1, p2, p3, p4, p5, p6, x1, x2]) rfl ⟨⟨⟨some ⟨w.heap.size + 3, 0, none⟩, 1, 1⟩, rfl, ?_⟩, ?_⟩
  ·refine RdS.mono (base := w.heap.size + 3) (m := 1) ?_ (by omega) (Nat.le_refl _)
   repeat (refine RdS.set ?_ (by simp))
   exact HRD2.out
  ·repeat (refine Below.setCell ?_ (by simp; omega) _)
   exact HB2.out
 obtain ⟨bb, off, x, rfl, hbl, hxk, hc⟩ := HL2.out.at_ hk
 have HXK := Lib.hid hxk
 have HXM : Hid (Px.Ok w2 P x) := Lib.hid ((HO.out x (List.mem_of_getElem? hxk)).step HB2.out)
 obtain ⟨⟨y0, y1, y2, y3, ⟨y4, y5⟩, yr⟩, ys⟩ := x
 simp only [Px.enc, pgC] at hc
 have q0 := hc 0 _ rfl
 have q1 := hc 1 _ rfl
 have q2 := hc 2 _ rfl
 have q3 := hc 3 _ rfl
 have q4 := hc 4 _ rfl
 have q5 := hc 5 _ rfl
 have q6 := hc 6 _ rfl
 simp only [Nat.add_zero] at q0
 clear hc hxk
 have HE3 : Hid (E = if (y1 == num) && goodP ⟨y0, y1, y2, y3, ⟨y4, y5⟩, yr⟩ then some ⟨⟨y0, y1, y2, y3, ⟨y4, y5⟩, yr⟩, ys⟩ else none) := Lib.hid (by
  rw [HEE.out, if_pos (by simp), Int.toNat_natCast, HXK.out]
  rfl)
 have HB2e := HB2.out.size
 go_wp2_with fail
 refine (bkProgramme1_any ⟨⟨y0, y1, y2, y3, ⟨y4, y5⟩, yr⟩, ys⟩ b num _ HXM.out hcb).mono ?_
 obtain ⟨gg, hgg⟩ : ∃ gg, gg = ((y1 == num) && goodP ⟨y0, y1, y2, y3, ⟨y4, y5⟩, yr⟩) := ⟨_, rfl⟩
 rintro e w3 ⟨he, hb3⟩
 have he2 : e = .returned (.bool gg) := by rw [he, hgg]
 subst he2
 rw [← hgg] at HE3
 have HB3 := Lib.hid (HB2.out.trans (hb3.mono HB2.out.size))
 have HRD3 := Lib.hid (HRD2.out.step hb3)
 obtain ⟨x0, x1, x2⟩ := HBX2.out.step hb3
 have hbb2 : bb < w2.heap.size := by omega
 replace q0 := (hb3.cell (p := ⟨bb, off + k * 7, none⟩) hbb2).trans q0
 replace q1 := (hb3.cell (p := ⟨bb, off + k * 7 + 1, none⟩) hbb2).trans q1
 replace q2 := (hb3.cell (p := ⟨bb, off + k * 7 + 2, none⟩) hbb2).trans q2
 replace q3 := (hb3.cell (p := ⟨bb, off + k * 7 + 3, none⟩) hbb2).trans q3
 replace q4 := (hb3.cell (p := ⟨bb, off + k * 7 + 4, none⟩) hbb2).trans q4
 replace q5 := (hb3.cell (p := ⟨bb, off + k * 7 + 5, none⟩) hbb2).trans q5
 replace q6 := (hb3.cell (p := ⟨bb, off + k * 7 + 6, none⟩) hbb2).trans q6
 clear he hgg p0 p1 p2 p3 p4 p5 p6
 have p0 := x0 0 _ rfl
 have p1 := x0 1 _ rfl
 have p2 := x0 2 _ rfl
 have p3 := x0 3 _ rfl
 have p4 := x0 4 _ rfl
 have p5 := x0 5 _ rfl
 have p6 := x0 6 _ rfl
 clear x0 hb3
 cases gg
 ·obtain rfl : E = none := by rw [HE3.out]; rfl
  go_wp2_with fail
  refine bodyPost_ret (v := .tuple #[.agg #[.string ⟨#[]⟩, .int .i64 0, .int .i64 0, .int .i64 0, .int .i64 0, .int .i64 0, .slice none 0 0], .slice (some ⟨w.heap.size + 3, 0, none⟩) 1 1, .bool false]) (by simp [results, Tryz.results30, go_sem, p0, p1, p2, p3, p4, p5, p6, x1, x2]) rfl ⟨⟨⟨some ⟨w.heap.size + 3, 0, none⟩, 1, 1⟩, rfl, ?_⟩, ?_⟩
  ·refine RdS.mono (base := w.heap.size + 3) (m := 1) ?_ (by omega) (Nat.le_refl _)
   repeat (refine RdS.set ?_ (by simp))
   exact HRD3.out
  ·repeat (refine Below.setCell ?_ (by simp; omega) _)
   exact HB3.out
 obtain rfl : E = some ⟨⟨y0, y1, y2, y3, ⟨y4, y5⟩, yr⟩, ys⟩ := by rw [HE3.out]; rfl
 go_wp2_with fail
 refine bodyPost_ret (v := .tuple #[.agg #[.string y0, .int .i64 y1, .int .i64 y2, .int .i64 y3, .int .i64 y4, .int .i64 y5, .slice ys.a ys.n ys.c],  .slice (some ⟨w.heap.size + 3, 0, none⟩) 1 1, .bool true]) (by simp [results, Tryz.results30, go_sem, p0, p1, p2, p3, p4, p5, p6, x1, x2]) rfl ⟨⟨⟨some ⟨w.heap.size + 3, 0, none⟩, 1, 1⟩, rfl, ?_⟩, ?_⟩
 ·refine RdS.mono (base := w.heap.size + 3) (m := 1) ?_ (by omega) (Nat.le_refl _)
  repeat (refine RdS.set ?_ (by simp))
  exact HRD3.out
 ·repeat (refine Below.setCell ?_ (by simp; omega) _)
  exact HB3.out
set_option maxRecDepth 100000 in
set_option maxHeartbeats 1000000 in
theorem bkProgramme_any {P : Nat → Prop} (d : Wd) (num term known : Int) (w : World) (h : d.Ok w P) (hf : d.fs.length ≤ 100000) :
 Calls Tryz.prog 7 #[d.v, .int .i64 num, .int .i64 term, .int .i64 known] w fun e w' =>
  (∃ s : Sl, e = .returned (.tuple #[(match progF d num term known with | some x => x.v | none => .agg #[.string ⟨#[]⟩, .int .i64 0, .int .i64 0, .int .i64 0, .int .i64 0, .int .i64 0, .slice none 0 0]), .slice s.a s.n s.c, .bool (progF d num term known).isSome]) ∧ RdS w' w.heap.size 1 s) ∧ Below w.heap.size w w' := by
 have H3 : Hid (Below w.heap.size w (((w.alloc (.cells d.enc.toArray 29)).alloc (.cells #[.int .i64 num] 3)).alloc (.cells #[.string ⟨#[]⟩, .int .i64 0, .int .i64 0, .int .i64 0, .int .i64 0, .int .i64 0, .slice none 0 0] 44))) := Lib.hid (by go_grown)
 have HBX : Hid (Bx (((w.alloc (.cells d.enc.toArray 29)).alloc (.cells #[.int .i64 num] 3)).alloc (.cells #[.string ⟨#[]⟩, .int .i64 0, .int .i64 0, .int .i64 0, .int .i64 0, .int .i64 0, .slice none 0 0] 44)) (w.heap.size + 2) [.string ⟨#[]⟩, .int .i64 0, .int .i64 0, .int .i64 0, .int .i64 0, .int .i64 0, .slice none 0 0]) := Lib.hid (Bx.at_ _ [.string ⟨#[]⟩, .int .i64 0, .int .i64 0, .int .i64 0, .int .i64 0, .int .i64 0, .slice none 0 0] 44 (w.heap.size + 2) (by simp))
 have HC := Lib.hid (bkProgrammeL_any d (w.heap.size + 1) num term known _ (h.step H3.out) (by simp [go_sem]) hf)
 clear h
 obtain ⟨E, hE⟩ : ∃ E, E = progF d num term known := ⟨_, rfl⟩
 rw [← hE] at HC ⊢
 clear hE
 obtain ⟨⟨A1, n1, c1⟩, ⟨A2, n2, c2⟩, ⟨A3, n3, c3⟩, ⟨A4, n4, c4⟩, cs, ps, fs⟩ := d
 simp only [Wd.v, Wd.enc] at *
 cases E with
 | none =>
   simp only at HC
   go_enter Tryz.func7, Tryz.ntmps7
   go_wp2_with fail
   refine HC.out.mono ?_
   rintro e w1 ⟨⟨s, rfl, hs⟩, hb1⟩
   have HB2 := Lib.hid (H3.out.trans (hb1.mono H3.out.size))
   have HRD2 := Lib.hid hs
   obtain ⟨x0, x1, x2⟩ := HBX.out.step hb1
   have p0 := x0 0 _ rfl
   have p1 := x0 1 _ rfl
   have p2 := x0 2 _ rfl
   have p3 := x0 3 _ rfl
   have p4 := x0 4 _ rfl
   have p5 := x0 5 _ rfl
   have p6 := x0 6 _ rfl
   clear x0 hs hb1
   go_wp2_with fail
   refine bodyPost_ret (v := .tuple #[.agg #[.string ⟨#[]⟩, .int .i64 0, .int .i64 0, .int .i64 0, .int .i64 0, .int .i64 0, .slice none 0 0], .slice s.a s.n s.c, .bool false]) (by simp [results, Tryz.results7, go_sem, p0, p1, p2, p3, p4, p5, p6, x1, x2]) rfl ⟨⟨s, rfl, ?_⟩, ?_⟩
   ·refine RdS.mono (base := w.heap.size + 3) (m := 1) ?_ (by omega) (Nat.le_refl _)
    repeat (refine RdS.set ?_ (by simp))
    simpa using HRD2.out
   ·repeat (refine Below.setCell ?_ (by simp; omega) _)
    exact HB2.out
 | some x =>
   obtain ⟨⟨y0, y1, y2, y3, ⟨y4, y5⟩, yr⟩, ys⟩ := x
   simp only [Px.v, pgV] at HC ⊢
   go_enter Tryz.func7, Tryz.ntmps7
   go_wp2_with fail
   refine HC.out.mono ?_
   rintro e w1 ⟨⟨s, rfl, hs⟩, hb1⟩
   have HB2 := Lib.hid (H3.out.trans (hb1.mono H3.out.size))
   have HRD2 := Lib.hid hs
   obtain ⟨x0, x1, x2⟩ := HBX.out.step hb1
   have p0 := x0 0 _ rfl
   have p1 := x0 1 _ rfl
   have p2 := x0 2 _ rfl
   have p3 := x0 3 _ rfl
   have p4 := x0 4 _ rfl
   have p5 := x0 5 _ rfl
   have p6 := x0 6 _ rfl
   clear x0 hs hb1
   go_wp2_with fail
   refine bodyPost_ret (v := .tuple #[.agg #[.string y0, .int .i64 y1, .int .i64 y2, .int .i64 y3, .int .i64 y4, .int .i64 y5, .slice ys.a ys.n ys.c], .slice s.a s.n s.c, .bool true]) (by simp [results, Tryz.results7, go_sem, p0, p1, p2, p3, p4, p5, p6, x1, x2]) rfl ⟨⟨s, rfl, ?_⟩, ?_⟩
   ·refine RdS.mono (base := w.heap.size + 3) (m := 1) ?_ (by omega) (Nat.le_refl _)
    repeat (refine RdS.set ?_ (by simp))
    simpa using HRD2.out
   ·repeat (refine Below.setCell ?_ (by simp; omega) _)
    exact HB2.out
end Go.Proofs.YtalmbigebjbaoaaGreatDoor
