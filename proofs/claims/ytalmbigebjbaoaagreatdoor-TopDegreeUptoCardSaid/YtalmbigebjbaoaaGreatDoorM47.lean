/- TopDegree, what its proof leans on: the texts TqC. -/
import Derived.Test.YtalmbigebjbaoaaGreatDoorM44
namespace Go.Proofs.YtalmbigebjbaoaaGreatDoor
open Go.RowKit Go.Shelf
set_option linter.unusedSimpArgs false
set_option linter.unusedVariables false
def BlAt (w : World) (F : Nat) (xs : List Bool) : Prop := w.heap[F]? = some (.cells (xs.map Value.bool).toArray 4 (0, 0))
theorem BlAt.step {w w' : World} {F : Nat} {xs : List Bool} (h : BlAt w F xs) (hb : Below w.heap.size w w') : BlAt w' F xs := (hb.block F (Array.getElem?_eq_some_iff.1 h).1).trans h
theorem BlAt.lt {w : World} {F : Nat} {xs : List Bool} (h : BlAt w F xs) : F < w.heap.size := (Array.getElem?_eq_some_iff.1 h).1
theorem BlAt.cell {w : World} {F : Nat} {xs : List Bool} (h : BlAt w F xs) {i : Nat} {b : Bool} (hi : xs[i]? = some b) : w.cell? ⟨F, i, none⟩ = some (.bool b) := by
 unfold BlAt at h
 simp [World.cell?, h, hi]
theorem BlAt.free {w : World} {F : Nat} {xs : List Bool} (h : BlAt w F xs) (i : Nat) : w.frozen? ⟨F, i, none⟩ = false := by
 unfold BlAt at h
 simp [World.frozen?, h]
theorem BlAt.set {w : World} {F : Nat} {xs : List Bool} (h : BlAt w F xs) (i : Nat) (v : Bool) : BlAt (w.setCell ⟨F, i, none⟩ (.bool v)) F (xs.set i v) := by
 unfold BlAt at *
 rw [heap_setCell_same w F i _ _ _ h]
 congr 2
 apply Array.ext'
 simp [List.map_set]
theorem BlAt.far {w : World} {F : Nat} {xs : List Bool} (h : BlAt w F xs) {a : Addr} (ha : F ≠ a.block) (u : Value) : BlAt (w.setCell a u) F xs := (Below.heap_setCell _ _ _ _ ha).trans h
theorem BlAt.grown {w w' : World} {F : Nat} {xs : List Bool} (h : BlAt w F xs) {row : Option Nat} (hg : w.grownBy w' row) (hr : some F ≠ row) : BlAt w' F xs := (hg.block F h.lt hr).trans h
theorem made_bools (n : Nat) : madeCells (Value.bool false).cells n = ((List.replicate n false).map Value.bool).toArray := by
 apply Array.ext
 ·simp [size_madeCells]
 ·intro i h1 h2
  simp [madeCells, Value.cells, Nat.mod_one]
theorem run_make_bools (n : Nat) (hn : n ≤ 1000000) (W : World) : (Instr.makeSlice 33 (.int .i64 n) (.int .i64 n)).run Tryz.prog W = .ok (.slice (some ⟨W.heap.size, 0, none⟩) n n) (W.alloc (.cells ((List.replicate n false).map Value.bool).toArray 4)) := by
 obtain ⟨i0, hinf, hz0, hz1, hz2⟩ := info_parts Tryz.infoBool
 have h := run_make (P := Tryz.prog) W 33 4 i0 (.bool false) Tryz.underlying33 hinf hz0 .i64 .i64 (n : Int) (n : Int) (by omega) (by omega) (by rw [hz2]; omega) (by omega)
 rw [hz1] at h
 simp only [Int.toNat_natCast, Nat.mul_one, made_bools] at h
 exact h
theorem BlAt.made (w : World) (xs : List Bool) : BlAt (w.alloc (.cells (xs.map Value.bool).toArray 4)) w.heap.size xs := heap_alloc_new w _
def marksL (acc : List Int) : List Bool := (List.range 4096).map (fun n : Nat => acc.contains (n : Int))
theorem marksL_len (acc : List Int) : (marksL acc).length = 4096 := by simp [marksL]
theorem marksL_nil : marksL [] = List.replicate 4096 false := by
 unfold marksL
 apply List.ext_getElem?
 intro i
 rw [List.getElem?_map, List.getElem?_replicate]
 by_cases hi : i < 4096
 ·rw [List.getElem?_range hi, if_pos hi]
  rfl
 ·rw [List.getElem?_eq_none (by rw [List.length_range]; omega), if_neg hi]
  rfl
theorem marksL_at (acc : List Int) (n : Nat) (h : n < 4096) : (marksL acc)[n]? = some (acc.contains (n : Int)) := by
 unfold marksL
 rw [List.getElem?_map, List.getElem?_range h]
 rfl
theorem marksL_set (acc : List Int) (m : Nat) (h : m < 4096) : (marksL acc).set m true = marksL (acc ++ [(m : Int)]) := by
 apply List.ext_getElem?
 intro i
 rw [List.getElem?_set, marksL_len]
 by_cases hi : i < 4096
 ·rw [marksL_at _ i hi, marksL_at _ i hi]
  by_cases e : m = i
  ·subst e; simp [h]
  ·rw [if_neg e]
   have : ¬ ((i : Int) = (m : Int)) := by omega
   simp [this]
 ·rw [if_neg (by omega), List.getElem?_eq_none (by rw [marksL_len]; omega), List.getElem?_eq_none (by rw [marksL_len]; omega)]
theorem marksL_out (acc : List Int) (x : Int) (h : ¬ (0 ≤ x ∧ x < 4096)) : marksL (acc ++ [x]) = marksL acc := by
 apply List.ext_getElem?
 intro i
 by_cases hi : i < 4096
 ·rw [marksL_at _ i hi, marksL_at _ i hi]
  have : ¬ ((i : Int) = x) := by omega
  simp [this]
 ·rw [List.getElem?_eq_none (by rw [marksL_len]; omega), List.getElem?_eq_none (by rw [marksL_len]; omega)]
def setTo (acc : List Int) (n : Nat) : List Int := ((List.range n).map (fun n : Nat => (n : Int))).filter (fun n => acc.contains n)
theorem setTo_all (acc : List Int) : setTo acc 4096 = setL acc := rfl
theorem setTo_nil (acc : List Int) : setTo acc 0 = [] := rfl
theorem setTo_succ (acc : List Int) (n : Nat) : setTo acc (n + 1) = if acc.contains (n : Int) then setTo acc n ++ [(n : Int)] else setTo acc n := by
 unfold setTo
 rw [List.range_succ, List.map_append, List.filter_append]
 simp only [List.map_cons, List.map_nil, List.filter_cons, List.filter_nil]
 split <;> simp
theorem setTo_len (acc : List Int) (n : Nat) : (setTo acc n).length ≤ n := by
 unfold setTo
 exact Nat.le_trans (List.length_filter_le _ _) (by simp)
def extFr (fs : List Fc) (term known : Int) (fr : List Int) : List Int := setL (fr.flatMap (fun c => eqF fs c term known))
def extP (fs : List Fc) (term known : Int) (p : Pg) : Pg := { p with reqs := p.reqs.map (fun q => { q with fr := extFr fs term known q.fr }) }
structure ExL (w : World) (d : Wd) (p : Pg) (s : Sl) (term known : Int) (hsD : List RqH) (v9 : Value) (W : World) : Prop where
 x0 : Bx W w.heap.size d.enc
 x1 : Bx W (w.heap.size + 1) (pgC p s)
 x2 : Bx W (w.heap.size + 2) [.string ⟨#[]⟩, .int .i64 0, .int .i64 0, .int .i64 0, .int .i64 0, .int .i64 0, .slice none 0 0]
 ow : Owns W (w.heap.size + 3) 67 6 RqH.enc v9 hsD
 el : ∀ (i : Nat) (h : RqH) (q : Rq), hsD[i]? = some h → p.reqs[i]? = some q → h.credits = q.credits ∧ h.grade = q.grade ∧ h.home = q.home ∧ SlR W (fun b => w.heap.size + 3 ≤ b ∧ v9.ownBlock ≠ some b) 1 intE h.fr (extFr d.fs term known q.fr)
 bw : Below w.heap.size w W
theorem ExL.step {w : World} {d : Wd} {p : Pg} {s : Sl} {term known : Int} {hsD : List RqH} {v9 : Value} {W W' : World} (h : ExL w d p s term known hsD v9 W) (hb : Below W.heap.size W W') : ExL w d p s term known hsD v9 W' :=
 ⟨h.x0.step hb, h.x1.step hb, h.x2.step hb, h.ow.below hb (Nat.le_refl _), fun i a q h1 h2 => by
   obtain ⟨a1, a2, a3, a4⟩ := h.el i a q h1 h2
   exact ⟨a1, a2, a3, a4.step hb⟩, h.bw.trans (hb.mono h.bw.size)⟩
theorem ExL.app {w : World} {d : Wd} {p : Pg} {s : Sl} {term known : Int} {hsD : List RqH} {v9 v' : Value} {W W' : World} (h : ExL w d p s term known hsD v9 W) (hg : W.grownBy W' v9.ownBlock) (ho : v'.ownBlock = v9.ownBlock ∨ v'.ownBlock = some W.heap.size) {a : RqH} (hn : Owns W' (w.heap.size + 3) 67 6 RqH.enc v' (hsD ++ [a]))
 (ha : ∀ q, p.reqs[hsD.length]? = some q → a.credits = q.credits ∧ a.grade = q.grade ∧ a.home = q.home ∧ SlR W (fun b => w.heap.size + 3 ≤ b ∧ v9.ownBlock ≠ some b) 1 intE a.fr (extFr d.fs term known q.fr)) : ExL w d p s term known (hsD ++ [a]) v' W' := by
 have hbase := h.ow.base_le
 have far : ∀ {b : Nat} {cs : List Value}, Bx W b cs → b < w.heap.size + 3 → Bx W' b cs := fun {b cs} hx hb => hx.keep (P := fun y => y = b) (Kp.of_grown2 hg (fun y hy e => by have := hbase y e.symm; omega)) rfl
 have sl : ∀ {f : Sl} {ns : List Int}, SlR W (fun b => w.heap.size + 3 ≤ b ∧ v9.ownBlock ≠ some b) 1 intE f ns → SlR W' (fun b => w.heap.size + 3 ≤ b ∧ v'.ownBlock ≠ some b) 1 intE f ns := fun {f ns} hf => by
  have h1 : SlR W (fun b => (w.heap.size + 3 ≤ b ∧ v9.ownBlock ≠ some b) ∧ v'.ownBlock ≠ some b) 1 intE f ns := hf.mono3 (fun b hb hl => ⟨hb, fun e => by
   rcases ho with ho | ho
   ·exact hb.2 (ho ▸ e)
   ·rw [ho] at e; cases e; omega⟩)
  exact (h1.keep (Kp.of_grown2 hg (fun b hb e => hb.1.2 e.symm))).mono (fun b hb => ⟨hb.1.1, hb.2⟩)
 refine ⟨far h.x0 (by omega), far h.x1 (by omega), far h.x2 (by omega), hn, fun i x q h1 h2 => ?_, h.bw.grown hg h.bw.size (fun g e => by have := hbase g e; omega)⟩
 by_cases hi : i < hsD.length
 ·rw [List.getElem?_append_left hi] at h1
  obtain ⟨a1, a2, a3, a4⟩ := h.el i x q h1 h2
  exact ⟨a1, a2, a3, sl a4⟩
 ·have hi2 := (List.getElem?_eq_some_iff.1 h1).1
  simp only [List.length_append, List.length_singleton] at hi2
  obtain rfl : i = hsD.length := by omega
  rw [List.getElem?_append_right (Nat.le_refl _), Nat.sub_self] at h1
  simp only [List.getElem?_cons_zero, Option.some.injEq] at h1
  subst h1
  obtain ⟨a1, a2, a3, a4⟩ := ha q h2
  exact ⟨a1, a2, a3, sl a4⟩
theorem below_undrew {B : Nat} {w w' : World} (h : Below B w.drew w') : Below B w w' := ⟨h.os, h.tape, h.output, h.size, h.block⟩
theorem flat_more {f : Int → List Int} (l : List Int) (j : Nat) (c : Int) (h : l[j]? = some c) : (l.take (j + 1)).flatMap f = (l.take j).flatMap f ++ f c := by
 have hl := (List.getElem?_eq_some_iff.1 h).1
 rw [List.take_succ_eq_append_getElem hl, (List.getElem?_eq_some_iff.1 h).2]
 simp
theorem take_more {α : Type} {l : List α} {k : Nat} {x : α} (h : l[k]? = some x) : l.take (k + 1) = l.take k ++ [x] := by
 rw [List.take_succ_eq_append_getElem (List.getElem?_eq_some_iff.1 h).1, (List.getElem?_eq_some_iff.1 h).2]
theorem Owns.litx {α : Type} {w : World} {base : Nat} {e : TypeId} {sz : Nat} {en : α → List Value} {ys : List α} (hen : ∀ y, (en y).length = sz) {cs : Array Value} (g : Nat) (hg : g = w.heap.size) (hcs : cs.toList = ys.flatMap en) (hb : base ≤ w.heap.size) (hm : ys.length ≤ maxLen) (n : Nat) (hn : n = ys.length) :
 Owns (w.alloc (.cells cs e)) base e sz en (.slice (some ⟨g, 0, none⟩) n n) ys := by subst hg hn; exact Owns.lit hen hcs hb hm
set_option maxRecDepth 100000 in
set_option maxHeartbeats 16000000 in
theorem extended_any {P : Nat → Prop} (d : Wd) (p : Pg) (s : Sl) (term known : Int) (w : World) (hd : d.Ok w P) (hf : d.fs.length ≤ 100) (hr : Rqs w P s p.reqs) (hl : p.reqs.length ≤ 70) (hq : ∀ q ∈ p.reqs, q.fr.length ≤ 1048576) :
 Calls Tryz.prog 13 #[d.v, pgV p s, .int .i64 term, .int .i64 known] w fun e w' => (∃ s' : Sl, e = .returned (pgV p s') ∧ Rqs w' (fun b => w.heap.size ≤ b) s' (extP d.fs term known p).reqs) ∧ Below w.heap.size w w' := by
 obtain ⟨hs0, hsl, hlen0, hat0⟩ := hr
 obtain ⟨i0, hi0, hz0, hz1, hz2⟩ := info_parts Tryz.infoRqH
 obtain ⟨i2, hi2, hy0, hy1, hy2⟩ := info_parts Tryz.infoInt
 have HI0 := Lib.hid hi0
 have HI2 := Lib.hid hi2
 obtain ⟨ZB, hZB⟩ : ∃ z : Array Value, z = ((List.replicate 4096 false).map Value.bool).toArray := ⟨_, rfl⟩
 have hmk : ∀ W : World, (Instr.makeSlice 33 (.int .i64 4096) (.int .i64 4096)).run Tryz.prog W = .ok (.slice (some ⟨W.heap.size, 0, none⟩) 4096 4096) (W.alloc (.cells ZB 4)) := by rw [hZB]; exact run_make_bools 4096 (by decide)
 have HMK := Lib.hid hmk
 have HZB : Hid (ZB = ((marksL []).map Value.bool).toArray) := Lib.hid (by rw [hZB, marksL_nil])
 have HD := Lib.hid hd
 have HSL := Lib.hid hsl
 obtain ⟨rA, rn, rc⟩ := s
 have hrn : rn = p.reqs.length := hsl.1.trans hlen0
 subst hrn
 have HL0 := Lib.hid hlen0
 have HB0 : Hid (Below w.heap.size w ((((w.alloc (.cells #[.slice d.c.a d.c.n d.c.c, .slice d.p.a d.p.n d.p.c, .slice d.y.a d.y.n d.y.c, .slice d.f.a d.f.n d.f.c] 29)).alloc (.cells #[.string p.nm, .int .i64 p.number, .int .i64 p.uses, .int .i64 p.earn, .int .i64 p.mean.num, .int .i64 p.mean.den, .slice rA p.reqs.length rc] 44)).alloc (.cells #[.string ⟨#[]⟩, .int .i64 0, .int .i64 0, .int .i64 0, .int .i64 0, .int .i64 0, .slice none 0 0] 44)).alloc (.cells #[] 67))) := Lib.hid (by go_grown)
 unfold Wd.v
 simp only [pgV]
 clear hd hsl hi0 hi2 hmk hZB hlen0
 go_enter Tryz.func13, Tryz.ntmps13
 go_wp2_with fail
 obtain ⟨W0, hW0⟩ : ∃ X, X = ((((w.alloc (.cells #[.slice d.c.a d.c.n d.c.c, .slice d.p.a d.p.n d.p.c, .slice d.y.a d.y.n d.y.c, .slice d.f.a d.f.n d.f.c] 29)).alloc (.cells #[.string p.nm, .int .i64 p.number, .int .i64 p.uses, .int .i64 p.earn, .int .i64 p.mean.num, .int .i64 p.mean.den, .slice rA p.reqs.length rc] 44)).alloc (.cells #[.string ⟨#[]⟩, .int .i64 0, .int .i64 0, .int .i64 0, .int .i64 0, .int .i64 0, .slice none 0 0] 44)).alloc (.cells #[] 67)) := ⟨_, rfl⟩
 have HX : Hid (ExL w d p ⟨rA, p.reqs.length, rc⟩ term known [] (.slice (some ⟨w.heap.size + 1 + 1 + 1, 0, none⟩) 0 0) W0) := Lib.hid (by
  rw [hW0]
  refine ⟨?_, ?_, ?_, ?_, fun i h q e => by simp at e, HB0.out⟩
  ·exact ((Bx.new w d.enc _).alloc _ |>.alloc _).alloc _
  ·exact ((Bx.at_ _ [.string p.nm, .int .i64 p.number, .int .i64 p.uses, .int .i64 p.earn, .int .i64 p.mean.num, .int .i64 p.mean.den, .slice rA p.reqs.length rc] _ _ (by simp)).alloc _).alloc _
  ·exact (Bx.at_ _ [.string ⟨#[]⟩, .int .i64 0, .int .i64 0, .int .i64 0, .int .i64 0, .int .i64 0, .slice none 0 0] _ _ (by simp)).alloc _
  ·exact Owns.litx RqH.enc_len _ (by simp) rfl (by simp) (by simp) 0 rfl)
 rw [← hW0]
 clear hW0 HB0
 go_loopw [10, 9] (fun i v9 wr => ∃ (k : Nat) (hsD : List RqH), k ≤ p.reqs.length ∧ i = .int .i64 k ∧ hsD.length = k ∧ ExL w d p ⟨rA, p.reqs.length, rc⟩ term known hsD v9 wr) (fun i _ _ => p.reqs.length - (intOf i).toNat)
 case atStart => exact ⟨0, [], Nat.zero_le _, rfl, rfl, HX.out⟩
 case round =>
  clear HX
  obtain ⟨k, hsD, hk, rfl, hkl, hI⟩ := hrel
  obtain ⟨A9, c9, rfl, _, _⟩ := hI.ow.shape
  have HI := Lib.hid hI
  have HKL := Lib.hid hkl
  have p6 := hI.x1.1 6 _ rfl
  have pz := hI.x1.2.2
  clear hI hkl
  by_cases hlt : k < p.reqs.length
  ·obtain ⟨ba, oa, x, hA, hba, hxk, hca⟩ := ((HSL.out.step HI.out.bw)).reads.at_ (k := k) (by rw [HL0.out]; exact hlt)
   simp only at hA
   subst hA
   obtain ⟨q, hqk⟩ : ∃ q, p.reqs[k]? = some q := ⟨_, List.getElem?_eq_getElem hlt⟩
   have hx4 := hat0 k x q hxk hqk
   have hfl := hq q (List.mem_of_getElem? hqk)
   obtain ⟨nm, cr, gr, hm, ns, ⟨fA, fn, fc⟩⟩ := x
   obtain ⟨e1, e2, e3, hf4⟩ := hx4
   simp only at e1 e2 e3
   have hfn := hf4.1
   simp only at hfn
   subst hfn
   have HF4 := Lib.hid hf4
   have HEQ : Hid (cr = q.credits ∧ gr = q.grade ∧ hm = q.home) := Lib.hid ⟨e1, e2, e3⟩
   simp only [RqH.enc] at hca
   have q0 := hca 0 _ rfl
   have q1 := hca 1 _ rfl
   have q2 := hca 2 _ rfl
   have q3 := hca 3 _ rfl
   have q4 := hca 4 _ rfl
   have q5 := hca 5 _ rfl
   simp only [Nat.add_zero] at q0
   have HQK := Lib.hid hqk
   have hmk := HMK.out
   clear hca hxk hf4 e1 e2 e3 hqk
   go_wp2_with fail
   clear hmk p6 pz q0 q1 q2 q3 q4 q5
   obtain ⟨bq, hbq⟩ : ∃ b, b = wr.heap.size := ⟨_, rfl⟩
   obtain ⟨W2, hW2⟩ : ∃ X, X = (wr.alloc (.cells #[.string nm, .int .i64 cr, .int .i64 gr, .bool hm, .slice ns.a ns.n ns.c, .slice fA q.fr.length fc] 67)).alloc (.cells ZB 4) := ⟨_, rfl⟩
   have HB2 : Hid (Below wr.heap.size wr W2) := Lib.hid (by rw [hW2]; exact ((Below.refl _ _).alloc (Nat.le_refl _) _).alloc (by simp) _)
   have HQ2 : Hid (Bx W2 bq [.string nm, .int .i64 cr, .int .i64 gr, .bool hm, .slice ns.a ns.n ns.c, .slice fA q.fr.length fc]) := Lib.hid (by rw [hW2, hbq]; exact (Bx.new wr [.string nm, .int .i64 cr, .int .i64 gr, .bool hm, .slice ns.a ns.n ns.c, .slice fA q.fr.length fc] _).alloc _)
   have HS2 : Hid (BlAt W2 (bq + 1) (marksL [])) := Lib.hid (by
    have h := BlAt.made (wr.alloc (.cells #[.string nm, .int .i64 cr, .int .i64 gr, .bool hm, .slice ns.a ns.n ns.c, .slice fA q.fr.length fc] 67)) (marksL [])
    rw [← HZB.out] at h
    rw [hW2, hbq]
    simpa using h)
   rw [← hW2, ← hbq]
   obtain ⟨F, hF⟩ : ∃ F : Int → List Int, F = fun c => eqF d.fs c term known := ⟨_, rfl⟩
   have HF := Lib.hid hF
   have HBQ := Lib.hid hbq
   have hbqz : w.heap.size + 2 < bq := by rw [hbq]; exact HI.out.x2.2.2
   have HB1 : Hid (Below w.heap.size w wr) := Lib.hid HI.out.bw
   clear hW2 hF hbq
   generalize wr = V1 at *
   go_loopw [13] (fun i wr => ∃ j : Nat, j ≤ q.fr.length ∧ i = .int .i64 j ∧ Below V1.heap.size V1 wr ∧ Bx wr bq [.string nm, .int .i64 cr, .int .i64 gr, .bool hm, .slice ns.a ns.n ns.c, .slice fA q.fr.length fc] ∧ BlAt wr (bq + 1) (marksL ((q.fr.take j).flatMap F))) (fun i _ => q.fr.length - (intOf i).toNat)
   case atStart => exact ⟨0, Nat.zero_le _, rfl, HB2.out, HQ2.out, by simpa using HS2.out⟩
   case round =>
    clear HB2 HQ2 HS2
    obtain ⟨j, hj, rfl, hb2, hq2, hs2⟩ := hrel
    have HB2 := Lib.hid hb2
    have HQ2 := Lib.hid hq2
    have HS2 := Lib.hid hs2
    have HBW : Hid (Below w.heap.size w wr) := Lib.hid (HB1.out.trans (hb2.mono HB1.out.size))
    have p5 := hq2.1 5 _ rfl
    have pz := hq2.2.2
    have sz := hs2.lt
    clear hb2 hq2 hs2
    by_cases hjl : j < q.fr.length
    ·obtain ⟨bc, oc, c, hfA, hbc, hcj, hcc⟩ := (HF4.out.step HBW.out).reads.at_ hjl
     simp only at hfA
     subst hfA
     have c0 := hcc 0 _ rfl
     simp only [Nat.add_zero, Nat.mul_one] at c0
     obtain ⟨acc, hacc⟩ : ∃ a, a = (q.fr.take j).flatMap F := ⟨_, rfl⟩
     obtain ⟨zs, hzs⟩ : ∃ zs, zs = F c := ⟨_, rfl⟩
     have hac : (q.fr.take (j + 1)).flatMap F = acc ++ zs := by rw [flat_more _ _ _ hcj, ← hacc, ← hzs]
     have HAC := Lib.hid hac
     rw [← hacc] at HS2
     have hzl : zs.length ≤ 101 := by rw [hzs, HF.out]; exact Nat.le_trans (eqF_len _ _ _ _) (by omega)
     have hEQ := fun (W : World) (hb : Below w.heap.size w W) => bkEqual_any d c term known W (HD.out.step hb) hf
     rw [show eqF d.fs c term known = zs by rw [hzs, HF.out]] at hEQ
     have HEC := Lib.hid hEQ
     clear hEQ hac hacc hzs hcc hcj
     obtain ⟨w0, w1, w2⟩ := HI.out.x0.step HB2.out
     have r0 := w0 0 _ rfl
     have r1 := w0 1 _ rfl
     have r2 := w0 2 _ rfl
     have r3 := w0 3 _ rfl
     clear w0 w1
     go_upto_region 10 with fail
     have r0d : wr.drew.cell? ⟨w.heap.size, 0, none⟩ = some (.slice d.c.a d.c.n d.c.c) := r0
     have r1d : wr.drew.cell? ⟨w.heap.size, 1, none⟩ = some (.slice d.p.a d.p.n d.p.c) := r1
     have r2d : wr.drew.cell? ⟨w.heap.size, 2, none⟩ = some (.slice d.y.a d.y.n d.y.c) := r2
     have r3d : wr.drew.cell? ⟨w.heap.size, 3, none⟩ = some (.slice d.f.a d.f.n d.f.c) := r3
     have p5d : wr.drew.cell? ⟨bq, 5, none⟩ = some (.slice (some ⟨bc, oc, none⟩) q.fr.length fc) := p5
     have c0d : wr.drew.cell? ⟨bc, oc + j, none⟩ = some (.int .i64 c) := c0
     have HKK : Hid (∀ W', Below wr.heap.size wr W' → (W'.cell? ⟨w.heap.size, 0, none⟩ = some (.slice d.c.a d.c.n d.c.c) ∧ W'.cell? ⟨w.heap.size, 1, none⟩ = some (.slice d.p.a d.p.n d.p.c) ∧ W'.cell? ⟨w.heap.size, 2, none⟩ = some (.slice d.y.a d.y.n d.y.c) ∧ W'.cell? ⟨w.heap.size, 3, none⟩ = some (.slice d.f.a d.f.n d.f.c) ∧ W'.cell? ⟨bq, 5, none⟩ = some (.slice (some ⟨bc, oc, none⟩) q.fr.length fc) ∧ W'.cell? ⟨bc, oc + j, none⟩ = some (.int .i64 c))) := Lib.hid (fun W' hb => ⟨(hb.cell (p := ⟨w.heap.size, 0, none⟩) (cell_in r0)).trans r0, (hb.cell (p := ⟨w.heap.size, 1, none⟩) (cell_in r1)).trans r1, (hb.cell (p := ⟨w.heap.size, 2, none⟩) (cell_in r2)).trans r2, (hb.cell (p := ⟨w.heap.size, 3, none⟩) (cell_in r3)).trans r3, (hb.cell (p := ⟨bq, 5, none⟩) (cell_in p5)).trans p5, (hb.cell (p := ⟨bc, oc + j, none⟩) (cell_in c0)).trans c0⟩)
     go_region_held3 (fun w' => w'.cell? ⟨w.heap.size, 0, none⟩ = some (.slice d.c.a d.c.n d.c.c) ∧ w'.cell? ⟨w.heap.size, 1, none⟩ = some (.slice d.p.a d.p.n d.p.c) ∧ w'.cell? ⟨w.heap.size, 2, none⟩ = some (.slice d.y.a d.y.n d.y.c) ∧ w'.cell? ⟨w.heap.size, 3, none⟩ = some (.slice d.f.a d.f.n d.f.c) ∧ w'.cell? ⟨bq, 5, none⟩ = some (.slice (some ⟨bc, oc, none⟩) q.fr.length fc) ∧ w'.cell? ⟨bc, oc + j, none⟩ = some (.int .i64 c)) (first | with_reducible exact ⟨r0, r1, r2, r3, p5, c0⟩ | with_reducible exact ⟨r0d, r1d, r2d, r3d, p5d, c0d⟩ | with_reducible exact ⟨s0, s1, s2, s3, s4, s5⟩) ((go_at_call 24; refine Calls.mono (HEC.out _ (by first | exact HBW.out | exact HBW.out.drew)) ?_; rintro e wa ⟨⟨⟨vA, vn, vc⟩, v9e, rse, rfl, hov, hor, hlr⟩, hba2⟩; obtain ⟨s0, s1, s2, s3, s4, s5⟩ := HKK.out wa (by first | exact hba2 | exact below_undrew hba2)))
     clear p5 pz r0 r1 r2 r3 c0 r0d r1d r2d r3d p5d c0d s0 s1 s2 s3 s4 s5
     obtain ⟨A6, c6, hv6, hn6, _⟩ := hov.shape
     simp only [Value.slice.injEq] at hv6
     obtain ⟨rfl, rfl, rfl⟩ := hv6
     have HWA : Hid (Below wr.heap.size wr wa) := Lib.hid (by first | exact hba2 | exact below_undrew hba2)
     have HBA : Hid (Below V1.heap.size V1 wa) := Lib.hid (HB2.out.trans (HWA.out.mono HB2.out.size))
     have HQA := Lib.hid (HQ2.out.step HWA.out)
     have HSA := Lib.hid (HS2.out.step HWA.out)
     have HOV : Hid (Owns wa wr.heap.size 3 1 intE (.slice vA zs.length vc) zs) := Lib.hid hov
     clear hov hor hlr hba2
     have hbz : bq + 1 < wr.heap.size := sz
     go_wp2_with fail
     generalize wr = V2 at *
     go_loopw [16] (fun i wr => ∃ n : Nat, n ≤ zs.length ∧ i = .int .i64 n ∧ Below V1.heap.size V1 wr ∧ Bx wr bq [.string nm, .int .i64 cr, .int .i64 gr, .bool hm, .slice ns.a ns.n ns.c, .slice (some ⟨bc, oc, none⟩) q.fr.length fc] ∧ BlAt wr (bq + 1) (marksL (acc ++ zs.take n)) ∧ Owns wr V2.heap.size 3 1 intE (.slice vA zs.length vc) zs) (fun i _ => zs.length - (intOf i).toNat)
     case atStart => exact ⟨0, Nat.zero_le _, rfl, HBA.out, HQA.out, by simpa using HSA.out, HOV.out⟩
     case round =>
      clear HBA HQA HSA HOV
      obtain ⟨n, hn, rfl, hb3, hq3, hs3, ho3⟩ := hrel
      have HB3 := Lib.hid hb3
      have HQ3 := Lib.hid hq3
      have HS3 := Lib.hid hs3
      have HO3 := Lib.hid ho3
      by_cases hnl : n < zs.length
      ·obtain ⟨bz, oz, x, hzA, hbz2, hzk, hzc⟩ := (ho3.reads intE_len_).at_ hnl
       subst hzA
       have z0 := hzc 0 _ rfl
       simp only [Nat.add_zero, Nat.mul_one] at z0
       have HTK : Hid (acc ++ zs.take (n + 1) = (acc ++ zs.take n) ++ [x]) := Lib.hid (by rw [take_more hzk, List.append_assoc])
       have hV1 : bq < V1.heap.size + 1 := by have := HBQ.out; omega
       clear hb3 hq3 ho3 hzc hzk
       by_cases h0 : 0 ≤ x
       ·obtain ⟨m, rfl⟩ : ∃ m : Nat, x = m := ⟨x.toNat, by omega⟩
        by_cases h1 : m < 4096
        ·have m1 : (m : Int) < 4096 := by omega
         have hf1 := hs3.free m
         have hc1 := hs3.cell (i := m) (marksL_at _ m h1)
         have HSM := Lib.hid (marksL_set (acc ++ zs.take n) m h1)
         clear hs3
         go_wp2_with fail
         go_roundw
         case rel => exact ⟨n + 1, by omega, by go_num, HB3.out.setCell (by have := HBQ.out; show V1.heap.size ≤ bq + 1; omega) _, HQ3.out.farC (by show bq ≠ bq + 1; omega) _, by rw [HTK.out, ← HSM.out]; exact HS3.out.set m true, HO3.out.farS hbz _⟩
         case measure => simp [intOf]; omega
        ·have m1 : ¬ (m : Int) < 4096 := by omega
         have HSM := Lib.hid (marksL_out (acc ++ zs.take n) (m : Int) (by omega))
         clear hs3
         go_wp2_with fail
         go_roundw
         case rel => exact ⟨n + 1, by omega, by go_num, HB3.out, HQ3.out, by rw [HTK.out, HSM.out]; exact HS3.out, HO3.out⟩
         case measure => simp [intOf]; omega
       ·have HSM := Lib.hid (marksL_out (acc ++ zs.take n) x (by omega))
        clear hs3
        go_wp2_with fail
        go_roundw
        case rel => exact ⟨n + 1, by omega, by go_num, HB3.out, HQ3.out, by rw [HTK.out, HSM.out]; exact HS3.out, HO3.out⟩
        case measure => simp [intOf]; omega
      ·obtain rfl : zs.length = n := by omega
       rw [List.take_length] at HS3
       clear hb3 hq3 hs3 ho3
       go_wp2_with fail
       go_roundw
       case rel => exact ⟨j + 1, by omega, by go_num, HB3.out, HQ3.out, by rw [HAC.out]; exact HS3.out⟩
       case measure => simp [intOf]; omega
    ·obtain rfl : q.fr.length = j := by omega
     rw [List.take_length] at HS2
     obtain ⟨acc, hacc⟩ : ∃ a, a = q.fr.flatMap F := ⟨_, rfl⟩
     rw [← hacc] at HS2
     have HAC := Lib.hid hacc
     have f5 := HQ2.out.2.1 5
     clear hacc hjl hj
     go_wp2_with fail
     obtain ⟨W3, hW3⟩ : ∃ X, X = wr.setCell ⟨bq, 5, none⟩ (.slice (some ⟨wr.heap.size, 0, none⟩) 0 0) := ⟨_, rfl⟩
     have hz3 : W3.heap.size = wr.heap.size := by rw [hW3, World.size_setCell]
     obtain ⟨W4, hW4⟩ : ∃ X, X = W3.alloc (.cells #[] 3) := ⟨_, rfl⟩
     have hst : Below W3.heap.size W3 W4 := by rw [hW4]; exact (Below.refl _ _).alloc (Nat.le_refl _) _
     have hb3 : Below V1.heap.size V1 W3 := by rw [hW3]; exact HB2.out.setCell (by have := HBQ.out; show V1.heap.size ≤ bq; omega) _
     have HB4 : Hid (Below V1.heap.size V1 W4) := Lib.hid (hb3.trans (hst.mono hb3.size))
     have HQ4 : Hid (Bx W4 bq [.string nm, .int .i64 cr, .int .i64 gr, .bool hm, .slice ns.a ns.n ns.c, .slice (some ⟨wr.heap.size, 0, none⟩) 0 0]) := Lib.hid ((show Bx W3 bq _ by rw [hW3]; exact HQ2.out.setAt (i := 5) (by simp) _).step hst)
     have HS4 : Hid (BlAt W4 (bq + 1) (marksL acc)) := Lib.hid ((show BlAt W3 (bq + 1) (marksL acc) by rw [hW3]; exact HS2.out.far (by show bq + 1 ≠ bq; omega) _).step hst)
     have HO4 : Hid (Owns W4 (bq + 2) 3 1 intE (.slice (some ⟨wr.heap.size, 0, none⟩) 0 0) (setTo acc 0)) := Lib.hid (by rw [hW4, setTo_nil]; exact Owns.litx (w := W3) (base := bq + 2) (en := intE) (sz := 1) (ys := ([] : List Int)) intE_len_ _ hz3.symm rfl (by rw [hz3]; have := HS2.out.lt; omega) (by simp) 0 rfl)
     rw [← hW3]
     rw [← hW4]
     clear hW4 hW3 hz3 hb3 hst f5 p5 pz sz HB2 HQ2 HS2
     generalize wr.heap.size = bw at *
     go_loopw [17] (fun i wr => ∃ (n : Nat) (gA : Option Addr) (gl gc : Nat), n ≤ 4096 ∧ i = .int .i64 n ∧ gl = (setTo acc n).length ∧ Below V1.heap.size V1 wr ∧ Bx wr bq [.string nm, .int .i64 cr, .int .i64 gr, .bool hm, .slice ns.a ns.n ns.c, .slice gA gl gc] ∧ BlAt wr (bq + 1) (marksL acc) ∧ Owns wr (bq + 2) 3 1 intE (.slice gA gl gc) (setTo acc n)) (fun i _ => 4096 - (intOf i).toNat)
     case atStart => exact ⟨0, _, 0, _, by omega, rfl, rfl, HB4.out, HQ4.out, HS4.out, HO4.out⟩
     case round =>
      clear HB4 HQ4 HS4 HO4
      obtain ⟨n, gA, gl, gc, hn, rfl, hgl, hb5, hq5, hs5, ho5⟩ := hrel
      have HGL := Lib.hid hgl
      have HB5 := Lib.hid hb5
      have HQ5 := Lib.hid hq5
      have HS5 := Lib.hid hs5
      have HO5 := Lib.hid ho5
      have r0 := hq5.1 0 _ rfl
      have r1 := hq5.1 1 _ rfl
      have r2 := hq5.1 2 _ rfl
      have r3 := hq5.1 3 _ rfl
      have r4 := hq5.1 4 _ rfl
      have r5 := hq5.1 5 _ rfl
      have rz := hq5.2.2
      have sz := hs5.lt
      have hle := setTo_len acc n
      by_cases hnl : n < 4096
      ·have hc1 := hs5.cell (i := n) (marksL_at _ n hnl)
       have HSU := Lib.hid (setTo_succ acc n)
       obtain ⟨t, ht⟩ : ∃ t, t = acc.contains (n : Int) := ⟨_, rfl⟩
       rw [← ht] at hc1 HSU
       have hn2 : (n : Int) < 4096 := by omega
       clear ht hgl hb5 hq5 hs5 ho5
       cases t
       ·have HSV : Hid (setTo acc (n + 1) = setTo acc n) := Lib.hid (by rw [HSU.out]; rfl)
        go_wp2_with fail
        go_roundw
        case rel => exact ⟨n + 1, gA, gl, gc, by omega, by go_num, by rw [HSV.out]; exact HGL.out, HB5.out, HQ5.out, HS5.out, by rw [HSV.out]; exact HO5.out⟩
        case measure => simp [intOf]; omega
       ·have HSV : Hid (setTo acc (n + 1) = setTo acc n ++ [(n : Int)]) := Lib.hid (by rw [HSU.out]; rfl)
        obtain ⟨ys, hys⟩ : ∃ ys, ys = setTo acc n := ⟨_, rfl⟩
        rw [← hys] at HSV HO5 HGL hle
        obtain rfl := HGL.out
        clear hys
        go_wp2_with (at_builtin; refine stop_mk ?_)
        refine stop_out (wpList_append_reads (en := intE) (sz := 1) _ rfl _ _ _ rfl intE_len_ intE_one_ (bq + 2) 3 i2 _ 8 Tryz.underlying64 HI2.out hy0 hy1 hy2 rfl (by omega) _ ys rfl (HO5.out.alloc _) (wr.heap.size + 1) (some ⟨wr.heap.size, 0, none⟩) 1 [(n : Int)] rfl (reads_one wr intE (n : Int) _ _ rfl 1 wr.heap.size rfl) (fun h => by cases h) (by simp [maxLen]; omega) (by simp; omega) (by simp; omega) ?_)
        intro v24 w6 ho6 hg6 hob6 _
        obtain ⟨ys2, hys2⟩ : ∃ z, z = ys ++ [(n : Int)] := ⟨_, rfl⟩
        rw [← hys2] at ho6 HSV
        obtain ⟨gA2, gc2, rfl, _, _⟩ := ho6.shape
        have hgb := HO5.out.base_le
        have HB6 : Hid (Below V1.heap.size V1 w6) := Lib.hid ((HB5.out.alloc HB5.out.size _).grown hg6 (by have := HB5.out.size; simp; omega) (fun g e => by have := hgb g e; have := HBQ.out; omega))
        have HQ6 : Hid (Bx w6 bq [.string nm, .int .i64 cr, .int .i64 gr, .bool hm, .slice ns.a ns.n ns.c, .slice gA ys.length gc]) := Lib.hid ((HQ5.out.alloc _).keep (P := fun y => y = bq) (Kp.of_grown2 hg6 (fun y hy e => by have := hgb y e.symm; omega)) rfl)
        have HS6 : Hid (BlAt w6 (bq + 1) (marksL acc)) := Lib.hid ((HS5.out.step ((Below.refl _ _).alloc (Nat.le_refl _) _)).grown hg6 (fun e => by have := hgb _ e.symm; omega))
        have HO6 := Lib.hid ho6
        have f5 := HQ6.out.2.1 5
        have s5 := HQ6.out.1 5 _ rfl
        clear ho6 hg6 hob6 hys2 r0 r1 r2 r3 r4 r5 rz sz hc1 hgb
        go_wp2_with fail
        go_roundw
        case rel => exact ⟨n + 1, gA2, ys2.length, gc2, by omega, by go_num, by rw [HSV.out], HB6.out.setCell (by have := HBQ.out; show V1.heap.size ≤ bq; omega) _, HQ6.out.setAt (i := 5) (by simp) _, HS6.out.far (by show bq + 1 ≠ bq; omega) _, by rw [HSV.out]; exact HO6.out.farS (by omega) _⟩
        case measure => simp [intOf]; omega
      ·obtain rfl : n = 4096 := by omega
       rw [setTo_all] at HO5 HGL
       obtain ⟨ys, hys⟩ : ∃ ys, ys = setL acc := ⟨_, rfl⟩
       rw [← hys] at HO5 HGL
       have HYS : Hid (ys = extFr d.fs term known q.fr) := Lib.hid (by rw [hys, HAC.out, HF.out]; rfl)
       obtain rfl := HGL.out
       have hI5 := HI.out.step HB5.out
       have HI5 := Lib.hid hI5
       have hzz := HB5.out.size
       have hw3 : w.heap.size + 3 ≤ wr.heap.size := by omega
       have hkk : hsD.length ≤ 70 := by have := HKL.out; omega
       have HOW := Lib.hid hI5.ow
       clear hgl hb5 hq5 hs5 ho5 hys hI5
       go_wp2_with (at_builtin; refine stop_mk ?_)
       refine stop_out (wpList_append_reads (en := RqH.enc) (sz := 6) _ rfl _ _ _ rfl RqH.enc_len RqH.enc_one (w.heap.size + 3) 67 i0 _ 88 Tryz.underlying42 HI0.out hz0 hz1 hz2 rfl (by omega) _ hsD rfl (HOW.out.alloc _) (wr.heap.size + 1) (some ⟨wr.heap.size, 0, none⟩) 1 [(⟨nm, cr, gr, hm, ns, ⟨gA, ys.length, gc⟩⟩ : RqH)] rfl (reads_one wr RqH.enc (⟨nm, cr, gr, hm, ns, ⟨gA, ys.length, gc⟩⟩ : RqH) _ _ rfl 6 wr.heap.size rfl) (fun h => by cases h) (by simp [maxLen]; omega) (by simp; omega) (by simp; omega) ?_)
       intro v24 w6 ho6 hg6 hob6 _
       have hst : Below wr.heap.size wr (wr.alloc (.cells #[.string nm, .int .i64 cr, .int .i64 gr, .bool hm, .slice ns.a ns.n ns.c, .slice gA ys.length gc] 67)) := (Below.refl _ _).alloc (Nat.le_refl _) _
       have HX6 : Hid (ExL w d p ⟨some ⟨ba, oa, none⟩, p.reqs.length, rc⟩ term known (hsD ++ [(⟨nm, cr, gr, hm, ns, ⟨gA, ys.length, gc⟩⟩ : RqH)]) v24 w6) := Lib.hid ((HI5.out.step hst).app hg6 hob6 ho6 (fun q' hq' => by
        rw [HKL.out, HQK.out] at hq'
        cases hq'
        obtain ⟨e1, e2, e3⟩ := HEQ.out
        refine ⟨e1, e2, e3, ?_⟩
        have h1 := (SlR.of_owns intE_len_ HO5.out).step hst
        rw [HYS.out] at h1
        rw [HYS.out]
        refine h1.mono (fun b hb => ⟨by omega, fun e => ?_⟩)
        have := HI.out.ow.lt b e
        have := HBQ.out
        omega))
       obtain ⟨A8, c8, rfl, _, _⟩ := ho6.shape
       simp only [List.length_append, List.length_cons, List.length_nil, Nat.zero_add] at HX6
       clear ho6 hg6 hob6 hst r0 r1 r2 r3 r4 r5 rz sz
       go_wp2_with fail
       go_roundw
       case rel => exact ⟨k + 1, hsD ++ [(⟨nm, cr, gr, hm, ns, ⟨gA, ys.length, gc⟩⟩ : RqH)], by omega, by go_num, by simp [HKL.out], HX6.out⟩
       case measure => simp [intOf]; omega
  ·obtain rfl : p.reqs.length = k := by omega
   have f6 := HI.out.x1.2.1 6
   obtain ⟨y0, y1, y2⟩ := HI.out.x1
   have s0 := y0 0 _ rfl
   have s1 := y0 1 _ rfl
   have s2 := y0 2 _ rfl
   have s3 := y0 3 _ rfl
   have s4 := y0 4 _ rfl
   have s5 := y0 5 _ rfl
   have hx2 : Bx wr (w.heap.size + 1 + 1) [.string ⟨#[]⟩, .int .i64 0, .int .i64 0, .int .i64 0, .int .i64 0, .int .i64 0, .slice none 0 0] := HI.out.x2
   obtain ⟨z0, z1, z2⟩ := hx2
   have t0 := z1 0
   have t1 := z1 1
   have t2 := z1 2
   have t3 := z1 3
   have t4 := z1 4
   have t5 := z1 5
   have t6 := z1 6
   have u0 := z0 0 _ rfl
   have u1 := z0 1 _ rfl
   have u2 := z0 2 _ rfl
   have u3 := z0 3 _ rfl
   have u4 := z0 4 _ rfl
   have u5 := z0 5 _ rfl
   have u6 := z0 6 _ rfl
   have ne : w.heap.size + 1 ≠ w.heap.size + 1 + 1 := by omega
   clear y0 y1 y2 z0 z1
   obtain ⟨WF, hWF⟩ : ∃ X, X = (((((((wr.setCell ⟨w.heap.size + 1, 6, none⟩ (.slice A9 hsD.length c9)).setCell ⟨w.heap.size + 1 + 1, 0, none⟩ (.string p.nm)).setCell ⟨w.heap.size + 1 + 1, 1, none⟩ (.int .i64 p.number)).setCell ⟨w.heap.size + 1 + 1, 2, none⟩ (.int .i64 p.uses)).setCell ⟨w.heap.size + 1 + 1, 3, none⟩ (.int .i64 p.earn)).setCell ⟨w.heap.size + 1 + 1, 4, none⟩ (.int .i64 p.mean.num)).setCell ⟨w.heap.size + 1 + 1, 5, none⟩ (.int .i64 p.mean.den)).setCell ⟨w.heap.size + 1 + 1, 6, none⟩ (.slice A9 hsD.length c9) := ⟨_, rfl⟩
   have st : ∀ (X : World) (b o k : Nat) (v : Value), k ≠ b → (X.setCell ⟨b, o, none⟩ v).heap[k]? = X.heap[k]? := fun X b o k v hk => Below.heap_setCell _ _ _ _ (by first | exact hk | exact hk.symm)
   have hkp : Kp (fun b => w.heap.size + 3 ≤ b) wr WF := ⟨by rw [hWF]; simp [World.setCell], fun b hb _ => by
    rw [hWF, st _ _ _ _ _ (by omega), st _ _ _ _ _ (by omega), st _ _ _ _ _ (by omega), st _ _ _ _ _ (by omega), st _ _ _ _ _ (by omega), st _ _ _ _ _ (by omega), st _ _ _ _ _ (by omega), st _ _ _ _ _ (by omega)]⟩
   have hbW : Below w.heap.size w WF := by
    rw [hWF]
    refine (((((((HI.out.bw.setCell ?_ _).setCell ?_ _).setCell ?_ _).setCell ?_ _).setCell ?_ _).setCell ?_ _).setCell ?_ _).setCell ?_ _
    all_goals (first | (show w.heap.size ≤ w.heap.size + 1; omega) | (show w.heap.size ≤ w.heap.size + 1 + 1; omega))
   have hRR : Rqs WF (fun b => w.heap.size ≤ b) ⟨A9, hsD.length, c9⟩ (extP d.fs term known p).reqs := by
    refine ⟨hsD, ((SlR.of_owns RqH.enc_len HI.out.ow).keep hkp).mono (fun b hb => by omega), by rw [HKL.out]; simp [extP], fun i h q h1 h2 => ?_⟩
    unfold extP at h2
    simp only [List.getElem?_map, Option.map_eq_some_iff] at h2
    obtain ⟨q', hq', rfl⟩ := h2
    obtain ⟨a1, a2, a3, a4⟩ := HI.out.el i h q' h1 hq'
    exact ⟨a1, a2, a3, (a4.keep ⟨hkp.1, fun b hb hl => hkp.2 b hb.1 hl⟩).mono (fun b hb => by have := hb.1; omega)⟩
   have HWF := Lib.hid hWF
   have HRR := Lib.hid hRR
   have HBF := Lib.hid hbW
   clear hWF st hkp hbW hRR
   go_wp2_with fail
   rw [← HWF.out]
   refine bodyPost_ret (v := .agg #[.string p.nm, .int .i64 p.number, .int .i64 p.uses, .int .i64 p.earn, .int .i64 p.mean.num, .int .i64 p.mean.den, .slice A9 hsD.length c9]) (by rw [HWF.out]; simp [results, Tryz.results13, go_sem, u0, u1, u2, u3, u4, u5, u6, t0, t1, t2, t3, t4, t5, t6]) rfl ⟨⟨⟨A9, hsD.length, c9⟩, rfl, HRR.out⟩, HBF.out⟩
end Go.Proofs.YtalmbigebjbaoaaGreatDoor
