/- TopDegree, what its proof leans on: the texts TpD. -/
import Derived.Test.YtalmbigebjbaoaaGreatDoorM33
import Derived.Test.YtalmbigebjbaoaaGreatDoorM34
import Derived.Test.YtalmbigebjbaoaaGreatDoorM30
import Derived.Deep.CutRange
import Derived.WalkMore
namespace Go.Proofs.YtalmbigebjbaoaaGreatDoor
open Go.RowKit Go.Shelf
set_option linter.unusedSimpArgs false
set_option linter.unusedVariables false
attribute [local go_sem] Oper.semAt_some
structure EqI (w : World) (mb : Nat) (O : Nat → Prop) (Wr : World) (l : List Int) (v8 : Value) (rs : List Rd) (v9 : Value) (W : World) : Prop where
 mp : ∃ L, MapIs W mb L ∧ SetM L l
 ow : Owns W w.heap.size 3 1 intE v8 l
 rd : Owns W w.heap.size 130 5 Rd.enc v9 rs
 a8 : ∀ k, v8.ownBlock = some k → k ≠ mb ∧ v9.ownBlock ≠ some k
 a9 : v9.ownBlock ≠ some mb
 bw : Below w.heap.size w W
 mz : w.heap.size < mb
 ot : ∀ k, O k → k < W.heap.size ∧ k ≠ mb ∧ v8.ownBlock ≠ some k ∧ v9.ownBlock ≠ some k ∧ W.heap[k]? = Wr.heap[k]?
section
variable {w Wr W W1 W2 : World} {mb : Nat} {O O' : Nat → Prop} {l : List Int} {v8 v8' v9 v9' : Value} {rs : List Rd}
theorem EqI.mlt (h : EqI w mb O Wr l v8 rs v9 W) : mb < W.heap.size := by
 obtain ⟨L, h1, _⟩ := h.mp
 exact h1.lt
theorem EqI.step (h : EqI w mb O Wr l v8 rs v9 W) (hb : Below W.heap.size W W1) : EqI w mb O Wr l v8 rs v9 W1 :=
 ⟨let ⟨L, h1, h2⟩ := h.mp; ⟨L, h1.below hb h1.lt, h2⟩, h.ow.below hb (Nat.le_refl _), h.rd.below hb (Nat.le_refl _), h.a8, h.a9, h.bw.trans (hb.mono h.bw.size), h.mz, fun k hk => by
   obtain ⟨a1, a2, a3, a4, a5⟩ := h.ot k hk
   exact ⟨Nat.lt_of_lt_of_le a1 hb.size, a2, a3, a4, (hb.block k a1).trans a5⟩⟩
theorem EqI.other (h : EqI w mb O Wr l v8 rs v9 W) (ho : ∀ k, O' k → k < W.heap.size ∧ k ≠ mb ∧ v8.ownBlock ≠ some k ∧ v9.ownBlock ≠ some k) : EqI w mb O' W l v8 rs v9 W :=
 ⟨h.mp, h.ow, h.rd, h.a8, h.a9, h.bw, h.mz, fun k hk => by obtain ⟨a1, a2, a3, a4⟩ := ho k hk; exact ⟨a1, a2, a3, a4, rfl⟩⟩
theorem EqI.back (h : EqI w mb O' W1 l v8 rs v9 W) (hO : ∀ k, O k → O' k) (h1 : ∀ k, O k → W1.heap[k]? = Wr.heap[k]?) : EqI w mb O Wr l v8 rs v9 W :=
 ⟨h.mp, h.ow, h.rd, h.a8, h.a9, h.bw, h.mz, fun k hk => by obtain ⟨a1, a2, a3, a4, a5⟩ := h.ot k (hO k hk); exact ⟨a1, a2, a3, a4, a5.trans (h1 k hk)⟩⟩
theorem EqI.read {rs' : List Rd} (h : EqI w mb O Wr l v8 rs v9 W) (hg : W.grownBy W2 v9.ownBlock) (ho : v9'.ownBlock = v9.ownBlock ∨ v9'.ownBlock = some W.heap.size) (hn : Owns W2 w.heap.size 130 5 Rd.enc v9' rs') : EqI w mb O Wr l v8 rs' v9' W2 := by
 have hlt := h.ow.lt
 have hml := h.mlt
 have blk : ∀ k, k < W.heap.size → v9.ownBlock ≠ some k → W2.heap[k]? = W.heap[k]? := fun k hk h2 => hg.block k hk (fun e => h2 e.symm)
 refine ⟨?_, h.ow.same (fun k e => blk k (hlt k e) (h.a8 k e).2), hn, fun k e => ⟨(h.a8 k e).1, fun e2 => ?_⟩, fun e2 => ?_, h.bw.grown hg h.bw.size (fun q e => h.rd.base_le q e), h.mz, fun k hk => ?_⟩
 ·obtain ⟨L, h1, h2⟩ := h.mp
  exact ⟨L, h1.grown_ hg h.a9, h2⟩
 ·rcases ho with ho | ho
  ·exact (h.a8 k e).2 (ho ▸ e2)
  ·rw [ho] at e2
   cases e2
   have := hlt _ e
   omega
 ·rcases ho with ho | ho
  ·exact h.a9 (ho ▸ e2)
  ·rw [ho] at e2
   cases e2
   omega
 ·obtain ⟨a1, a2, a3, a4, a5⟩ := h.ot k hk
  refine ⟨Nat.lt_of_lt_of_le a1 hg.size, a2, a3, fun e2 => ?_, (blk k a1 a4).trans a5⟩
  rcases ho with ho | ho
  ·exact a4 (ho ▸ e2)
  ·rw [ho] at e2
   cases e2
   omega
theorem EqI.find {L : List (Int × Value)} {x : Int} {Wa : World} (h : EqI w mb O Wr l v8 rs v9 W) (hm : MapIs W1 mb L) (hs : SetM L (l ++ [x])) (hg1 : W.grownBy W1 (some mb)) (hb : Below W1.heap.size W1 Wa) (hg : Wa.grownBy W2 v8.ownBlock) (ho : v8'.ownBlock = v8.ownBlock ∨ v8'.ownBlock = some Wa.heap.size) (hn : Owns W2 w.heap.size 3 1 intE v8' (l ++ [x])) :
 EqI w mb O Wr (l ++ [x]) v8' rs v9 W2 := by
 have hlt := h.ow.lt
 have hrl := h.rd.lt
 have hml := h.mlt
 have hs1 := hg1.size
 have hs2 := hb.size
 have blk : ∀ k, k < W.heap.size → k ≠ mb → v8.ownBlock ≠ some k → W2.heap[k]? = W.heap[k]? := fun k hk h1 h2 => (hg.block k (by omega) (fun e => h2 e.symm)).trans ((hb.block k (by omega)).trans (hg1.block k hk (fun e => h1 (by injection e))))
 refine ⟨⟨L, (hm.below hb hm.lt).grown_ hg (fun e => (h.a8 mb e).1 rfl), hs⟩, hn, h.rd.same (fun k e => blk k (hrl k e) (fun e2 => h.a9 (e2 ▸ e)) (fun e2 => (h.a8 k e2).2 e)), fun k e => ?_, h.a9, ?_, h.mz, fun k hk => ?_⟩
 ·rcases ho with ho | ho
  ·exact h.a8 k (ho ▸ e)
  ·rw [ho] at e
   cases e
   exact ⟨by omega, fun e2 => by have := hrl _ e2; omega⟩
 ·exact (((h.bw.grown hg1 h.bw.size (fun q e => by cases e; exact Nat.le_of_lt h.mz)).trans (hb.mono (Nat.le_trans h.bw.size hs1)))).grown hg (Nat.le_trans h.bw.size (Nat.le_trans hs1 hs2)) (fun q e => h.ow.base_le q e)
 ·obtain ⟨a1, a2, a3, a4, a5⟩ := h.ot k hk
  refine ⟨Nat.lt_of_lt_of_le a1 (Nat.le_trans hs1 (Nat.le_trans hs2 hg.size)), a2, fun e => ?_, a4, (blk k a1 a2 a3).trans a5⟩
  rcases ho with ho | ho
  ·exact a3 (ho ▸ e)
  ·rw [ho] at e
   cases e
   omega
end
theorem eqIn_grow (same : Int → Int → Bool) (x : Int) : ∀ (cs l : List Int), ∃ t, eqIn same x cs l = l ++ t
 | [], l => ⟨[], by simp [eqIn]⟩
 | y :: cs, l => by
   obtain ⟨t, ht⟩ := eqStep_grow same x y l
   obtain ⟨u, hu⟩ := eqIn_grow same x cs (eqStep same x l y)
   exact ⟨t ++ u, by rw [show eqIn same x (y :: cs) l = eqIn same x cs (eqStep same x l y) from rfl, hu, ht, List.append_assoc]⟩
set_option maxRecDepth 100000 in
set_option maxHeartbeats 16000000 in
theorem bkEqual_any {P : Nat → Prop} (d : Wd) (c term known : Int) (w : World) (h : d.Ok w P) (hf : d.fs.length ≤ 100) :
 Calls Tryz.prog 24 #[d.v, .int .i64 c, .int .i64 term, .int .i64 known] w fun e w' =>
  (∃ (v : Sl) (v9 : Value) (rs : List Rd), e = .returned (.tuple #[.slice v.a v.n v.c, v9]) ∧ Owns w' w.heap.size 3 1 intE (.slice v.a v.n v.c) (eqF d.fs c term known) ∧ Owns w' w.heap.size 130 5 Rd.enc v9 rs ∧ rs.length ≤ 10301) ∧ Below w.heap.size w w' := by
 have hfs := h.fs.reads
 have hfn := h.fs.1
 have HNU := Lib.hid (fun W (h2 : Below w.heap.size w W) => bkNumbers_own d known W (h.keep (Kp.of_below h2)) (by omega))
 obtain ⟨⟨A1, n1, c1⟩, ⟨A2, n2, c2⟩, ⟨A3, n3, c3⟩, ⟨A4, n4, c4⟩, cs, ps, fs⟩ := d
 simp only at hfs hfn hf ⊢
 subst hfn
 have HF := Lib.hid hfs
 clear h hfs
 simp only [Wd.v] at HNU ⊢
 have H2 : Hid (Below w.heap.size w (w.alloc (.cells #[.slice A1 n1 c1, .slice A2 n2 c2, .slice A3 n3 c3, .slice A4 fs.length c4] 29))) := Lib.hid ((Below.refl _ _).alloc (Nat.le_refl _) _)
 have HB0 : Hid (Bx (w.alloc (.cells #[.slice A1 n1 c1, .slice A2 n2 c2, .slice A3 n3 c3, .slice A4 fs.length c4] 29)) w.heap.size [.slice A1 n1 c1, .slice A2 n2 c2, .slice A3 n3 c3, .slice A4 fs.length c4]) := Lib.hid (Bx.new w [.slice A1 n1 c1, .slice A2 n2 c2, .slice A3 n3 c3, .slice A4 fs.length c4] _)
 obtain ⟨R, hR⟩ : ∃ R, R = eqF fs c term known := ⟨_, rfl⟩
 rw [← hR]
 have HR := Lib.hid hR
 clear hR
 cases t0 : inB c 0 4095
 ·have T0 := Lib.hid t0
  have HE : Hid (R = [c]) := Lib.hid (by rw [HR.out]; unfold eqF; rw [t0]; rfl)
  clear t0
  go_enter Tryz.func24, Tryz.ntmps24
  go_wp2_with fail
  refine (bkIn_any _ _ _ _).mono ?_
  rw [T0.out]
  rintro e w1 ⟨rfl, rfl⟩
  go_wp2_with fail
  go_ret2
  refine ⟨⟨⟨some ⟨w.heap.size + 1, 0, none⟩, 1, 1⟩, .slice none 0 0, [], rfl, ?_, Owns.nil_ _ _ _ _ _, by simp⟩, H2.out.alloc (by simp) _⟩
  rw [HE.out]
  have h := Owns.lit (w := w.alloc (.cells #[.slice A1 n1 c1, .slice A2 n2 c2, .slice A3 n3 c3, .slice A4 fs.length c4] 29)) (base := w.heap.size) (ys := [c]) (en := intE) (sz := 1) (e := 3) intE_len_ (cs := #[.int .i64 c]) rfl (by simp) (by simp [maxLen])
  simpa using h
 have T0 := Lib.hid t0
 cases t1 : inB term 0 1023
 ·have T1 := Lib.hid t1
  have HE : Hid (R = [c]) := Lib.hid (by rw [HR.out]; unfold eqF; rw [t0, t1]; rfl)
  clear t0 t1
  go_enter Tryz.func24, Tryz.ntmps24
  go_wp2_with fail
  refine (bkIn_any _ _ _ _).mono ?_
  rw [T0.out]
  rintro e w1 ⟨rfl, rfl⟩
  go_wp2_with fail
  refine (bkIn_any _ _ _ _).mono ?_
  rw [T1.out]
  rintro e w1 ⟨rfl, rfl⟩
  go_wp2_with fail
  go_ret2
  refine ⟨⟨⟨some ⟨w.heap.size + 1, 0, none⟩, 1, 1⟩, .slice none 0 0, [], rfl, ?_, Owns.nil_ _ _ _ _ _, by simp⟩, H2.out.alloc (by simp) _⟩
  rw [HE.out]
  have h := Owns.lit (w := w.alloc (.cells #[.slice A1 n1 c1, .slice A2 n2 c2, .slice A3 n3 c3, .slice A4 fs.length c4] 29)) (base := w.heap.size) (ys := [c]) (en := intE) (sz := 1) (e := 3) intE_len_ (cs := #[.int .i64 c]) rfl (by simp) (by simp [maxLen])
  simpa using h
 have T1 := Lib.hid t1
 obtain ⟨N, hN⟩ : ∃ N, N = numsF fs known := ⟨_, rfl⟩
 obtain ⟨same, hsame⟩ : ∃ same, same = sameB fs term known := ⟨_, rfl⟩
 obtain ⟨G, hG⟩ : ∃ G, G = eqL same N c := ⟨_, rfl⟩
 have HE : Hid (R = sortI G) := Lib.hid (by rw [HR.out]; unfold eqF; rw [t0, t1, hG, hsame, hN]; rfl)
 have hNl : N.length ≤ 100 := by rw [hN]; exact Nat.le_trans (numsF_len _ _) hf
 have hterm : 0 ≤ term ∧ term ≤ 1023 := by simpa [inB] using t1
 rw [← hN] at HNU
 have HSAME : Hid (∀ x y, same x y = decide (atF fs ⟨2, min x y, max x y⟩ term known = (1, true))) := Lib.hid (fun x y => by rw [hsame]; rfl)
 have HG := Lib.hid hG
 obtain ⟨i0, hi0, hz0, hz1, hz2⟩ := info_parts Tryz.infoInt
 have HII := Lib.hid hi0
 obtain ⟨iR, hiR, hzR0, hzR1, hzR2⟩ := info_parts Tryz.infoRd
 have HIR := Lib.hid hiR
 clear hi0 hiR
 clear t0 t1 hN hsame hG
 go_enter Tryz.func24, Tryz.ntmps24
 go_wp2_with fail
 refine (bkIn_any _ _ _ _).mono ?_
 rw [T0.out]
 rintro e w1 ⟨rfl, rfl⟩
 go_wp2_with fail
 refine (bkIn_any _ _ _ _).mono ?_
 rw [T1.out]
 rintro e w1 ⟨rfl, rfl⟩
 go_wp2_with fail
 refine (HNU.out _ H2.out).mono ?_
 rintro e w1 ⟨⟨⟨A10, n10, c10⟩, ⟨A9, n9, c9⟩, rfl, hns, _, rs0, hrs, hrl, hap⟩, hb1⟩
 simp only at hns hrs hap
 obtain ⟨A10', c10', hne, _, _⟩ := hns.shape
 simp only [Value.slice.injEq] at hne
 obtain ⟨rfl, rfl, rfl⟩ := hne
 have HNS := Lib.hid hns
 have HRS := Lib.hid hrs
 have HAP := Lib.hid hap
 have HX0 := Lib.hid (HB0.out.step hb1)
 have HB1 : Hid (Below w.heap.size w w1) := Lib.hid (H2.out.trans (hb1.mono H2.out.size))
 have hws : w.heap.size < w1.heap.size := HX0.out.2.2
 clear hns hrs hap hb1
 go_upto_region 5 with fail
 have hmm := @run_makeMap Tryz.prog
 obtain ⟨W2, hW2⟩ : ∃ X, X = w1.alloc (.cells #[.int .i64 c] 3) := ⟨_, rfl⟩
 obtain ⟨q, hq⟩ : ∃ q, q = w1.heap.size := ⟨_, rfl⟩
 have hb2 : Below w1.heap.size w1 W2 := by rw [hW2]; exact (Below.refl _ _).alloc (Nat.le_refl _) _
 have hz2 : W2.heap.size = q + 1 := by rw [hW2, hq]; simp
 have hl2 : Owns W2 w.heap.size 3 1 intE (.slice (some ⟨q, 0, none⟩) 1 1) [c] := by
  rw [hW2, hq]
  exact Owns.lit (ys := [c]) intE_len_ rfl HB1.out.size (by simp [maxLen])
 obtain ⟨mb, hmb⟩ : ∃ mb, mb = W2.heap.size := ⟨_, rfl⟩
 obtain ⟨W4, hrun, hu4, hg4, hsz4⟩ := upd_set (MapIs.new W2 0) c (.bool true)
 have hb3 : Below W2.heap.size W2 (W2.alloc (.map #[] 0)) := (Below.refl _ _).alloc (Nat.le_refl _) _
 have hwz := HB1.out.size
 have hq1 : ∀ k, (Value.slice A9 n9 c9).ownBlock = some k → k < q := fun k e => by have := HRS.out.lt k e; omega
 have hq2 : ∀ k, (Value.slice A10 N.length c10).ownBlock = some k → k < q := fun k e => by have := HNS.out.lt k e; omega
 have hq3 : ∀ k, (Value.slice A10 N.length c10).ownBlock = some k → w.heap.size + 1 ≤ k := fun k e => by have := HNS.out.base_le k e; simpa using this
 have hq4 : ∀ k, (Value.slice A9 n9 c9).ownBlock = some k → w.heap.size + 1 ≤ k := fun k e => by have := HRS.out.base_le k e; simpa using this
 have hq8 : ∀ k, (Value.slice (some ⟨q, 0, none⟩) 1 1).ownBlock = some k → k = q := fun k e => by simpa [Value.ownBlock, eq_comm] using e
 have hrow : ∀ k, k < mb → W4.heap[k]? = W2.heap[k]? := fun k hk => (hg4.block k (by simp; omega) (fun e => by injection e with e; omega)).trans (hb3.block k (by omega))
 have hblk : ∀ k, k < q → W4.heap[k]? = w1.heap[k]? := fun k hk => (hrow k (by omega)).trans (hb2.block k (by omega))
 have hX4 : Hid (Bx W4 w.heap.size [.slice A1 n1 c1, .slice A2 n2 c2, .slice A3 n3 c3, .slice A4 fs.length c4]) := Lib.hid (HX0.out.keep (P := fun y => y = w.heap.size) ⟨by rw [hsz4]; simp; omega, fun k e _ => hblk k (by omega)⟩ rfl)
 have HN4 : Hid (Owns W4 (w.heap.size + 1) 3 1 intE (.slice A10 N.length c10) N) := Lib.hid ((HNS.out.same (fun k e => hblk k (hq2 k e))).base' (by simp))
 have HI0 : Hid (EqI w mb (fun k => k = w.heap.size ∨ (Value.slice A10 N.length c10).ownBlock = some k) W4 [c] (.slice (some ⟨q, 0, none⟩) 1 1) rs0 (.slice A9 n9 c9) W4) := Lib.hid
  ⟨⟨_, by rw [hmb]; exact hu4, SetM.nil_.add c⟩, hl2.same (fun k e => hrow k (by have := hq8 k e; omega)), (HRS.out.same (fun k e => hblk k (hq1 k e))).base' (by simp),
    fun k e => by have := hq8 k e; exact ⟨by omega, fun e2 => by have := hq1 k e2; omega⟩, fun e => by have := hq1 mb e; omega,
    ((HB1.out.trans (hb2.mono hwz)).trans (hb3.mono (by omega))).grown hg4 (by simp; omega) (fun k e => by injection e with e; omega), by omega,
    fun k hk => by
     have hkq : k < q := by rcases hk with hk | hk; omega; exact hq2 k hk
     refine ⟨by rw [hsz4]; simp; omega, by omega, fun e => by have := hq8 k e; omega, fun e => ?_, rfl⟩
     rcases hk with hk | hk
     ·have := hq4 k e; omega
     ·exact HAP.out k hk e⟩
 rw [← hW2, ← hq]
 rw [← hmb] at hrun
 have hmb2 : W2.heap.size = mb := hmb.symm
 clear hW2 hq hb2 hz2 hl2 hu4 hg4 hsz4 hb3 hq1 hq2 hq3 hq4 hq8 hrow hblk hmb
 go_upto_block 0 with fail
 obtain ⟨O, hO⟩ : ∃ O : Nat → Prop, O = fun k => k = w.heap.size ∨ (Value.slice A10 N.length c10).ownBlock = some k := ⟨_, rfl⟩
 rw [← hO] at HI0
 have HO1 : Hid (O w.heap.size) := Lib.hid (by rw [hO]; exact .inl rfl)
 have HO2 : Hid (∀ k, (Value.slice A10 N.length c10).ownBlock = some k → O k) := Lib.hid (fun k e => by rw [hO]; exact .inr e)
 clear hO hrun hmm hmb2
 go_wp2_with fail
 go_loopw [12, 8, 9] (fun i v8 v9 wr => ∃ (k : Nat) (l : List Int) (rs : List Rd), k ≤ 101 ∧ i = .int .i64 k ∧ EqOk N c l ∧ k ≤ l.length ∧ eqGo same N (N.length + 1 - k) k l = G ∧ rs.length ≤ 1 + 100 * k ∧ EqI w mb O W4 l v8 rs v9 wr) (fun i _ _ _ => N.length + 1 - (intOf i).toNat)
 case atStart => exact ⟨0, [c], rs0, by omega, rfl, EqOk.start N c, by simp, HG.out.symm, by omega, HI0.out⟩
 case round =>
  clear HI0
  obtain ⟨k, l, rs, hk, rfl, hok, hkl, hgo, hrs, hI⟩ := hrel
  obtain ⟨wo, hwo⟩ : ∃ X, X = wr := ⟨_, rfl⟩
  subst hwo
  obtain ⟨A8, c8, rfl, _, _⟩ := hI.ow.shape
  have HI := Lib.hid hI
  have HOK := Lib.hid hok
  have HGO := Lib.hid hgo
  have hll := hok.len
  clear hI hok hgo
  by_cases hlt : k < l.length
  ·obtain ⟨x, hxk⟩ : ∃ x, l[k]? = some x := ⟨_, List.getElem?_eq_getElem hlt⟩
   have HXK := Lib.hid hxk
   clear hxk
   go_wp2_with fail
   go_step3
   go_wp2_with fail
   go_step3
   go_wp2_with fail
   go_loopw [47, 8, 9] (fun i v8 v9 wr2 => ∃ (t : Nat) (rs2 : List Rd), t ≤ N.length ∧ i = .int .i64 t ∧ rs2.length ≤ 1 + 100 * k + t ∧ EqI w mb O W4 (eqIn same x (N.take t) l) v8 rs2 v9 wr2) (fun i _ _ _ => N.length - (intOf i).toNat)
   case atStart => exact ⟨0, rs, Nat.zero_le _, rfl, by omega, HI.out⟩
   case round =>
    clear HI
    obtain ⟨t, rs2, ht, rfl, hrs2, hI⟩ := hrel
    obtain ⟨l2, hl2⟩ : ∃ l2, l2 = eqIn same x (N.take t) l := ⟨_, rfl⟩
    rw [← hl2] at hI
    have hxk2 : l2[k]? = some x := by
     obtain ⟨u, hu⟩ := eqIn_grow same x (N.take t) l
     rw [hl2, hu, List.getElem?_append_left hlt]
     exact HXK.out
    have hok2 : EqOk N c l2 := by rw [hl2]; exact HOK.out.inner same x _ (fun z hz => List.mem_of_mem_take hz)
    have hll2 := hok2.len
    have hlt2 : k < l2.length := (List.getElem?_eq_some_iff.1 hxk2).1
    obtain ⟨A8, c8, rfl, _, _⟩ := hI.ow.shape
    have HI := Lib.hid hI
    have HL2 := Lib.hid hl2
    have HX2 := Lib.hid hxk2
    have HNr : Hid (Reads wr wr.heap.size (some ⟨0, 0, none⟩) 1 intE ([] : List Int) → Reads wr wr.heap.size A10 1 intE N) := Lib.hid (fun _ => (HN4.out.same (fun k e => (hI.ot k (HO2.out k e)).2.2.2.2)).reads intE_len_)
    by_cases hlt3 : t < N.length
    ·obtain ⟨ba, oa, y, rfl, hba, hyk, hca⟩ := (HNr.out Reads.nil_).at_ hlt3
     have a0 := hca 0 _ rfl
     simp only [Nat.add_zero, Nat.mul_one] at a0
     have HST := Lib.hid (eqIn_take same x N t y l hyk)
     have hyN : Hid (y ∈ N) := Lib.hid (List.mem_of_getElem? hyk)
     obtain ⟨L, hmp, hst⟩ := hI.mp
     have hlkp := look_set hmp hst y
     have HMP := Lib.hid hmp
     have HSTM := Lib.hid hst
     obtain ⟨b4, hb4⟩ : ∃ b, b = l2.contains y := ⟨_, rfl⟩
     rw [← hb4] at hlkp
     have HB4 := Lib.hid hb4
     clear hb4 hmp hst hI hl2 hxk2 hok2 hca hyk
     cases b4
     case true =>
      have HNO : Hid (eqIn same x (N.take (t + 1)) l = l2) := Lib.hid (by rw [HST.out, ← HL2.out]; unfold eqStep; rw [← HB4.out]; rfl)
      go_wp2_with fail
      go_roundw
      case rel => exact ⟨t + 1, rs2, by omega, by go_num, by omega, by rw [HNO.out]; exact HI.out⟩
      case measure => simp [intOf]; omega
     obtain ⟨b8, o8, x2, e8, hb8, hx8, hc8⟩ := (HI.out.ow.reads intE_len_).at_ hlt2
     subst e8
     obtain rfl : x = x2 := by have := HX2.out; rw [hx8] at this; exact (Option.some.inj this).symm
     have c0 := hc8 0 _ rfl
     simp only [Nat.add_zero, Nat.mul_one] at c0
     obtain ⟨mn, hmn⟩ : ∃ mn, mn = min x y := ⟨_, rfl⟩
     obtain ⟨mx, hmx⟩ : ∃ mx, mx = max x y := ⟨_, rfl⟩
     have HMN := Lib.hid hmn
     have HMX := Lib.hid hmx
     have hrmn : ∀ W, (Builtin.min_ #[3, 3] 3 #[.int .i64 x, .int .i64 y]).run Tryz.prog W = .ok (.int .i64 mn) W := fun W => by
      rw [HMN.out]
      simp [Builtin.min_, Builtin.min2]
      omega
     have hrmx : ∀ W, (Builtin.max_ #[3, 3] 3 #[.int .i64 x, .int .i64 y]).run Tryz.prog W = .ok (.int .i64 mx) W := fun W => by
      rw [HMX.out]
      simp [Builtin.max_, Builtin.max2]
      omega
     have hk0 : (0 : Int) ≤ (k : Int) := by omega
     have hk1 : (k : Int) < (l2.length : Int) := by omega
     have hkt : ((k : Int)).toNat = k := Int.toNat_natCast k
     clear hmn hmx hc8 hx8
     go_upto_region 13 with fail
     go_region
     obtain ⟨pb, hpb⟩ : ∃ pb, pb = wr.heap.size := ⟨_, rfl⟩
     obtain ⟨W6, hW6⟩ : ∃ X, X = (wr.alloc (.cells #[.int .i64 2, .int .i64 mn, .int .i64 mx] 86)).drew := ⟨_, rfl⟩
     have hb6 : Below wr.heap.size wr W6 := by rw [hW6]; exact ((Below.refl _ _).alloc (Nat.le_refl _) _).drew
     have hx6 : Bx W6 pb [.int .i64 2, .int .i64 mn, .int .i64 mx] := by rw [hW6, hpb]; exact Bx.new wr [.int .i64 2, .int .i64 mn, .int .i64 mx] _
     rw [← hW6, ← hpb]
     obtain ⟨A9x, c9x, rfl, _, _⟩ := HI.out.rd.shape
     have h6 := HI.out.step hb6
     have HI6 : Hid (EqI w mb (fun j => O j ∨ j = pb) W6 l2 (.slice (some ⟨b8, o8, none⟩) l2.length c8) rs2 (.slice A9x rs2.length c9x) W6) := Lib.hid (h6.other (fun j hj => by
      rcases hj with hj | hj
      ·obtain ⟨a1, a2, a3, a4, _⟩ := h6.ot j hj
       exact ⟨a1, a2, a3, a4⟩
      ·subst hj
       have h1 := HI.out.mlt
       exact ⟨hx6.2.2, by omega, fun e => by have := HI.out.ow.lt j e; omega, fun e => by have := HI.out.rd.lt j e; omega⟩))
     have HBK : Hid (∀ k, O k → W6.heap[k]? = W4.heap[k]?) := Lib.hid (fun k hk => (h6.ot k hk).2.2.2.2)
     have HX6 := Lib.hid hx6
     obtain ⟨z0, z1, z2⟩ := hx6
     have e0 := z0 0 _ rfl
     have e1 := z0 1 _ rfl
     have e2 := z0 2 _ rfl
     have hwt : IntKind.i64.wrap (term + 1) = term + 1 := IntWalk.i64_in _ ⟨by omega, by omega⟩
     have hw6 : w.heap.size ≤ W6.heap.size := h6.bw.size
     have hb7 : Below W6.heap.size W6 (W6.alloc (.cells #[.int .i64 2, .int .i64 mn, .int .i64 mx, .int .i64 term, .int .i64 (term + 1)] 130)) := (Below.refl _ _).alloc (Nat.le_refl _) _
     have HB7 := Lib.hid hb7
     clear hb6 h6 z0 z1 a0 c0 hlkp hrmn hrmx hW6 hb7 hpb
     go_wp2_with (at_builtin; refine stop_mk ?_)
     refine stop_out (wpList_append_reads (en := Rd.enc) (sz := 5) _ rfl _ _ _ rfl Rd.enc_len_ Rd.enc_one w.heap.size 130 iR _ 40 Tryz.underlying36 HIR.out hzR0 hzR1 hzR2 rfl (by omega) _ rs2 rfl (HI6.out.rd.alloc _) (W6.heap.size + 1) (some ⟨W6.heap.size, 0, none⟩) 1 [⟨2, mn, mx, term, term + 1⟩] rfl (reads_one W6 Rd.enc ⟨2, mn, mx, term, term + 1⟩ _ _ rfl 5 W6.heap.size rfl) (fun h => by cases h) (by simp [maxLen]; omega) (by simp; omega) (by simp; omega) ?_)
     intro v2 w2 ho2 hg2 hob _
     have h7 := (HI6.out.step HB7.out).read hg2 hob ho2
     have HI7 := Lib.hid h7
     have g0 := (World.cell?_of_block (a := ⟨pb, 0, none⟩) (h7.ot pb (.inr rfl)).2.2.2.2).trans e0
     have g1 := (World.cell?_of_block (a := ⟨pb, 1, none⟩) (h7.ot pb (.inr rfl)).2.2.2.2).trans e1
     have g2 := (World.cell?_of_block (a := ⟨pb, 2, none⟩) (h7.ot pb (.inr rfl)).2.2.2.2).trans e2
     have p3 : w2.cell? ⟨w.heap.size, 3, none⟩ = some (.slice A4 fs.length c4) := (World.cell?_of_block (a := ⟨w.heap.size, 3, none⟩) ((h7.ot _ (.inl HO1.out)).2.2.2.2.trans (HBK.out _ HO1.out))).trans (hX4.out.1 3 _ rfl)
     obtain ⟨A9y, c9y, rfl, _, _⟩ := ho2.shape
     obtain ⟨r1, r2, hr⟩ : ∃ r1 r2, atF fs ⟨2, mn, mx⟩ term known = (r1, r2) := ⟨_, _, rfl⟩
     have HAT := Lib.hid (fun W (hW : Below w.heap.size w W) => At_any fs A4 c4 ⟨2, mn, mx⟩ term known W ((HF.out.below hW).more hW.size) (by omega))
     rw [hr] at HAT
     have HSE : Hid (same x y = decide ((r1, r2) = (1, true))) := Lib.hid (by rw [HSAME.out, ← HMN.out, ← HMX.out, hr])
     clear ho2 hg2 hob h7 e0 e1 e2 hr
     go_wp2_with fail
     refine (HAT.out _ HI7.out.bw).mono ?_
     rintro e w3 ⟨rfl, hb3⟩
     have HIB : Hid (EqI w mb O W4 l2 (.slice (some ⟨b8, o8, none⟩) l2.length c8) (rs2 ++ [(⟨2, mn, mx, term, term + 1⟩ : Rd)]) (.slice A9y (rs2 ++ [(⟨2, mn, mx, term, term + 1⟩ : Rd)]).length c9y) w3) := Lib.hid ((HI7.out.step hb3).back (fun k hk => .inl hk) HBK.out)
     clear hb3 g0 g1 g2 p3
     cases r2
     ·have HNO : Hid (eqIn same x (N.take (t + 1)) l = l2) := Lib.hid (by rw [HST.out, ← HL2.out]; unfold eqStep; rw [HSE.out]; simp)
      go_wp2_with fail
      go_roundw
      case rel => exact ⟨t + 1, rs2 ++ [(⟨2, mn, mx, term, term + 1⟩ : Rd)], by omega, by go_num, by simp; omega, by rw [HNO.out]; have h := HIB.out; rw [List.length_append] at h; exact h⟩
      case measure => simp [intOf]; omega
     cases hr1 : r1 == 1
     ·have HNO : Hid (eqIn same x (N.take (t + 1)) l = l2) := Lib.hid (by rw [HST.out, ← HL2.out]; unfold eqStep; rw [HSE.out]; have : r1 ≠ 1 := (by simpa using hr1); simp [this])
      go_wp2_with fail
      go_roundw
      case rel => exact ⟨t + 1, rs2 ++ [(⟨2, mn, mx, term, term + 1⟩ : Rd)], by omega, by go_num, by simp; omega, by rw [HNO.out]; have h := HIB.out; rw [List.length_append] at h; exact h⟩
      case measure => simp [intOf]; omega
     have HYE : Hid (eqIn same x (N.take (t + 1)) l = l2 ++ [y]) := Lib.hid (by rw [HST.out, ← HL2.out]; unfold eqStep; rw [HSE.out, ← HB4.out]; have : r1 = 1 := (by simpa using hr1); simp [this])
     obtain ⟨L2, hmp2, hst2⟩ := HIB.out.mp
     obtain ⟨W1, hrun, hu1, hgr, hsz⟩ := upd_set hmp2 y (.bool true)
     have HU1 := Lib.hid hu1
     have HGR := Lib.hid hgr
     have HS2 := Lib.hid (hst2.add y)
     have HO5 : Hid (Owns W1 w.heap.size 3 1 intE (.slice (some ⟨b8, o8, none⟩) l2.length c8) l2) := Lib.hid (HIB.out.ow.kept hgr (fun g hg e => (HIB.out.a8 g hg).1 (by injection e with e; exact e.symm)))
     have hw1 : w.heap.size ≤ W1.heap.size := by rw [hsz]; exact HIB.out.bw.size
     have HB8 : Hid (Below W1.heap.size W1 (W1.alloc (.cells #[.int .i64 y] 3))) := Lib.hid ((Below.refl _ _).alloc (Nat.le_refl _) _)
     clear hmp2 hst2 hu1 hgr hsz
     go_wp2_with (at_builtin; refine stop_mk ?_)
     refine stop_out (wpList_append_reads (en := intE) (sz := 1) _ rfl _ _ _ rfl intE_len_ intE_one_ w.heap.size 3 i0 _ 8 Tryz.underlying64 HII.out hz0 hz1 hz2 rfl (by omega) _ l2 rfl (HO5.out.alloc _) (W1.heap.size + 1) (some ⟨W1.heap.size, 0, none⟩) 1 [y] rfl (reads_one W1 intE y _ _ rfl 1 W1.heap.size rfl) (fun h => by cases h) (by simp [maxLen]; omega) (by simp; omega) (by simp; omega) ?_)
     intro v3 w5 ho5 hg5 hob5 _
     have HIF := Lib.hid (HIB.out.find HU1.out HS2.out HGR.out HB8.out hg5 hob5 ho5)
     obtain ⟨A8y, c8y, rfl, _, _⟩ := ho5.shape
     clear ho5 hg5 hob5 hrun
     go_wp2_with fail
     go_roundw
     case rel => exact ⟨t + 1, rs2 ++ [(⟨2, mn, mx, term, term + 1⟩ : Rd)], by omega, by go_num, by simp; omega, by rw [HYE.out]; have h := HIF.out; rw [List.length_append, List.length_append] at h; exact h⟩
     case measure => simp [intOf]; omega
    ·obtain rfl : t = N.length := by omega
     have HNX : Hid (l2 = eqIn same x N l) := Lib.hid (by rw [HL2.out, List.take_length])
     have HEG : Hid (eqGo same N (N.length + 1 - (k + 1)) (k + 1) l2 = G) := Lib.hid (by rw [HNX.out, ← eqGo_next same N k l x HXK.out hll]; exact HGO.out)
     have HOK2 : Hid (EqOk N c l2) := Lib.hid hok2
     clear hI hl2 hxk2 hok2
     go_wp2_with fail
     repeat (first | go_values | go_skip | go_guarded | go_step | go_upon)
     rw [Exit.noGoto_normal]
     go_wp2_with fail
     go_roundw
     case rel => exact ⟨k + 1, l2, rs2, by omega, by go_num, HOK2.out, by omega, HEG.out, by omega, HI.out⟩
     case measure => simp [intOf]; omega
  ·obtain rfl : k = l.length := by omega
   have HEG : Hid (l = G) := Lib.hid (by rw [← HGO.out, eqGo_end])
   have hwl := HI.out.ow
   have HS := Lib.hid (sort_any l A8 c8 w.heap.size wo HI.out.ow (by omega))
   obtain ⟨A9z, c9z, rfl, _, _⟩ := HI.out.rd.shape
   clear hwl
   go_wp2_with fail
   refine HS.out.mono ?_
   rintro e w5 ⟨rfl, ho5, hg5⟩
   have HO5 := Lib.hid ho5
   have HR5 : Hid (Owns w5 w.heap.size 130 5 Rd.enc (.slice A9z rs.length c9z) rs) := Lib.hid (HI.out.rd.kept hg5 (fun g hg e => (HI.out.a8 g e).2 hg))
   have HB5 : Hid (Below w.heap.size w w5) := Lib.hid (HI.out.bw.grown hg5 HI.out.bw.size (fun q e => HI.out.ow.base_le q e))
   clear ho5 hg5 HS
   go_wp2_with fail
   go_ret2
   have hsl := sortI_len l
   refine ⟨⟨⟨A8, l.length, c8⟩, .slice A9z rs.length c9z, rs, rfl, ?_, HR5.out, by omega⟩, HB5.out⟩
   rw [HE.out, ← HEG.out]
   exact HO5.out
end Go.Proofs.YtalmbigebjbaoaaGreatDoor
