/- TopDegree, what its proof leans on: the texts TqA, TqB. -/
import Derived.Test.YtalmbigebjbaoaaGreatDoorM30
namespace Go.Proofs.YtalmbigebjbaoaaGreatDoor
open Go.RowKit Go.Shelf
set_option linter.unusedSimpArgs false
set_option linter.unusedVariables false
mutual
def RT.cnt : RT → Int → Int
 | .mk _ _ _ _ _ ks _, k => if 40 < k ∨ 300 < ks.length then 300 else RT.cntL ks (k + 1) 1
def RT.cntL : List RT → Int → Int → Int
 | [], _, n => n
 | r :: l, k, n => if n < 300 then RT.cntL l k (n + RT.cnt r k) else n
end
theorem cnt_mk (op co : Int) (nm : ByteArray) (n d : Int) (ks : List RT) (s : Sl) (k : Int) : (RT.mk op co nm n d ks s).cnt k = if 40 < k ∨ 300 < ks.length then 300 else RT.cntL ks (k + 1) 1 := by rw [RT.cnt]
theorem cntL_nil (k n : Int) : RT.cntL [] k n = n := by rw [RT.cntL]
theorem cntL_cons (r : RT) (l : List RT) (k n : Int) : RT.cntL (r :: l) k n = if n < 300 then RT.cntL l k (n + r.cnt k) else n := by rw [RT.cntL]
theorem parts_mk (op co : Int) (nm : ByteArray) (n d : Int) (ks : List RT) (s : Sl) (k : Int) : (RT.mk op co nm n d ks s).parts k = (k, .mk op co nm n d ks s) :: RT.partsL ks (k + 1) := by rw [RT.parts]
mutual
theorem cnt_low : ∀ (r : RT) (k : Int), 1 ≤ r.cnt k
 | .mk op co nm n d ks s, k => by
   rw [cnt_mk]
   split
   ·decide
   ·exact cntL_low ks (k + 1) 1
theorem cntL_low : ∀ (l : List RT) (k n : Int), n ≤ RT.cntL l k n
 | [], k, n => by rw [cntL_nil]; exact Int.le_refl _
 | r :: l, k, n => by
   rw [cntL_cons]
   have h1 := cnt_low r k
   have h2 := cntL_low l k (n + r.cnt k)
   split <;> omega
end
mutual
theorem cnt_high : ∀ (r : RT) (k : Int), 0 ≤ k → k ≤ 41 → r.cnt k ≤ 300 * (42 - k)
 | .mk op co nm n d ks s, k => fun h0 h1 => by
   rw [cnt_mk]
   split
   ·omega
   ·have := cntL_high ks (k + 1) 1 (by omega) (by omega) (by omega)
    omega
theorem cntL_high : ∀ (l : List RT) (k n : Int), 0 ≤ k → k ≤ 41 → n ≤ 299 + 300 * (42 - k) → RT.cntL l k n ≤ 299 + 300 * (42 - k)
 | [], k, n => fun h0 h1 h2 => by rw [cntL_nil]; exact h2
 | r :: l, k, n => fun h0 h1 h2 => by
   rw [cntL_cons]
   split
   ·have h3 := cnt_high r k h0 h1
    exact cntL_high l k _ h0 h1 (by omega)
   ·exact h2
end
mutual
theorem cnt_parts : ∀ (r : RT) (k j : Int), r.cnt k < 300 → ((r.parts j).length : Int) = r.cnt k
 | .mk op co nm n d ks s, k, j => fun h => by
   rw [cnt_mk] at h ⊢
   rw [parts_mk]
   split at h
   ·omega
   ·rename_i hc
    rw [if_neg hc]
    have := cntL_parts ks (k + 1) (j + 1) 1 (by omega) h
    simp only [List.length_cons]
    omega
theorem cntL_parts : ∀ (l : List RT) (k j n : Int), 0 ≤ n → RT.cntL l k n < 300 → n + ((RT.partsL l j).length : Int) = RT.cntL l k n
 | [], k, j, n => fun h0 h => by rw [cntL_nil, partsL_nil]; simp
 | r :: l, k, j, n => fun h0 h => by
   rw [cntL_cons] at h ⊢
   rw [partsL_cons]
   split at h
   ·rename_i hn
    rw [if_pos hn]
    have h1 := cnt_low r k
    have h2 := cntL_low l k (n + r.cnt k)
    have h3 := cnt_parts r k j (by omega)
    have h4 := cntL_parts l k j (n + r.cnt k) (by omega) h
    simp only [List.length_append]
    omega
   ·omega
end
theorem cntL_at {ks : List RT} {j : Nat} {r : RT} (h : ks[j]? = some r) (k n : Int) (hn : n < 300) : RT.cntL (ks.drop j) k n = RT.cntL (ks.drop (j + 1)) k (n + r.cnt k) := by
 have hl := (List.getElem?_eq_some_iff.1 h).1
 rw [List.drop_eq_getElem_cons hl, (List.getElem?_eq_some_iff.1 h).2, cntL_cons, if_pos hn]
theorem cntL_full (ks : List RT) (k n : Int) (hn : ¬ n < 300) : RT.cntL ks k n = n := by
 cases ks with
 | nil => rw [cntL_nil]
 | cons r l => rw [cntL_cons, if_neg hn]
set_option maxRecDepth 100000 in
set_option maxHeartbeats 4000000 in
theorem count_any {P : Nat → Prop} {w : World} {r : RT} (h : RT.Ok w P r) : ∀ (k : Int) (W : World), Below w.heap.size w W → 0 ≤ k → k ≤ 41 →
 Calls Tryz.prog 92 #[r.v, .int .i64 k] W fun e w' => e = .returned (.int .i64 (r.cnt k)) ∧ Below W.heap.size W w' := by
 induction h with
 | @mk op co nm n d ks s hi hs hko ih =>
   intro k W hW h0 h1
   have HIH := Lib.hid ih
   have hsW := hs.step hW
   obtain ⟨sA, sn, sc⟩ := s
   have hn := hs.1
   simp only at hn
   subst hn
   have hmx : ks.length ≤ 9223372036854775807 := Nat.le_trans hs.2.1 hs.2.2.1
   have HS := Lib.hid hsW.reads
   have HW := Lib.hid hW
   obtain ⟨E, hE⟩ : ∃ E, E = (RT.mk op co nm n d ks ⟨sA, ks.length, sc⟩).cnt k := ⟨_, rfl⟩
   rw [← hE]
   rw [cnt_mk] at hE
   have HE := Lib.hid hE
   have HB0 : Hid (Below W.heap.size W (W.alloc (.cells #[.int .i64 op, .int .i64 co, .string nm, .int .i64 n, .int .i64 d, .slice sA ks.length sc] 121))) := Lib.hid ((Below.refl _ _).alloc (Nat.le_refl _) _)
   have HX0 : Hid (Bx (W.alloc (.cells #[.int .i64 op, .int .i64 co, .string nm, .int .i64 n, .int .i64 d, .slice sA ks.length sc] 121)) W.heap.size [.int .i64 op, .int .i64 co, .string nm, .int .i64 n, .int .i64 d, .slice sA ks.length sc]) := Lib.hid (Bx.new W [.int .i64 op, .int .i64 co, .string nm, .int .i64 n, .int .i64 d, .slice sA ks.length sc] _)
   clear hE hs hsW ih hko hW
   simp only [RT.v]
   by_cases hk : 40 < k
   ·obtain rfl : E = 300 := by rw [HE.out, if_pos (.inl hk)]
    go_enter Tryz.func92, Tryz.ntmps92
    go_wp2_with fail
    go_ret
    exact ⟨rfl, HB0.out⟩
   by_cases hl : 300 < ks.length
   ·obtain rfl : E = 300 := by rw [HE.out, if_pos (.inr hl)]
    go_enter Tryz.func92, Tryz.ntmps92
    go_wp2_with fail
    go_ret
    exact ⟨rfl, HB0.out⟩
   have HEE : Hid (RT.cntL ks (k + 1) 1 = E) := Lib.hid (by rw [HE.out, if_neg (by omega)])
   have hwr : wrap64 (k + 1) = k + 1 := IntWalk.wrap64_in _ ⟨by omega, by omega⟩
   have hl2 : ks.length ≤ 300 := by omega
   go_enter Tryz.func92, Tryz.ntmps92
   go_wp2_with fail
   go_loopw [6, 5] (fun i m wr => ∃ (j : Nat) (t : Int), j ≤ ks.length ∧ i = .int .i64 j ∧ m = .int .i64 t ∧ 1 ≤ t ∧ t ≤ 12900 ∧ RT.cntL (ks.drop j) (k + 1) t = E ∧ Below W.heap.size W wr ∧ Bx wr W.heap.size [.int .i64 op, .int .i64 co, .string nm, .int .i64 n, .int .i64 d, .slice sA ks.length sc]) (fun i _ _ => ks.length - (intOf i).toNat)
   case atStart => exact ⟨0, 1, Nat.zero_le _, rfl, rfl, by omega, by omega, HEE.out, HB0.out, HX0.out⟩
   case round =>
    obtain ⟨j, t, hj, rfl, rfl, ht0, ht1, hct, hb, hx⟩ := hrel
    have HCT := Lib.hid hct
    have HB := Lib.hid hb
    have HX := Lib.hid hx
    have p5 := hx.1 5 _ rfl
    have hz := hx.2.2
    clear hct hb hx
    by_cases hlt : j < ks.length
    ·have c1 : decide ((j : Int) < (ks.length : Int)) = true := by simp; omega
     by_cases hn3 : t < 300
     ·obtain ⟨bb, off, x, hAe, hbb, hxk, hc⟩ := (HS.out.below HB.out).at_ hlt
      subst hAe
      have HCT2 : Hid (RT.cntL (ks.drop (j + 1)) (k + 1) (t + x.cnt (k + 1)) = E) := Lib.hid (by rw [← cntL_at hxk _ _ hn3]; exact HCT.out)
      have HC := Lib.hid (HIH.out x (List.mem_of_getElem? hxk) (k + 1) wr (HW.out.trans (HB.out.mono HW.out.size)) (by omega) (by omega))
      obtain ⟨u, hu⟩ : ∃ u, u = x.cnt (k + 1) := ⟨_, rfl⟩
      have hu0 := cnt_low x (k + 1)
      have hu1 := cnt_high x (k + 1) (by omega) (by omega)
      rw [← hu] at HC HCT2 hu0 hu1
      obtain ⟨xo, xc, xm, xn, xd, xk, ⟨xA, xl, xs⟩⟩ := x
      simp only [RT.v] at HC
      simp only [RT.enc] at hc
      have q0 := hc 0 _ rfl
      have q1 := hc 1 _ rfl
      have q2 := hc 2 _ rfl
      have q3 := hc 3 _ rfl
      have q4 := hc 4 _ rfl
      have q5 := hc 5 _ rfl
      simp only [Nat.add_zero] at q0
      clear hc hxk hu HEE
      go_wp2_with fail
      refine HC.out.mono ?_
      rintro e w1 ⟨rfl, hb1⟩
      have HB1 := Lib.hid (HB.out.trans (hb1.mono HB.out.size))
      have HX1 := Lib.hid (HX.out.step hb1)
      clear hb1
      go_wp2_with fail
      go_roundw
      case rel => exact ⟨j + 1, t + u, by omega, by go_num, rfl, by omega, by omega, HCT2.out, HB1.out, HX1.out⟩
      case measure => simp [intOf]; omega
     ·obtain rfl : E = t := by rw [← HCT.out, cntL_full _ _ _ hn3]
      go_wp2_with fail
      go_ret
      exact ⟨rfl, HB.out⟩
    ·obtain rfl : ks.length = j := by omega
     obtain rfl : E = t := by rw [← HCT.out, List.drop_length, cntL_nil]
     go_wp2_with fail
     go_ret
     exact ⟨rfl, HB.out⟩
def Yes (e : Ending) (q : Prop) : Prop := ∃ b : Bool, e = .returned (.bool b) ∧ (b = true → q)
theorem take_snoc_ {α : Type} {l : List α} {k : Nat} {x : α} (h : l[k]? = some x) : l.take (k + 1) = l.take k ++ [x] := by
 rw [List.take_succ_eq_append_getElem (List.getElem?_eq_some_iff.1 h).1, (List.getElem?_eq_some_iff.1 h).2]
set_option maxHeartbeats 2000000 in
theorem fewR_any {P : Nat → Prop} (r : RT) (W : World) (h : RT.Ok W P r) :
 Calls Tryz.prog 49 #[r.v] W fun e w' => Yes e (r.cnt 0 < 250) ∧ Below W.heap.size W w' := by
 have HC := Lib.hid (fun (W2 : World) (h2 : Below W.heap.size W W2) => count_any h 0 W2 h2 (by omega) (by omega))
 obtain ⟨E, hE⟩ : ∃ E, E = r.cnt 0 := ⟨_, rfl⟩
 rw [← hE] at HC ⊢
 have hb0 := cnt_low r 0
 have hb1 := cnt_high r 0 (by omega) (by omega)
 rw [← hE] at hb0 hb1
 clear hE h
 obtain ⟨op, co, nm, n, d, ks, ⟨sA, sn, sc⟩⟩ := r
 simp only [RT.v] at HC ⊢
 have HB0 : Hid (Below W.heap.size W (W.alloc (.cells #[.int .i64 op, .int .i64 co, .string nm, .int .i64 n, .int .i64 d, .slice sA sn sc] 121))) := Lib.hid ((Below.refl _ _).alloc (Nat.le_refl _) _)
 have HX0 : Hid (Bx (W.alloc (.cells #[.int .i64 op, .int .i64 co, .string nm, .int .i64 n, .int .i64 d, .slice sA sn sc] 121)) W.heap.size [.int .i64 op, .int .i64 co, .string nm, .int .i64 n, .int .i64 d, .slice sA sn sc]) := Lib.hid (Bx.new W [.int .i64 op, .int .i64 co, .string nm, .int .i64 n, .int .i64 d, .slice sA sn sc] _)
 by_cases hc : E < 250
 ·by_cases hs : nm.size ≤ 100
  all_goals
   go_enter Tryz.func49, Tryz.ntmps49
   go_wp2_with fail
   refine (HC.out _ HB0.out).mono ?_
   rintro e w1 ⟨rfl, hb1⟩
   have HB1 := Lib.hid (HB0.out.trans (hb1.mono HB0.out.size))
   obtain ⟨x0, x1, x2⟩ := HX0.out.step hb1
   have p2 := x0 2 _ rfl
   clear x0 x1 hb1
   go_wp2_with fail
   go_ret
   exact ⟨⟨_, rfl, fun _ => hc⟩, HB1.out⟩
 ·go_enter Tryz.func49, Tryz.ntmps49
  go_wp2_with fail
  refine (HC.out _ HB0.out).mono ?_
  rintro e w1 ⟨rfl, hb1⟩
  have HB1 := Lib.hid (HB0.out.trans (hb1.mono HB0.out.size))
  clear hb1
  go_wp2_with fail
  go_ret
  exact ⟨⟨false, rfl, fun h => by cases h⟩, HB1.out⟩
structure FewW (d : Wd) : Prop where
 cs : ∀ x ∈ d.cs, Cr.Few x
 ps : ∀ x ∈ d.ps, x.p.reqs.length ≤ 70
 fs : d.fs.length ≤ 40
def FewC (x : Cr) : Prop := x.need.cnt 0 < 250 ∧ x.bar.cnt 0 < 250
theorem FewC.few {x : Cr} (h : FewC x) : Cr.Few x := by
 have h1 := cnt_parts x.need 0 1 (by have := h.1; omega)
 have h2 := cnt_parts x.bar 0 1 (by have := h.2; omega)
 have h3 := h.1
 have h4 := h.2
 exact ⟨by omega, by omega⟩
set_option maxRecDepth 100000 in
set_option maxHeartbeats 8000000 in
theorem fewBook_any {P : Nat → Prop} (d : Wd) (W : World) (h : d.Ok W P) :
 Calls Tryz.prog 18 #[.agg #[.slice d.c.a d.c.n d.c.c, .slice d.p.a d.p.n d.p.c, .slice d.y.a d.y.n d.y.c]] W fun e w' => Yes e ((∀ x ∈ d.cs, FewC x) ∧ ∀ x ∈ d.ps, x.p.reqs.length ≤ 70) ∧ Below W.heap.size W w' := by
 obtain ⟨⟨A1, n1, c1⟩, ⟨A2, n2, c2⟩, ⟨A3, n3, c3⟩, ⟨A4, n4, c4⟩, cs, ps, fs⟩ := d
 have hn1 := h.cs.1
 have hn2 := h.ps.1
 simp only at hn1 hn2
 subst hn1 hn2
 have hm1 : cs.length ≤ 9223372036854775807 := Nat.le_trans h.cs.2.1 h.cs.2.2.1
 have hm2 : ps.length ≤ 9223372036854775807 := Nat.le_trans h.ps.2.1 h.ps.2.2.1
 have HCS := Lib.hid h.cs.reads
 have HPS := Lib.hid h.ps.reads
 have HCO := Lib.hid h.co
 have HPO := Lib.hid h.po
 obtain ⟨ec, hec⟩ : ∃ ec, ec = [Value.slice A1 cs.length c1, .slice A2 ps.length c2, .slice A3 n3 c3] := ⟨_, rfl⟩
 have HB0 : Hid (Below W.heap.size W (W.alloc (.cells #[.slice A1 cs.length c1, .slice A2 ps.length c2, .slice A3 n3 c3] 26))) := Lib.hid ((Below.refl _ _).alloc (Nat.le_refl _) _)
 have HX0 : Hid (Bx (W.alloc (.cells #[.slice A1 cs.length c1, .slice A2 ps.length c2, .slice A3 n3 c3] 26)) W.heap.size ec) := Lib.hid (by rw [hec]; exact Bx.new W _ _)
 have HEC := Lib.hid hec
 clear h hec
 simp only
 go_enter Tryz.func18, Tryz.ntmps18
 go_wp2_with fail
 go_loopw [3] (fun i wr => ∃ j : Nat, j ≤ cs.length ∧ i = .int .i64 j ∧ (∀ x ∈ cs.take j, FewC x) ∧ Below W.heap.size W wr ∧ Bx wr W.heap.size ec) (fun i _ => cs.length - (intOf i).toNat)
 case atStart => exact ⟨0, Nat.zero_le _, rfl, by simp, HB0.out, HX0.out⟩
 case round =>
  obtain ⟨j, hj, rfl, hfc, hb, hx⟩ := hrel
  have HFC := Lib.hid hfc
  have HB := Lib.hid hb
  have HX := Lib.hid hx
  rw [HEC.out] at hx
  obtain ⟨x0, x1, x2⟩ := hx
  have p0 := x0 0 _ rfl
  have p1 := x0 1 _ rfl
  have p2 := x0 2 _ rfl
  clear hfc hb x0 x1
  by_cases hlt : j < cs.length
  ·obtain ⟨bb, off, x, hAe, hbb, hxk, hc⟩ := (HCS.out.below HB.out).at_ hlt
   subst hAe
   have HF := Lib.hid (fun (W2 : World) (h2 : Below W.heap.size W W2) => fewR_any x.need W2 ((HCO.out x (List.mem_of_getElem? hxk)).1.step h2))
   have HG := Lib.hid (fun (W2 : World) (h2 : Below W.heap.size W W2) => fewR_any x.bar W2 ((HCO.out x (List.mem_of_getElem? hxk)).2.step h2))
   have HSN : Hid (FewC x → ∀ y ∈ cs.take (j + 1), FewC y) := Lib.hid (fun hx y hy => by
    rw [take_snoc_ hxk] at hy
    rcases List.mem_append.1 hy with hy | hy
    ·exact HFC.out y hy
    ·rw [List.mem_singleton.1 hy]; exact hx)
   obtain ⟨y0, y1, y2, y3, ⟨o1, g1, m1, n1, d1, ks1, ⟨s1A, s1n, s1c⟩⟩, ⟨o2, g2, m2, n2, d2, ks2, ⟨s2A, s2n, s2c⟩⟩⟩ := x
   simp only [Cr.enc, RT.op, RT.course, RT.nm, RT.n, RT.d, RT.s] at hc
   simp only [RT.v] at HF HG
   have q4 := hc 4 _ rfl
   have q5 := hc 5 _ rfl
   have q6 := hc 6 _ rfl
   have q7 := hc 7 _ rfl
   have q8 := hc 8 _ rfl
   have q9 := hc 9 _ rfl
   have q10 := hc 10 _ rfl
   have q11 := hc 11 _ rfl
   have q12 := hc 12 _ rfl
   have q13 := hc 13 _ rfl
   have q14 := hc 14 _ rfl
   have q15 := hc 15 _ rfl
   have hbb2 : bb < wr.heap.size := Nat.lt_of_lt_of_le hbb HB.out.size
   clear hc hxk
   go_wp2_with fail
   refine (HF.out wr HB.out).mono ?_
   rintro e w1 ⟨⟨t, rfl, ht⟩, hb1⟩
   have HT := Lib.hid ht
   have HB1 := Lib.hid (HB.out.trans (hb1.mono HB.out.size))
   have HX1 := Lib.hid (HX.out.step hb1)
   replace q10 := (hb1.cell (p := ⟨bb, off + j * 16 + 10, none⟩) hbb2).trans q10
   replace q11 := (hb1.cell (p := ⟨bb, off + j * 16 + 11, none⟩) hbb2).trans q11
   replace q12 := (hb1.cell (p := ⟨bb, off + j * 16 + 12, none⟩) hbb2).trans q12
   replace q13 := (hb1.cell (p := ⟨bb, off + j * 16 + 13, none⟩) hbb2).trans q13
   replace q14 := (hb1.cell (p := ⟨bb, off + j * 16 + 14, none⟩) hbb2).trans q14
   replace q15 := (hb1.cell (p := ⟨bb, off + j * 16 + 15, none⟩) hbb2).trans q15
   clear ht hb1 q4 q5 q6 q7 q8 q9 p0 p1 p2 hbb2
   have hx := HX1.out
   rw [HEC.out] at hx
   obtain ⟨x0, x1, x2⟩ := hx
   have p0 := x0 0 _ rfl
   clear x0 x1
   cases t
   ·go_wp2_with fail
    go_ret
    exact ⟨⟨false, rfl, fun h => by cases h⟩, HB1.out⟩
   go_wp2_with fail
   refine (HG.out w1 HB1.out).mono ?_
   rintro e w2 ⟨⟨u, rfl, hu⟩, hb2⟩
   have HU := Lib.hid hu
   have HB2 := Lib.hid (HB1.out.trans (hb2.mono HB1.out.size))
   have HX2 := Lib.hid (HX1.out.step hb2)
   clear hu hb2 p0 q10 q11 q12 q13 q14 q15
   cases u
   ·go_wp2_with fail
    go_ret
    exact ⟨⟨false, rfl, fun h => by cases h⟩, HB2.out⟩
   go_wp2_with fail
   go_roundw
   case rel => exact ⟨j + 1, by omega, by go_num, HSN.out ⟨HT.out (by first | rfl | trivial), HU.out (by first | rfl | trivial)⟩, HB2.out, HX2.out⟩
   case measure => simp [intOf]; omega
  ·obtain rfl : cs.length = j := by omega
   rw [List.take_length] at HFC
   go_wp2_with fail
   go_loopw [4] (fun i wr2 => ∃ j : Nat, j ≤ ps.length ∧ i = .int .i64 j ∧ (∀ x ∈ ps.take j, x.p.reqs.length ≤ 70) ∧ Below W.heap.size W wr2 ∧ Bx wr2 W.heap.size ec) (fun i _ => ps.length - (intOf i).toNat)
   case atStart => exact ⟨0, Nat.zero_le _, rfl, by simp, HB.out, HX.out⟩
   case round =>
    clear HX p0 p1 p2
    obtain ⟨j, hj, rfl, hfp, hb, hx⟩ := hrel
    have HFP := Lib.hid hfp
    have HB := Lib.hid hb
    have HX := Lib.hid hx
    rw [HEC.out] at hx
    obtain ⟨x0, x1, x2⟩ := hx
    have p0 := x0 0 _ rfl
    have p1 := x0 1 _ rfl
    have p2 := x0 2 _ rfl
    clear hfp hb x0 x1
    by_cases hlt : j < ps.length
    ·obtain ⟨bb, off, x, hAe, hbb, hxk, hc⟩ := (HPS.out.below HB.out).at_ hlt
     subst hAe
     have hxl := (HPO.out x (List.mem_of_getElem? hxk)).1.len
     have HSN : Hid (x.p.reqs.length ≤ 70 → ∀ y ∈ ps.take (j + 1), y.p.reqs.length ≤ 70) := Lib.hid (fun hx y hy => by
      rw [take_snoc_ hxk] at hy
      rcases List.mem_append.1 hy with hy | hy
      ·exact HFP.out y hy
      ·rw [List.mem_singleton.1 hy]; exact hx)
     obtain ⟨⟨y0, y1, y2, y3, ⟨y4, y5⟩, yr⟩, ⟨ysA, ysn, ysc⟩⟩ := x
     simp only [Px.enc, pgC] at hc hxl HSN
     subst hxl
     have q6 := hc 6 _ rfl
     clear hc hxk
     by_cases hy : 70 < yr.length
     ·go_wp2_with fail
      go_ret
      exact ⟨⟨false, rfl, fun h => by cases h⟩, HB.out⟩
     ·go_wp2_with fail
      go_roundw
      case rel => exact ⟨j + 1, by omega, by go_num, HSN.out (by omega), HB.out, HX.out⟩
      case measure => simp [intOf]; omega
    ·obtain rfl : ps.length = j := by omega
     rw [List.take_length] at HFP
     by_cases k1 : cs.length ≤ 16
     ·by_cases k2 : ps.length ≤ 8
      ·by_cases k3 : n3 ≤ 6
       all_goals
        go_wp2_with fail
        go_ret
        exact ⟨⟨_, rfl, fun _ => ⟨HFC.out, HFP.out⟩⟩, HB.out⟩
      ·go_wp2_with fail
       go_ret
       exact ⟨⟨_, rfl, fun _ => ⟨HFC.out, HFP.out⟩⟩, HB.out⟩
     ·go_wp2_with fail
      go_ret
      exact ⟨⟨_, rfl, fun _ => ⟨HFC.out, HFP.out⟩⟩, HB.out⟩
set_option maxHeartbeats 2000000 in
theorem few14_any {P : Nat → Prop} (d : Wd) (W : World) (h : d.Ok W P) :
 Calls Tryz.prog 5 #[d.v] W fun e w' => Yes e (FewW d) ∧ Below W.heap.size W w' := by
 have HF := Lib.hid (fun (W2 : World) (h2 : Below W.heap.size W W2) => fewBook_any d W2 (h.step h2))
 have HN := Lib.hid h.fs.1
 have HX0 : Hid (Bx (W.alloc (.cells d.enc.toArray 29)) W.heap.size d.enc) := Lib.hid (Bx.new W _ _)
 have HB0 : Hid (Below W.heap.size W (W.alloc (.cells d.enc.toArray 29))) := Lib.hid ((Below.refl _ _).alloc (Nat.le_refl _) _)
 have HW : Hid (((∀ x ∈ d.cs, FewC x) ∧ ∀ x ∈ d.ps, x.p.reqs.length ≤ 70) → d.fs.length ≤ 40 → FewW d) := Lib.hid (fun h1 h2 => ⟨fun x m => (h1.1 x m).few, h1.2, h2⟩)
 clear h
 unfold Wd.v
 simp only [Wd.enc] at HX0 HB0
 go_enter Tryz.func5, Tryz.ntmps5
 go_wp2_with fail
 refine (HF.out _ HB0.out).mono ?_
 rintro e w1 ⟨⟨b, rfl, hb⟩, hb1⟩
 have HB1 := Lib.hid (HB0.out.trans (hb1.mono HB0.out.size))
 have HFB := Lib.hid hb
 obtain ⟨x0, x1, x2⟩ := HX0.out.step hb1
 have p3 := x0 3 _ rfl
 clear x0 x1 hb hb1
 rw [HN.out] at p3
 cases b
 ·go_wp2_with fail
  go_ret
  exact ⟨⟨false, rfl, fun h => by cases h⟩, HB1.out⟩
 ·by_cases hl : d.fs.length ≤ 40
  ·go_wp2_with fail
   go_ret
   exact ⟨⟨_, rfl, fun _ => HW.out (HFB.out (by first | rfl | trivial)) hl⟩, HB1.out⟩
  ·go_wp2_with fail
   go_ret
   exact ⟨⟨false, by simp; omega, fun h => by cases h⟩, HB1.out⟩
end Go.Proofs.YtalmbigebjbaoaaGreatDoor
