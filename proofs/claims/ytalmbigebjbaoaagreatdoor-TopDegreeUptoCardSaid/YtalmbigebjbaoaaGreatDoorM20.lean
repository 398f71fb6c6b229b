/- TopDegree, what its proof leans on: the texts AudB, AudC. -/
import Derived.Test.YtalmbigebjbaoaaGreatDoorM19
import Derived.Test.YtalmbigebjbaoaaGreatDoorM12
import Derived.Test.YtalmbigebjbaoaaGreatDoorM07
import Derived.BigQuiet
import Derived.Test.YtalmbigebjbaoaaGreatDoorM11
namespace Go.Proofs.YtalmbigebjbaoaaGreatDoor
open Go.RowKit Go.Shelf
set_option linter.unusedSimpArgs false
set_option linter.unusedVariables false
set_option maxRecDepth 100000 in
set_option maxHeartbeats 8000000 in
theorem dgEligible_any {P : Nat → Prop} (q : Rq) (nm : ByteArray) (ns f : Sl) (a : At) (w : World) (hf : SlR w P 1 intE f q.fr) (hl : q.fr.length ≤ 9223372036854775807) :
 Calls Tryz.prog 125 #[rqV q nm ns f, a.v] w fun e w' => e = .returned (.bool (elig q a)) ∧ Below w.heap.size w w' := by
 obtain ⟨A, n, c⟩ := f
 have hn := hf.1
 simp only at hn
 subst hn
 have HR := Lib.hid hf.reads
 clear hf
 obtain ⟨E, hE⟩ : ∃ E, E = elig q a := ⟨_, rfl⟩
 rw [← hE]
 unfold elig at hE
 unfold rqV At.v
 simp only
 obtain ⟨hm, hhm⟩ : ∃ b, b = q.home := ⟨_, rfl⟩
 rw [← hhm] at hE ⊢
 clear hhm
 obtain ⟨b1, hb1⟩ : ∃ b, b = q.fr.any (fun c => c == a.course) := ⟨_, rfl⟩
 have H1 := Lib.hid hb1.symm
 rw [← hb1] at hE
 clear hb1
 cases b2 : decide (q.grade ≤ a.grade)
 ·rw [b2] at hE
  simp only [Bool.false_and, Bool.and_false] at hE
  subst hE
  go_enter Tryz.func125, Tryz.ntmps125
  go_wp2_with fail
  go_ret
  exact ⟨rfl, ((Below.refl _ _).alloc (Nat.le_refl _) _).alloc (by simp) _⟩
 ·cases hm <;> cases b4 : a.campus == 0
  all_goals
   rw [b2, b4] at hE
   simp only [Bool.false_and, Bool.true_and, Bool.and_true, Bool.and_false, Bool.not_false, Bool.not_true, Bool.true_or, Bool.false_or] at hE
   subst hE
   go_enter Tryz.func125, Tryz.ntmps125
   go_wp2_with fail
   first
    | (go_ret
       exact ⟨rfl, ((Below.refl _ _).alloc (Nat.le_refl _) _).alloc (by simp) _⟩)
    | (refine (containsV_any (P := P) a.course q.fr A c _ (((HR.out.alloc (Nat.le_refl _) _).alloc (by simp) _).more (by simp; omega)) hl).mono ?_
       rw [H1.out]
       rintro e w2 ⟨rfl, hb2⟩
       have HBE : Hid (Below w.heap.size w w2) := Lib.hid ((((Below.refl _ _).alloc (Nat.le_refl _) _).alloc (by simp) _).trans (hb2.mono (by simp; omega)))
       clear hb2
       go_wp2_with fail
       go_ret
       exact ⟨rfl, HBE.out⟩)
def nE (n : Nat) : List Value := [.int .i64 n]
theorem nE_len (y : Nat) : (nE y).length = 1 := rfl
theorem nE_one (y : Nat) : ∀ u ∈ nE y, u.oneCell' = true := by intro u hu; simp [nE] at hu; subst hu; rfl
def eligTo (p : Pg) (a : At) (k : Nat) : List Nat := (List.range k).filter (fun k => elig (p.reqs.getD k default) a)
def eligL (p : Pg) (a : At) : List Nat := eligTo p a p.reqs.length
theorem eligTo_len (p : Pg) (a : At) (k : Nat) : (eligTo p a k).length ≤ k := by
 unfold eligTo
 exact Nat.le_trans (List.length_filter_le _ _) (by simp)
theorem eligTo_snoc (p : Pg) (a : At) (k : Nat) : eligTo p a (k + 1) = if elig (p.reqs.getD k default) a then eligTo p a k ++ [k] else eligTo p a k := by
 unfold eligTo
 rw [List.range_succ, List.filter_append]
 by_cases h : elig (p.reqs.getD k default) a = true
 ·rw [if_pos h]; simp only [List.filter, h]
 ·rw [if_neg h]; simp only [List.filter, Bool.not_eq_true _ ▸ h, List.append_nil]
theorem eligL_mem {p : Pg} {a : At} {k : Nat} : k ∈ eligL p a ↔ k < p.reqs.length ∧ elig (p.reqs.getD k default) a = true := by
 unfold eligL eligTo
 rw [List.mem_filter, List.mem_range]
theorem Kp.of_grown2 {P : Nat → Prop} {w w' : World} {row : Option Nat} (h : w.grownBy w' row) (hg : ∀ b, P b → some b ≠ row) : Kp P w w' := ⟨h.size, fun b hb hl => h.block b hl (hg b hb)⟩
theorem Owns.base' {α : Type} {w : World} {b b' sz : Nat} {e : TypeId} {en : α → List Value} {v : Value} {ys : List α} (h : Owns w b e sz en v ys) (hb : b' ≤ b) : Owns w b' e sz en v ys := by
 obtain ⟨h1, h2⟩ := h
 refine ⟨h1, ?_⟩
 rcases h2 with h | ⟨g, cap, cur, k1, k2, k3⟩
 ·exact .inl h
 ·exact .inr ⟨g, cap, cur, k1, Nat.le_trans hb k2, k3⟩
def EgI (w : World) (ba bp : Nat) (p : Pg) (s : Sl) (a : At) (k : Nat) (v : Value) (W : World) : Prop :=
 Bx W bp (pgC p s) ∧ Bx W ba [.int .i64 a.course, .int .i64 a.term, .int .i64 a.grade, .int .i64 a.campus, .int .i64 a.credits] ∧ Owns W (w.heap.size + 2) 3 1 nE v (eligTo p a k) ∧ Below w.heap.size w W ∧ w.heap.size + 2 ≤ W.heap.size
set_option maxRecDepth 100000 in
set_option maxHeartbeats 8000000 in
theorem Eligible_any {P : Nat → Prop} (p : Pg) (s : Sl) (a : At) (w : World) (hr : Rqs w P s p.reqs) (hlr : p.reqs.length ≤ 64) :
 Calls Tryz.prog 91 #[pgV p s, a.v] w fun e w' => (∃ v : Sl, e = .returned (.slice v.a v.n v.c) ∧ Owns w' w.heap.size 3 1 nE (.slice v.a v.n v.c) (eligL p a)) ∧ Below w.heap.size w w' := by
 have hn := hr.len
 have HR := Lib.hid hr
 obtain ⟨A, n, c⟩ := s
 simp only at hn
 subst hn
 clear hr
 unfold pgV At.v
 simp only
 obtain ⟨i0, hi0, hz0, hz1, hz2⟩ := info_parts Tryz.infoInt
 have HI0 := Lib.hid hi0
 clear hi0
 go_enter Tryz.func91, Tryz.ntmps91
 go_wp2_with fail
 obtain ⟨W0, hW0⟩ : ∃ X, X = (w.alloc (.cells #[.string p.nm, .int .i64 p.number, .int .i64 p.uses, .int .i64 p.earn, .int .i64 p.mean.num, .int .i64 p.mean.den, .slice A p.reqs.length c] 44)).alloc (.cells #[.int .i64 a.course, .int .i64 a.term, .int .i64 a.grade, .int .i64 a.campus, .int .i64 a.credits] 69) := ⟨_, rfl⟩
 have HE0 : Hid (EgI w (w.heap.size + 1) w.heap.size p ⟨A, p.reqs.length, c⟩ a 0 (.slice none 0 0) W0) := Lib.hid (by
  rw [hW0]
  exact ⟨(Bx.new w _ _).step ((Below.refl _ _).alloc (Nat.le_refl _) _), Bx.at_ _ _ _ _ (by simp), Owns.nil_ _ _ _ _ _, ((Below.refl _ _).alloc (Nat.le_refl _) _).alloc (by simp) _, by simp⟩)
 obtain ⟨ba, hba⟩ : ∃ x, x = w.heap.size + 1 := ⟨_, rfl⟩
 rw [← hW0]
 rw [← hba] at HE0 ⊢
 have hwb : w.heap.size + 2 = ba + 1 := by omega
 clear hW0 hba
 go_loopw [10, 4] (fun i v wr => ∃ k : Nat, k ≤ p.reqs.length ∧ i = .int .i64 k ∧ EgI w ba w.heap.size p ⟨A, p.reqs.length, c⟩ a k v wr) (fun i _ _ => p.reqs.length - (intOf i).toNat)
 case atStart => exact ⟨0, Nat.zero_le _, rfl, HE0.out⟩
 case round =>
  clear HE0
  obtain ⟨k, hk, rfl, hE⟩ := hrel
  have HE := Lib.hid hE
  clear hE
  by_cases hlt : k < p.reqs.length
  ·obtain ⟨b, off, q, nm, ns, f, hAe, hb, hqk, hqf, c0, c1, c2, c3, c4, c5⟩ := (HR.out.step HE.out.2.2.2.1).at_ hlt
   simp only at hAe
   subst hAe
   have hfl := HR.out.frlen q (List.mem_of_getElem? hqk)
   have HQF := Lib.hid hqf
   have hqd : p.reqs.getD k default = q := getD_some hqk
   obtain ⟨E, hE⟩ : ∃ E, E = elig q a := ⟨_, rfl⟩
   have HS : Hid (eligTo p a (k + 1) = if E then eligTo p a k ++ [k] else eligTo p a k) := Lib.hid (by rw [eligTo_snoc, hqd, hE])
   have HEE := Lib.hid hE
   have hb6 : Below wr.heap.size wr (wr.alloc (.cells #[.string nm, .int .i64 q.credits, .int .i64 q.grade, .bool q.home, .slice ns.a ns.n ns.c, .slice f.a f.n f.c] 67)) := (Below.refl _ _).alloc (Nat.le_refl _) _
   have HB6 := Lib.hid hb6
   have hbx := HE.out.2.1
   have b0 := hbx.1 0 _ rfl
   have b1 := hbx.1 1 _ rfl
   have b2 := hbx.1 2 _ rfl
   have b3 := hbx.1 3 _ rfl
   have b4 := hbx.1 4 _ rfl
   have bz := hbx.2.2
   clear hqf hqk hqd hE hb6 hbx
   go_wp2_with fail
   refine (dgEligible_any (P := P) q nm ns f a _ (HQF.out.step HB6.out) hfl).mono ?_
   rw [← HEE.out]
   rintro e w1 ⟨rfl, hb1⟩
   have HB1 : Hid (Below wr.heap.size wr w1) := Lib.hid (HB6.out.trans (hb1.mono HB6.out.size))
   have HE1 : Hid (EgI w ba w.heap.size p ⟨some ⟨b, off, none⟩, p.reqs.length, c⟩ a k u4 w1) := Lib.hid (by
    obtain ⟨e1, e2, e3, e4, e5⟩ := HE.out
    exact ⟨e1.step HB1.out, e2.step HB1.out, e3.below HB1.out (Nat.le_refl _), e4.trans (HB1.out.mono e4.size), Nat.le_trans e5 HB1.out.size⟩)
   clear hb1 b0 b1 b2 b3 b4 bz c0 c1 c2 c3 c4 c5
   cases E
   ·rw [if_neg (by decide)] at HS
    go_wp2_with fail
    go_roundw
    case rel => exact ⟨k + 1, by omega, by go_num, by obtain ⟨e1, e2, e3, e4, e5⟩ := HE1.out; exact ⟨e1, e2, by rw [HS.out]; exact e3, e4, e5⟩⟩
    case measure => simp [intOf]; omega
   ·rw [if_pos rfl] at HS
    have hlk := eligTo_len p a k
    have HLK := Lib.hid hlk
    clear hlk
    go_wp2_with (at_builtin; refine stop_mk ?_)
    refine stop_out (wpList_append_reads (en := nE) (sz := 1) _ rfl _ _ _ rfl nE_len nE_one (w.heap.size + 2) 3 i0 _ 8 Tryz.underlying64 HI0.out hz0 hz1 hz2 rfl (by omega) _ (eligTo p a k) rfl (HE1.out.2.2.1.alloc _) (w1.heap.size + 1) (some ⟨w1.heap.size, 0, none⟩) 1 [k] rfl (reads_one w1 nE k _ _ rfl 1 w1.heap.size rfl) (fun h => by cases h) (by have := HLK.out; simp [maxLen]; omega) (by have := HLK.out; simp; omega) (by have := HE1.out.2.2.2.2; simp; omega) ?_)
    intro v2 w2 ho2 hg2 _ _
    obtain ⟨A2, c2, rfl, _, _⟩ := ho2.shape
    have HE2 : Hid (EgI w ba w.heap.size p ⟨some ⟨b, off, none⟩, p.reqs.length, c⟩ a (k + 1) (.slice A2 (eligTo p a k ++ [k]).length c2) w2) := Lib.hid (by
     obtain ⟨e1, e2, e3, e4, e5⟩ := HE1.out
     have hb : Below w1.heap.size w1 (w1.alloc (.cells #[.int .i64 k] 3)) := (Below.refl _ _).alloc (Nat.le_refl _) _
     have hr : ∀ g, u4.ownBlock = some g → w.heap.size + 2 ≤ g := e3.base_le
     have f1 := e1.step hb
     have f2 := e2.step hb
     refine ⟨?_, ?_, by rw [HS.out]; exact ho2, (e4.trans (hb.mono e4.size)).grown hg2 (by simp; omega) (fun q e => by have := hr q e; omega), by have := hg2.size; simp at this; omega⟩
     ·exact f1.keep (P := fun x => x = w.heap.size) (Kp.of_grown2 hg2 (fun x hx e => by have := hr x e.symm; omega)) rfl
     ·exact f2.keep (P := fun x => x = ba) (Kp.of_grown2 hg2 (fun x hx e => by have := hr x e.symm; omega)) rfl)
    clear ho2 hg2 HE1
    go_wp2_with fail
    go_roundw
    case rel => exact ⟨k + 1, by omega, by go_num, by have h := HE2.out; rw [List.length_append] at h; exact h⟩
    case measure => simp [intOf]; omega
  ·obtain rfl : p.reqs.length = k := by omega
   obtain ⟨e1, e2, e3, e4, e5⟩ := HE.out
   obtain ⟨A2, c2, rfl, _, _⟩ := e3.shape
   have HSR : Hid (Owns wr w.heap.size 3 1 nE (.slice A2 (eligL p a).length c2) (eligL p a)) := Lib.hid (Owns.base' e3 (by omega))
   have HB := Lib.hid e4
   have HL : Hid ((eligTo p a p.reqs.length).length = (eligL p a).length) := Lib.hid rfl
   clear e1 e2 e3 e4 e5
   go_wp2_with fail
   go_ret
   exact ⟨⟨⟨A2, (eligL p a).length, c2⟩, rfl, HSR.out⟩, HB.out⟩
end Go.Proofs.YtalmbigebjbaoaaGreatDoor
namespace Go.Proofs.YtalmbigebjbaoaaGreatDoor
open Go.RowKit Go.Shelf
set_option linter.unusedSimpArgs false
set_option linter.unusedVariables false
attribute [local go_sem] Oper.semAt_some
def rowP (p : Pg) (l : List At) (i : Nat) : List (Nat × Nat) := (eligL p (l.getD i default)).map fun k => (i, k)
def pairsTo (p : Pg) (l : List At) (n : Nat) : List (Nat × Nat) := (List.range n).flatMap (rowP p l)
def pairsL (p : Pg) (l : List At) : List (Nat × Nat) := pairsTo p l l.length
theorem pairs_row {p : Pg} {l : List At} {i : Nat} (h : i < l.length) : ∃ t, pairsTo p l i ++ (rowP p l i ++ t) = pairsL p l := by
 obtain ⟨t, ht⟩ := flat_range_pre (rowP p l) (show i + 1 ≤ l.length by omega)
 rw [flat_range] at ht
 exact ⟨t, by unfold pairsL pairsTo; rw [← ht]; simp only [List.append_assoc]⟩
theorem pairs_cell {p : Pg} {l : List At} {i k : Nat} {x : Nat × Nat} (h : i < l.length) (hk : (rowP p l i)[k]? = some x) : ∃ t, pairsTo p l i ++ (rowP p l i).take k ++ [x] ++ t = pairsL p l := by
 obtain ⟨t, ht⟩ := pairs_row (p := p) h
 refine ⟨(rowP p l i).drop (k + 1) ++ t, ?_⟩
 rw [← ht]
 have e : rowP p l i = (rowP p l i).take k ++ [x] ++ (rowP p l i).drop (k + 1) := by
  rw [← take_snoc_of hk, List.take_append_drop]
 conv => rhs; rw [e]
 simp only [List.append_assoc]
theorem Owns.keepT {α : Type} {W W' : World} {b0 B sz : Nat} {e T : TypeId} {free : Nat → Prop} {en : α → List Value} {v : Value} {ys : List α} (h : Owns W b0 e sz en v ys) (hk : KeepT B T free W W') (hb : B + 2 ≤ b0) (hT : e ≠ T) (hf : ∀ b, free b → b < B) : Owns W' b0 e sz en v ys := by
 obtain ⟨h1, h2⟩ := h
 refine ⟨h1, ?_⟩
 rcases h2 with h | ⟨g, cap, cur, k1, k2, k3, k4⟩
 ·exact .inl h
 ·have hl : g < W.heap.size := (Array.getElem?_eq_some_iff.1 k3).1
  refine .inr ⟨g, cap, cur, k1, k2, (hk.2 g hl (fun h => by have := hf g h; omega) (by omega) (fun ⟨_, cs, fz, h⟩ => ?_)).trans k3, k4⟩
  rw [k3] at h
  injection h with h
  injection h with h1 h2 h3
  exact hT h2
def PrI (w : World) (P : Nat → Prop) (p : Pg) (l : List At) (s : Sl) (B : Option Addr) (c bl bp : Nat) : Prop :=
 Bx w bl [.slice B l.length c] ∧ Bx w bp (pgC p s) ∧ Rqs w P s p.reqs ∧ SlR w P 5 At.enc ⟨B, l.length, c⟩ l ∧ P bl ∧ P bp
theorem PrI.keep {w w' : World} {P : Nat → Prop} {p : Pg} {l : List At} {s : Sl} {B : Option Addr} {c bl bp : Nat} (h : PrI w P p l s B c bl bp) (hk : Kp P w w') : PrI w' P p l s B c bl bp := by
 obtain ⟨h1, h2, h3, h4, h5, h6⟩ := h
 exact ⟨h1.keep hk h5, h2.keep hk h6, h3.keep hk, h4.keep hk, h5, h6⟩
theorem PrI.step {w w' : World} {P : Nat → Prop} {p : Pg} {l : List At} {s : Sl} {B : Option Addr} {c bl bp : Nat} (h : PrI w P p l s B c bl bp) (hb : Below w.heap.size w w') : PrI w' P p l s B c bl bp := h.keep (Kp.of_below hb)
set_option maxRecDepth 100000 in
set_option maxHeartbeats 8000000 in
theorem pairs_iter {P : Nat → Prop} (w : World) (n : Nat) (p : Pg) (l : List At) (s : Sl) (B : Option Addr) (c bl bp : Nat) (hA : PrI w P p l s B c bl bp)
 (hlr : p.reqs.length ≤ 64) (hll : l.length ≤ 100000) (T : TypeId) (hT : 3 ≠ T) (free : Nat → Prop) (hfree : ∀ b, P b → ¬ free b) (hfw : ∀ b, free b → b < w.heap.size) (hPw : ∀ b, P b → b < w.heap.size) :
 Iter2 Fence.wide n Tryz.prog 90 #[.pointer (some ⟨bl, 0, none⟩), .pointer (some ⟨bp, 0, none⟩)] (fun x : Nat × Nat => #[.int .i64 x.1, .int .i64 x.2]) (fun _ => False) (KeepT w.heap.size T free)
  (fun ys => ys = pairsL p l) (fun _ => True) (fun ys => ∃ t, ys ++ t = pairsL p l) w := by
 intro L J Jx W hW hW2 hJ hJx hY h0
 refine callsIn_wide.2 ?_
 simp only [List.append_toArray, List.cons_append, List.nil_append]
 have HA := Lib.hid hA
 have HFR := Lib.hid hfree
 have HFW := Lib.hid hfw
 have HPW := Lib.hid hPw
 have HJ := Lib.hid hJ
 have HY := Lib.hid hY
 have H0 := Lib.hid h0
 have HW := Lib.hid (Kp.of_below (P := P) hW)
 have hA1 := hA.step hW
 have x0 := hA1.1.1 0 _ rfl
 have z0 := hA1.1.2.2
 have hzW := hW.size
 have hn := hA.2.2.1.len
 obtain ⟨A, n0, c0⟩ := s
 simp only at hn
 subst hn
 clear hfw hPw hA h0 hJ hY hfree hJx hW hA1
 go_enter Tryz.func90, Tryz.ntmps90
 go_wp2_with fail
 go_loopw [10] (fun i wr => ∃ k : Nat, k ≤ l.length ∧ i = .int .i64 k ∧ J (pairsTo p l k) wr ∧ Kp P w wr ∧ w.heap.size + 2 ≤ wr.heap.size) (fun i _ => l.length - (intOf i).toNat)
 case atStart => exact ⟨0, Nat.zero_le _, rfl, by simpa [pairsTo] using H0.out, HW.out, hW2⟩
 case round =>
  clear x0 z0
  obtain ⟨i, hi, rfl, hj, hkw, hw2⟩ := hrel
  have HJ1 := Lib.hid hj
  have HKW := Lib.hid hkw
  have hzr0 := hkw.1
  have hA1 := HA.out.keep hkw
  have HA1 := Lib.hid hA1
  obtain ⟨e1, e2, eR, eL, _, _⟩ := hA1
  clear hj hkw
  by_cases hlt : i < l.length
  ·obtain ⟨bA, oA, a, rfl, hbA, hxa, hca⟩ := eL.reads.at_ hlt
   obtain ⟨ac, am, ag, ap, ak⟩ := a
   have a0 := hca 0 _ rfl
   have a1 := hca 1 _ rfl
   have a2 := hca 2 _ rfl
   have a3 := hca 3 _ rfl
   have a4 := hca 4 _ rfl
   simp only [Nat.add_zero] at a0
   have hld : l.getD i default = ⟨ac, am, ag, ap, ak⟩ := getD_some hxa
   have HROW : Hid (rowP p l i = (eligL p ⟨ac, am, ag, ap, ak⟩).map fun k => (i, k)) := Lib.hid (by unfold rowP; rw [hld])
   have hb4 : Below wr.heap.size wr (wr.alloc (.cells #[.int .i64 ac, .int .i64 am, .int .i64 ag, .int .i64 ap, .int .i64 ak] 69)) := (Below.refl _ _).alloc (Nat.le_refl _) _
   have HB4 := Lib.hid hb4
   have p0 := (e2.step hb4).1 0 _ rfl
   have p1 := (e2.step hb4).1 1 _ rfl
   have p2 := (e2.step hb4).1 2 _ rfl
   have p3 := (e2.step hb4).1 3 _ rfl
   have p4 := (e2.step hb4).1 4 _ rfl
   have p5 := (e2.step hb4).1 5 _ rfl
   have p6 := (e2.step hb4).1 6 _ rfl
   have pz := (e2.step hb4).2.2
   have hEg := Lib.hid (Eligible_any (P := P) p ⟨A, p.reqs.length, c0⟩ ⟨ac, am, ag, ap, ak⟩ _ (eR.step hb4) hlr)
   unfold pgV At.v at hEg
   simp only at hEg
   clear hld hca hxa eL hb4 e1 e2 eR
   go_wp2_with fail
   refine hEg.out.mono ?_
   rintro e w5 ⟨⟨v, rfl, hsl⟩, hb5⟩
   obtain ⟨Av, nv, cv⟩ := v
   obtain rfl : nv = (eligL p ⟨ac, am, ag, ap, ak⟩).length := by obtain ⟨_, _, h, _⟩ := hsl.shape; injection h
   obtain ⟨ks, hks⟩ : ∃ ks, ks = eligL p ⟨ac, am, ag, ap, ak⟩ := ⟨_, rfl⟩
   rw [← hks] at hsl HROW ⊢
   have hkl : ks.length ≤ 64 := by rw [hks]; exact Nat.le_trans (eligTo_len _ _ _) hlr
   have hrl : (rowP p l i).length = ks.length := by rw [HROW.out, List.length_map]
   have HB5 : Hid (Below wr.heap.size wr w5) := Lib.hid (HB4.out.trans (hb5.mono HB4.out.size))
   have HSL : Hid (Owns w5 (w.heap.size + 2) 3 1 nE (.slice Av ks.length cv) ks) := Lib.hid (Owns.base' hsl (by have := HB4.out.size; omega))
   have HJ5 := Lib.hid (HJ.out.1 _ _ _ HJ1.out HB5.out)
   have HK5 := Lib.hid (HKW.out.trans (Kp.of_below HB5.out))
   have hz5 := HB5.out.size
   clear hsl hb5 p0 p1 p2 p3 p4 p5 p6 pz a0 a1 a2 a3 a4 hks hEg
   go_wp2_with fail
   go_loopw [19] (fun i' wr => ∃ k : Nat, k ≤ ks.length ∧ i' = .int .i64 k ∧ J (pairsTo p l i ++ (rowP p l i).take k) wr ∧ Kp P w wr ∧ w.heap.size + 2 ≤ wr.heap.size ∧ Owns wr (w.heap.size + 2) 3 1 nE (.slice Av ks.length cv) ks) (fun i' _ => ks.length - (intOf i').toNat)
   case atStart => exact ⟨0, Nat.zero_le _, rfl, by simpa using HJ5.out, HK5.out, by omega, HSL.out⟩
   case round =>
    clear HJ5 HK5 HSL HB5 HB4 hz5 HJ1 HKW HA1
    obtain ⟨k, hk, rfl, hj, hkw, hzo, hsl⟩ := hrel
    have HJ6 := Lib.hid hj
    have HK6 := Lib.hid hkw
    have HS6 := Lib.hid hsl
    clear hj hkw
    by_cases hlk : k < ks.length
    ·obtain ⟨bb, off, x, hAe, hbb, hxk, hxc⟩ := (hsl.reads nE_len).at_ hlk
     subst hAe
     have c0 := hxc 0 _ rfl
     simp only [Nat.add_zero, Nat.mul_one] at c0
     have hrx : (rowP p l i)[k]? = some (i, x) := by rw [HROW.out, List.getElem?_map, hxk]; rfl
     have HTK : Hid ((rowP p l i).take (k + 1) = (rowP p l i).take k ++ [(i, x)]) := Lib.hid (take_snoc_of hrx)
     refine (wpIn_wide (n := n)).1 ?_
     obtain ⟨fn, tmps, assign, body, hy, hR⟩ := HY.out (pairsTo p l i ++ (rowP p l i).take k) (i, x) _ HJ6.out (pairs_cell (p := p) hlt hrx)
     try simp only at hy
     clear hxc hxk hrx hsl
     gi_wp2
     refine ⟨fun h => (by cases h), hR.mono ?_⟩
     rintro e W3 (⟨rfl, hJ3, hk3⟩ | ⟨rfl, hJx3⟩)
     ·have hk31 := hk3.1
      have hkp : Kp P w W3 := ⟨by have := HK6.out.1; omega, fun b hp hlb => (hk3.2 b (by have := HK6.out.1; omega) (HFR.out b hp) (by have := HPW.out b hp; omega) (by have := HPW.out b hp; omega)).trans (HK6.out.2 b hp hlb)⟩
      have HK3 := Lib.hid hk3
      have HKP := Lib.hid hkp
      have HS3 := Lib.hid (HS6.out.keepT hk3 (Nat.le_refl _) hT HFW.out)
      have HJ3 := Lib.hid hJ3
      clear hk3 hkp hJ3
      gi_wp2
      go_roundw
      case rel => exact ⟨k + 1, by omega, by go_num, by rw [HTK.out, ← List.append_assoc]; exact HJ3.out, HKP.out, by omega, HS3.out⟩
      case measure => simp [intOf]; omega
     ·gi_wp2
      refine bodyPost_ret (results_none rfl _ _ _) rfl ?_
      exact ⟨⟨_, rfl⟩, .inr ⟨_, trivial, hJx3⟩⟩
    ·obtain rfl : k = ks.length := by omega
     clear hsl
     go_wp2_with fail
     go_roundw
     case rel => exact ⟨i + 1, by omega, by go_num, by
      have h := HJ6.out
      rw [← hrl, List.take_length] at h
      unfold pairsTo
      rw [flat_range]
      exact h, HK6.out, by omega⟩
     case measure => simp [intOf]; omega
  ·obtain rfl : i = l.length := by omega
   clear eL
   go_wp2_with fail
   go_end0
   exact ⟨⟨_, rfl⟩, .inl ⟨_, rfl, HJ1.out⟩⟩
theorem pairs_any (p : Pg) (s : Sl) (B : Option Addr) (n c : Nat) (w : World) :
 Calls Tryz.prog 48 #[pgV p s, .slice B n c] w fun e w' => e = .returned (.func (.func 90) #[] #[.pointer (some ⟨w.heap.size + 1, 0, none⟩), .pointer (some ⟨w.heap.size, 0, none⟩)]) ∧
  w' = (w.alloc (.cells (pgC p s).toArray 44)).alloc (.cells #[.slice B n c] 47) := by
 have hmf : ∀ (fn : Fn) (first cap : Array Value) (w : World), (Instr.makeFunc fn first cap).run Tryz.prog w = .ok (.func fn first cap) w := fun _ _ _ _ => rfl
 unfold pgV pgC
 go_enter Tryz.func48, Tryz.ntmps48
 go_wp2_with fail
 go_ret
 exact ⟨rfl, rfl⟩
end Go.Proofs.YtalmbigebjbaoaaGreatDoor
