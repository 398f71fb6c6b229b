/- TopDegree, what its proof leans on: the texts AudX, SeqB, TopA. -/
import Derived.Test.YtalmbigebjbaoaaGreatDoorM22
import Derived.Test.YtalmbigebjbaoaaGreatDoorM10
import Derived.Test.YtalmbigebjbaoaaGreatDoorM03
import Derived.Test.YtalmbigebjbaoaaGreatDoorM04
import Derived.StillTailTactics
import Derived.BigRegion
namespace Go.Proofs.YtalmbigebjbaoaaGreatDoor
set_option linter.unusedSimpArgs false
set_option linter.unusedVariables false
theorem audit_parts {p : Pg} {l : List At} {us : List Us} {M : Int} {cs : List Bool} (h : auditE p l us M cs = 0) : allowP p l us = 0 ∧ totR p.reqs - usT us = M ∧ boundP p l cs = (M, 0) := by
 unfold auditE at h
 split at h
 ·rename_i h1
  split at h
  ·rename_i h2
   split at h
   ·rename_i h3
    split at h
    ·rename_i h4
     exact ⟨h1, h2, Prod.ext h4 h3⟩
    ·simp at h
   ·contradiction
  ·simp at h
 ·contradiction
theorem audit_other {p : Pg} {l : List At} {us : List Us} {M : Int} {cs : List Bool} (h : auditE p l us M cs = 0) {o : Int} (ho : o ≠ M) : auditE p l us o cs = 200 := by
 obtain ⟨h1, h2, _⟩ := audit_parts h
 unfold auditE
 rw [if_pos h1, if_neg (by omega)]
theorem audit_unique {p : Pg} {l : List At} {us vs : List Us} {M N : Int} {cs ds : List Bool} (h : auditE p l us M cs = 0) (k : auditE p l vs N ds = 0) : M = N := by
 obtain ⟨h1, h2, _⟩ := audit_parts h
 obtain ⟨k1, k2, _⟩ := audit_parts k
 have e1 := optimal_law h k1
 have e2 := optimal_law k h1
 omega
theorem usT_pos : ∀ us : List Us, (∀ u ∈ us, 1 ≤ u.credits) → 0 ≤ usT us
 | [], _ => by simp [usT]
 | u :: us, h => by
   have h1 := usT_pos us (fun v hv => h v (List.mem_cons_of_mem _ hv))
   have h2 := h u (List.mem_cons_self ..)
   simp only [usT]; omega
end Go.Proofs.YtalmbigebjbaoaaGreatDoor
namespace Go.Proofs.YtalmbigebjbaoaaGreatDoor
open Go.RowKit
set_option linter.unusedSimpArgs false
set_option linter.unusedVariables false
theorem Keep2.cell {B : Nat} {free : Nat → Prop} {X Y : World} (h : Keep2 B free X Y) {a : Addr} (hl : a.block < X.heap.size) (hf : ¬ free a.block) (hn : ¬ (B ≤ a.block ∧ a.block < B + 2)) : Y.cell? a = X.cell? a := World.cell?_of_block (h.2 _ hl hf hn)
section
variable {F : Fence} {n : Nat} {P : Program}
theorem wpIn_seqB {α : Type} {g : Operand} {ps : Array Tmp} {assign body : Code} {Q : Exit → Act → World → Prop} {a : Act} {w : World}
 (hro : F.round = none) (h1 : 1 ≤ n) {gf : Nat} {lb : Array Value} (hg : a.eval g = .func (.func gf) #[] lb) (hFg : F.fn gf) (eg : ∀ args w, (callFunc gf args).run P w = .ok (.enter gf args) w)
 {encs : α → Array Value} {own free : Nat → Prop} (hown : ∀ b, own b → b < w.heap.size) {S Sp Pr : List α → Prop}
 (hit : Iter2 F (n - 1) P gf lb encs own (Keep2 w.heap.size free) S Sp Pr w) (hps : ∀ x, (encs x).size = ps.size)
 (I : List α → World → Prop) (Ix : Code → List α → World → Prop) (hI : OwnFrom w.heap.size I) (hIx : ∀ c, OwnFrom w.heap.size (Ix c))
 (hIo : ∀ pre W a v, I pre W → own a.block → I pre (W.setCell a v)) (hIxo : ∀ c pre W a v, Ix c pre W → own a.block → Ix c pre (W.setCell a v))
 (h0 : I [] w) (cs : α → Array Value) (T : TypeId) (G : Nat → α → Act)
 (hassign : ∀ (l : Nat) (pre : List α) (x : α) (W : World) (K : Act → World → Prop), I pre W → Pr (pre ++ [x]) → w.heap.size ≤ W.heap.size →
   (∀ g W', g = W.heap.size → W' = W.alloc (.cells (cs x) T) → K (G g x) W') →
   assign.wpIn (F.inRound l) (n - 1 - 1) P (Exit.then K (fun _ _ _ => False)) { tmps := (ps.zip (encs x)).foldl (fun t (p, v) => t.setIfInBounds p v) a.tmps, defers := [] } W)
 (hbody : ∀ (l : Nat) (pre : List α) (x : α) (g : Nat) (W : World), I pre W → Pr (pre ++ [x]) → w.heap.size + 2 ≤ W.heap.size → w.heap.size ≤ g → W.heap[g]? = some (.cells (cs x) T (0, 0)) → body.wpIn (F.inRound l) (n - 1 - 1) P (roundPost (Keep2 w.heap.size free) I Ix (pre ++ [x]) W) (G g x) W)
 (hdone : ∀ (D : Nat) (xs : List α) (W : World), w.heap.size ≤ D → S xs → I xs W → W.heap[D]? = some (.deferred (some [])) → Q .normal { a with defers := { target := .collected D, args := #[] } :: a.defers } W)
 (hstop : ∀ (D : Nat) (c : Code) (pre : List α) (W : World), w.heap.size ≤ D → Sp pre → Ix c pre W → W.heap[D]? = some (.deferred (some [])) → c.wpIn F n P Q { a with defers := { target := .collected D, args := #[] } :: a.defers } W) :
 (Code.rangeFunc g ps assign body).wpIn F n P Q a w :=
 wpIn_seq2 hro h1 hg hFg eg hown hit hps I Ix hI hIx hIo hIxo h0 (fun x a' W => ∃ g, a' = G g x ∧ w.heap.size ≤ g ∧ W.heap[g]? = some (.cells (cs x) T (0, 0)))
  (fun x a' W L o o' ⟨g, e, hz, h⟩ hL ho => ⟨g, e, hz, (World.putObj_heap_other (fun e2 => by subst e2; rw [h] at hL; cases hL; cases ho)).trans h⟩)
  (fun l pre x W K hi hp hz hK => hassign l pre x W K hi hp hz (fun g W' eg e => by
    subst eg e
    have hb : Below W.heap.size W (W.alloc (.cells (cs x) T)) := (Below.refl _ _).alloc (Nat.le_refl _) _
    exact hK _ _ (KeepsOthers.of_below hb) hb ⟨_, rfl, hz, World.alloc_heap_new _ _⟩))
  (fun l pre x a' W hi hp hz ⟨g, e, hgz, h⟩ => by subst e; exact hbody l pre x g W hi hp hz hgz h) hdone hstop
end
end Go.Proofs.YtalmbigebjbaoaaGreatDoor
namespace Go.Proofs.YtalmbigebjbaoaaGreatDoor
open Go.RowKit Go.Shelf
set_option linter.unusedSimpArgs false
set_option linter.unusedVariables false
structure Fc where
 kind : Int
 subj : Int
 obj : Int
 val : Int
 frm : Int
 till : Int
 known : Int
 no : Int
 deriving DecidableEq, Inhabited
def Fc.enc (f : Fc) : List Value := [.int .i64 f.kind, .int .i64 f.subj, .int .i64 f.obj, .int .i64 f.val, .int .i64 f.frm, .int .i64 f.till, .int .i64 f.known, .int .i64 f.no]
def Fc.v (f : Fc) : Value := .agg #[.int .i64 f.kind, .int .i64 f.subj, .int .i64 f.obj, .int .i64 f.val, .int .i64 f.frm, .int .i64 f.till, .int .i64 f.known, .int .i64 f.no]
structure Ky where
 kind : Int
 subj : Int
 obj : Int
 deriving DecidableEq, Inhabited
def Ky.v (k : Ky) : Value := .agg #[.int .i64 k.kind, .int .i64 k.subj, .int .i64 k.obj]
def Fc.key (f : Fc) : Ky := ⟨f.kind, f.subj, f.obj⟩
def firstNZ : List Int → Int
 | [] => 0
 | n :: l => if n = 0 then firstNZ l else n
theorem firstNZ_drop (l : List Int) (k : Nat) (n : Int) (h : l[k]? = some n) : firstNZ (l.drop k) = if n = 0 then firstNZ (l.drop (k + 1)) else n := by
 have hl := (List.getElem?_eq_some_iff.1 h).1
 rw [List.drop_eq_getElem_cons hl, (List.getElem?_eq_some_iff.1 h).2]
 rfl
set_option maxHeartbeats 1000000 in
theorem Or_any (l : List Int) (A : Option Addr) (c : Nat) (w : World) (hx : Reads w w.heap.size A 1 intE l) (hl : l.length ≤ 9223372036854775807) :
 Calls Tryz.prog 114 #[.slice A l.length c] w fun e w' => e = .returned (.int .i64 (firstNZ l)) ∧ w = w' := by
 have HX := Lib.hid hx
 clear hx
 go_enter Tryz.func114, Tryz.ntmps114
 go_wp2_with fail
 go_loop [8] (fun i => ∃ k : Nat, k ≤ l.length ∧ i = .int .i64 k ∧ firstNZ l = firstNZ (l.drop k)) (fun i => l.length - (intOf i).toNat)
 case atStart => exact ⟨0, Nat.zero_le _, rfl, rfl⟩
 case round =>
  obtain ⟨k, hk, rfl, hf⟩ := hrel
  have HF := Lib.hid hf
  clear hf
  by_cases hlt : k < l.length
  ·obtain ⟨bb, off, n, rfl, hbl, hxk, hc⟩ := HX.out.at_ hlt
   have c0 := hc 0 _ rfl
   simp only [Nat.add_zero, Nat.mul_one] at c0
   have hd := firstNZ_drop l k n hxk
   have HD := Lib.hid hd
   clear hc hxk hd
   cases hn : n == 0
   ·go_wp2_with fail
    go_ret
    exact ⟨ret_int (by rw [HF.out, HD.out, if_neg (by simpa using hn)]), rfl⟩
   ·have HN := Lib.hid hn
    go_wp2_with fail
    go_round
    case rel => exact ⟨k + 1, by omega, by go_num, by rw [HF.out, HD.out, if_pos (by simpa using HN.out)]⟩
    case measure => simp [intOf]; omega
  ·obtain rfl : k = l.length := by omega
   go_wp2_with fail
   go_ret
   exact ⟨ret_int (by rw [HF.out]; simp [firstNZ]), rfl⟩
def cmpF (a b : Fc) : Int := firstNZ [cmpI a.known b.known, cmpI a.no b.no]
set_option maxRecDepth 100000 in
set_option maxHeartbeats 2000000 in
theorem FCompare_any (a b : Fc) (w : World) :
 Calls Tryz.prog 94 #[a.v, b.v] w fun e w' => e = .returned (.int .i64 (cmpF a b)) ∧ Below w.heap.size w w' := by
 obtain ⟨a0, a1, a2, a3, a4, a5, a6, a7⟩ := a
 obtain ⟨b0, b1, b2, b3, b4, b5, b6, b7⟩ := b
 unfold Fc.v
 go_enter Tryz.func94, Tryz.ntmps94
 go_wp2_with fail
 refine wp_region_tail 10 (by kernel_rfl) (by kernel_rfl) ?_
 simp only [List.take_succ_cons, List.take_zero, List.drop_succ_cons, List.drop_zero]
 repeat still_step
 still_call ((Compare_any _ _ _).mono fun _ _ h => ⟨h.1, h.2.symm⟩)
 repeat still_step
 still_call ((Compare_any _ _ _).mono fun _ _ h => ⟨h.1, h.2.symm⟩)
 refine wpStill_nil ?_
 go_wp2_with fail
 refine (Or_any [_, _] _ _ _ ((reads_ints ((w.alloc _).alloc _) (w.heap.size + 1 + 1) (by simp) [_, _] _ _ rfl).drew.more (by simp)) (by simp)).mono ?_
 rintro e w1 ⟨rfl, rfl⟩
 go_wp2_with fail
 go_ret
 refine ⟨ret_int ?_, by go_grown⟩
 simp [cmpF, *]
theorem of_any (A : Option Addr) (n c : Nat) (k : Ky) (known : Int) (w : World) :
 Calls Tryz.prog 93 #[.slice A n c, k.v, .int .i64 known] w fun e w' =>
  e = .returned (.func (.func 126) #[] #[.pointer (some ⟨w.heap.size, 0, none⟩), .pointer (some ⟨w.heap.size + 1, 0, none⟩), .pointer (some ⟨w.heap.size + 2, 0, none⟩)]) ∧
  w' = ((w.alloc (.cells #[.slice A n c] 27)).alloc (.cells #[.int .i64 k.kind, .int .i64 k.subj, .int .i64 k.obj] 86)).alloc (.cells #[.int .i64 known] 3) := by
 unfold Ky.v
 go_enter Tryz.func93, Tryz.ntmps93
 go_wp2_with fail
 go_ret
 exact ⟨rfl, rfl⟩
def ofP (k : Ky) (known : Int) (f : Fc) : Bool := decide (f.key = k) && decide (f.known ≤ known)
theorem filter_take {α : Type} {p : α → Bool} {ls : List α} {k : Nat} {x : α} (h : ls[k]? = some x) : (ls.take (k + 1)).filter p = (ls.take k).filter p ++ (if p x then [x] else []) := by
 have hl := (List.getElem?_eq_some_iff.1 h).1
 rw [List.take_succ_eq_append_getElem hl, (List.getElem?_eq_some_iff.1 h).2, List.filter_append]
 simp [List.filter_cons]
set_option maxRecDepth 100000 in
set_option maxHeartbeats 4000000 in
theorem of_iter (w : World) (n : Nat) (n₀ bl bk bn : Nat) (hbl : n₀ ≤ bl) (hbk : n₀ ≤ bk) (hbn : n₀ ≤ bn) (xs : List Fc) (hl : xs.length ≤ 9223372036854775807) (k : Ky) (known : Int) (free : Nat → Prop) (hfree : ∀ b, free b → n₀ ≤ b ∧ b ≠ bl ∧ b ≠ bk ∧ b ≠ bn) (hn : n₀ ≤ w.heap.size)
 (A : Option Addr) (c : Nat) (h1 : w.cell? ⟨bl, 0, none⟩ = some (.slice A xs.length c)) (h2 : w.cell? ⟨bk, 0, none⟩ = some (.int .i64 k.kind)) (h3 : w.cell? ⟨bk, 1, none⟩ = some (.int .i64 k.subj)) (h4 : w.cell? ⟨bk, 2, none⟩ = some (.int .i64 k.obj)) (h5 : w.cell? ⟨bn, 0, none⟩ = some (.int .i64 known))
 (h9 : Reads w n₀ A 8 Fc.enc xs) (h11 : bl < w.heap.size) (h12 : bk < w.heap.size) (h13 : bn < w.heap.size) :
 Iter2 Fence.wide n Tryz.prog 126 #[.pointer (some ⟨bl, 0, none⟩), .pointer (some ⟨bk, 0, none⟩), .pointer (some ⟨bn, 0, none⟩)] (fun f : Fc => #[f.v]) (fun _ => False) (Keep2 w.heap.size free)
  (fun ys => ys = xs.filter (ofP k known)) (fun _ => True) (fun ys => ∃ t, ys ++ t = xs.filter (ofP k known)) w := by
 intro l J Jx W hW hW2 hJ hJx hY h0
 refine callsIn_wide.2 ?_
 simp only [List.append_toArray, List.cons_append, List.nil_append]
 have fa : ¬ free bl ∧ ¬ free bk ∧ ¬ free bn := ⟨fun h => (hfree _ h).2.1 rfl, fun h => (hfree _ h).2.2.1 rfl, fun h => (hfree _ h).2.2.2 rfl⟩
 obtain ⟨k0, k1, k2⟩ := k
 simp only at h2 h3 h4
 have hK0 : (∀ b, b < n₀ → W.heap[b]? = w.heap[b]?) ∧ W.cell? ⟨bl, 0, none⟩ = some (.slice A xs.length c) ∧ W.cell? ⟨bk, 0, none⟩ = some (.int .i64 k0) ∧ W.cell? ⟨bk, 1, none⟩ = some (.int .i64 k1) ∧ W.cell? ⟨bk, 2, none⟩ = some (.int .i64 k2) ∧ W.cell? ⟨bn, 0, none⟩ = some (.int .i64 known) ∧ w.heap.size ≤ W.heap.size :=
  ⟨fun b hb => hW.block b (by omega), (hW.cell (p := ⟨bl, 0, none⟩) h11).trans h1, (hW.cell (p := ⟨bk, 0, none⟩) h12).trans h2, (hW.cell (p := ⟨bk, 1, none⟩) h12).trans h3, (hW.cell (p := ⟨bk, 2, none⟩) h12).trans h4, (hW.cell (p := ⟨bn, 0, none⟩) h13).trans h5, hW.size⟩
 have HX := Lib.hid h9
 have HF := Lib.hid fa
 have HFR := Lib.hid hfree
 have HJ := Lib.hid hJ
 have HY := Lib.hid hY
 have H0 := Lib.hid h0
 have HK := Lib.hid hK0
 obtain ⟨_, hc1, hc2, hc3, hc4, hc5, hzw⟩ := hK0
 have hbl2 : bl < W.heap.size := by omega
 have hbk2 : bk < W.heap.size := by omega
 have hbn2 : bn < W.heap.size := by omega
 clear h1 h2 h3 h4 h5 h9 h0 hJ hY hfree fa hJx hW
 go_enter Tryz.func126, Tryz.ntmps126
 go_wp2_with fail
 go_loopw [9] (fun i wr => ∃ j : Nat, j ≤ xs.length ∧ i = .int .i64 j ∧ J ((xs.take j).filter (ofP ⟨k0, k1, k2⟩ known)) wr ∧ (∀ b, b < n₀ → wr.heap[b]? = w.heap[b]?) ∧ wr.cell? ⟨bl, 0, none⟩ = some (.slice A xs.length c) ∧ wr.cell? ⟨bk, 0, none⟩ = some (.int .i64 k0) ∧ wr.cell? ⟨bk, 1, none⟩ = some (.int .i64 k1) ∧ wr.cell? ⟨bk, 2, none⟩ = some (.int .i64 k2) ∧ wr.cell? ⟨bn, 0, none⟩ = some (.int .i64 known) ∧ w.heap.size ≤ wr.heap.size)
  (fun i _ => xs.length - (intOf i).toNat)
 case atStart => exact ⟨0, Nat.zero_le _, rfl, by simpa using H0.out, HK.out⟩
 case round =>
  obtain ⟨j, hk, rfl, hj, hs, hc1, hc2, hc3, hc4, hc5, hzr⟩ := hrel
  have HJ1 := Lib.hid hj
  have HS := Lib.hid hs
  have HXr := Lib.hid (reads_same HX.out hs)
  clear hj hs
  by_cases hlt : j < xs.length
  ·obtain ⟨ba, oa, x, rfl, hba, hxk, hca⟩ := HXr.out.at_ hlt
   have a0 := hca 0 _ rfl
   have a1 := hca 1 _ rfl
   have a2 := hca 2 _ rfl
   have a3 := hca 3 _ rfl
   have a4 := hca 4 _ rfl
   have a5 := hca 5 _ rfl
   have a6 := hca 6 _ rfl
   have a7 := hca 7 _ rfl
   simp only [Nat.add_zero] at a0
   have hba2 : ba < wr.heap.size := by omega
   have hbk3 : bk < wr.heap.size := by omega
   have hbn3 : bn < wr.heap.size := by omega
   have hbl3 : bl < wr.heap.size := by omega
   have HT := Lib.hid (filter_take (p := ofP ⟨k0, k1, k2⟩ known) hxk)
   obtain ⟨x0, x1, x2, x3, x4, x5, x6, x7⟩ := x
   have hB : Below wr.heap.size wr (wr.alloc (.cells #[.int .i64 x0, .int .i64 x1, .int .i64 x2, .int .i64 x3, .int .i64 x4, .int .i64 x5, .int .i64 x6, .int .i64 x7] 183)) := (Below.refl _ _).alloc (Nat.le_refl _) _
   have HB := Lib.hid hB
   have hjn := HJ.out.1 _ _ _ HJ1.out hB
   have HJN := Lib.hid hjn
   have hw1 : ∀ b, b < n₀ → (wr.alloc (.cells #[.int .i64 x0, .int .i64 x1, .int .i64 x2, .int .i64 x3, .int .i64 x4, .int .i64 x5, .int .i64 x6, .int .i64 x7] 183)).heap[b]? = w.heap[b]? := fun b hb => (Below.heap_alloc _ _ _ (by omega)).trans (HS.out b hb)
   have HW1 := Lib.hid hw1
   clear hca hxk hB hjn hw1
   simp only at a0 a1 a2 a3 a4 a5 a6 a7
   by_cases hkey : x0 = k0 ∧ x1 = k1 ∧ x2 = k2
   ·obtain ⟨rfl, rfl, rfl⟩ := hkey
    by_cases hkn : x6 ≤ known
    ·have hd : decide (x6 ≤ known) = true := decide_eq_true hkn
     have HP : Hid (ofP ⟨x0, x1, x2⟩ known ⟨x0, x1, x2, x3, x4, x5, x6, x7⟩ = true) := Lib.hid (by unfold ofP; rw [hd]; simp [Fc.key])
     obtain ⟨fn, tmps, assign, body, hy, hR⟩ := HY.out _ ⟨x0, x1, x2, x3, x4, x5, x6, x7⟩ _ HJN.out ⟨(xs.drop (j + 1)).filter (ofP ⟨x0, x1, x2⟩ known), by
      have h := HT.out
      rw [HP.out] at h
      simp only [if_true] at h
      rw [← h, ← List.filter_append, List.take_append_drop]⟩
     try simp only [Fc.v] at hy
     refine (wpIn_wide (n := n)).1 ?_
     gi_wp2
     refine ⟨fun h => (by cases h), hR.mono ?_⟩
     rintro e W3 (⟨rfl, hJ3, hk3⟩ | ⟨rfl, hJx3⟩)
     ·have hk31 := hk3.1
      simp only [World.size_alloc] at hk31
      have q1 := (hk3.cell (a := ⟨bl, 0, none⟩) (by show bl < _; simp; omega) HF.out.1 (by show ¬ (_ ≤ bl ∧ _); omega)).trans ((HB.out.cell (p := ⟨bl, 0, none⟩) hbl3).trans hc1)
      have q2 := (hk3.cell (a := ⟨bk, 0, none⟩) (by show bk < _; simp; omega) HF.out.2.1 (by show ¬ (_ ≤ bk ∧ _); omega)).trans ((HB.out.cell (p := ⟨bk, 0, none⟩) hbk3).trans hc2)
      have q3 := (hk3.cell (a := ⟨bk, 1, none⟩) (by show bk < _; simp; omega) HF.out.2.1 (by show ¬ (_ ≤ bk ∧ _); omega)).trans ((HB.out.cell (p := ⟨bk, 1, none⟩) hbk3).trans hc3)
      have q4 := (hk3.cell (a := ⟨bk, 2, none⟩) (by show bk < _; simp; omega) HF.out.2.1 (by show ¬ (_ ≤ bk ∧ _); omega)).trans ((HB.out.cell (p := ⟨bk, 2, none⟩) hbk3).trans hc4)
      have q5 := (hk3.cell (a := ⟨bn, 0, none⟩) (by show bn < _; simp; omega) HF.out.2.2 (by show ¬ (_ ≤ bn ∧ _); omega)).trans ((HB.out.cell (p := ⟨bn, 0, none⟩) hbn3).trans hc5)
      have HK3 := Lib.hid hk3
      have HJ3 := Lib.hid hJ3
      clear hk3 hJ3
      gi_wp2
      go_roundw
      case rel => exact ⟨j + 1, by omega, by go_num, by rw [HT.out, HP.out]; exact HJ3.out, fun b hb => (HK3.out.2 b (by simp; omega) (fun h => by have := (HFR.out _ h).1; omega) (by omega)).trans (HW1.out b hb), q1, q2, q3, q4, q5, by omega⟩
      case measure => simp [intOf]; omega
     ·gi_wp2
      refine bodyPost_ret (results_none rfl _ _ _) rfl ?_
      exact ⟨⟨_, rfl⟩, .inr ⟨_, trivial, hJx3⟩⟩
    ·have hd : decide (x6 ≤ known) = false := decide_eq_false hkn
     have HP : Hid (ofP ⟨x0, x1, x2⟩ known ⟨x0, x1, x2, x3, x4, x5, x6, x7⟩ = false) := Lib.hid (by unfold ofP; rw [hd]; simp)
     have q1 := (HB.out.cell (p := ⟨bl, 0, none⟩) hbl3).trans hc1
     have q2 := (HB.out.cell (p := ⟨bk, 0, none⟩) hbk3).trans hc2
     have q3 := (HB.out.cell (p := ⟨bk, 1, none⟩) hbk3).trans hc3
     have q4 := (HB.out.cell (p := ⟨bk, 2, none⟩) hbk3).trans hc4
     have q5 := (HB.out.cell (p := ⟨bn, 0, none⟩) hbn3).trans hc5
     refine (wpIn_wide (n := n)).1 ?_
     gi_wp2
     refine ⟨fun f h => (by cases h), ?_⟩
     gi_wp2
     go_roundw
     case rel => exact ⟨j + 1, by omega, by go_num, by rw [HT.out, HP.out]; simpa using HJN.out, HW1.out, q1, q2, q3, q4, q5, by have := HB.out.size; omega⟩
     case measure => simp [intOf]; omega
   ·have HP : Hid (ofP ⟨k0, k1, k2⟩ known ⟨x0, x1, x2, x3, x4, x5, x6, x7⟩ = false) := Lib.hid (by
     unfold ofP
     rw [decide_eq_false (show ¬ (Fc.mk x0 x1 x2 x3 x4 x5 x6 x7).key = ⟨k0, k1, k2⟩ from fun h => hkey (by simpa [Fc.key] using h))]
     rfl)
    have q1 := (HB.out.cell (p := ⟨bl, 0, none⟩) hbl3).trans hc1
    have q2 := (HB.out.cell (p := ⟨bk, 0, none⟩) hbk3).trans hc2
    have q3 := (HB.out.cell (p := ⟨bk, 1, none⟩) hbk3).trans hc3
    have q4 := (HB.out.cell (p := ⟨bk, 2, none⟩) hbk3).trans hc4
    have q5 := (HB.out.cell (p := ⟨bn, 0, none⟩) hbn3).trans hc5
    refine (wpIn_wide (n := n)).1 ?_
    gi_wp2
    all_goals first
     | (exfalso; exact hkey ⟨rfl, rfl, rfl⟩)
     | skip
    all_goals
     try subst_vars
     refine ⟨fun f h => (by cases h), ?_⟩
     gi_wp2
     go_roundw
     case rel => exact ⟨j + 1, by omega, by go_num, by rw [HT.out, HP.out]; simpa using HJN.out, HW1.out, q1, q2, q3, q4, q5, by have := HB.out.size; omega⟩
     case measure => simp [intOf]; omega
  ·obtain rfl : j = xs.length := by omega
   go_wp2_with fail
   go_end0
   have hj := HJ1.out
   rw [List.take_length] at hj
   exact ⟨⟨_, rfl⟩, .inl ⟨_, rfl, hj⟩⟩
end Go.Proofs.YtalmbigebjbaoaaGreatDoor
