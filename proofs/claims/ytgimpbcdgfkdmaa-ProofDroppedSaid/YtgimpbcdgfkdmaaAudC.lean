/- The pairs of attempts and requirements: the iterator that yields them. -/
import Derived.Test.YtgimpbcdgfkdmaaAudB
import Derived.Test.YtgimpbcdgfkdmaaProK
import Derived.Test.YtgimpbcdgfkdmaaSeq3
namespace Go.Proofs.Ytgimpbcdgfkdmaa
open Go.RowKit Go.Shelf
set_option linter.unusedSimpArgs false
set_option linter.unusedVariables false

attribute [local go_sem] Oper.semAt_some

def rowP (p : Pg) (l : List At) (i : Nat) : List (Nat × Nat) := (eligL p (l.getD i default)).map fun k => (i, k)
def pairsTo (p : Pg) (l : List At) (n : Nat) : List (Nat × Nat) := (List.range n).flatMap (rowP p l)
def pairsL (p : Pg) (l : List At) : List (Nat × Nat) := pairsTo p l l.length
theorem pairs_row {p : Pg} {l : List At} {i : Nat} (h : i < l.length) : ∃ t, pairsTo p l i ++ (rowP p l i ++ t) = pairsL p l := by
  obtain ⟨t, ht⟩ := flat_range_pre (rowP p l) (show i + 1 ≤ l.length by omega)
  rw [flat_range] at ht
  exact ⟨t, by unfold pairsL pairsTo; rw [← ht]; simp only [List.append_assoc]⟩
theorem pairs_cell {p : Pg} {l : List At} {i k : Nat} {x : Nat × Nat} (h : i < l.length) (hk : (rowP p l i)[k]? = some x) : ∃ t, pairsTo p l i ++ (rowP p l i).take k ++ [x] ++ t = pairsL p l := by
  obtain ⟨t, ht⟩ := pairs_row (p := p) h
  refine ⟨(rowP p l i).drop (k + 1) ++ t, ?_⟩
  rw [← ht]
  have e : rowP p l i = (rowP p l i).take k ++ [x] ++ (rowP p l i).drop (k + 1) := by
    rw [← take_snoc_of hk, List.take_append_drop]
  conv => rhs; rw [e]
  simp only [List.append_assoc]
/-- a row of another type stays through the rounds -/
theorem Owns.keepT {α : Type} {W W' : World} {b0 B sz : Nat} {e T : TypeId} {free : Nat → Prop} {en : α → List Value} {v : Value} {ys : List α} (h : Owns W b0 e sz en v ys) (hk : KeepT B T free W W') (hb : B + 2 ≤ b0) (hT : e ≠ T) (hf : ∀ b, free b → b < B) : Owns W' b0 e sz en v ys := by
  obtain ⟨h1, h2⟩ := h
  refine ⟨h1, ?_⟩
  rcases h2 with h | ⟨g, cap, cur, k1, k2, k3, k4⟩
  · exact .inl h
  · have hl : g < W.heap.size := (Array.getElem?_eq_some_iff.1 k3).1
    refine .inr ⟨g, cap, cur, k1, k2, (hk.2 g hl (fun h => by have := hf g h; omega) (by omega) (fun ⟨_, cs, fz, h⟩ => ?_)).trans k3, k4⟩
    rw [k3] at h
    injection h with h
    injection h with h1 h2 h3
    exact hT h2
/-- what the iterator reads -/
def PrI (w : World) (P : Nat → Prop) (p : Pg) (l : List At) (s : Sl) (B : Option Addr) (c bl bp : Nat) : Prop :=
  Bx w bl [.slice B l.length c] ∧ Bx w bp (pgC p s) ∧ Rqs w P s p.reqs ∧ SlR w P 5 At.enc ⟨B, l.length, c⟩ l ∧ P bl ∧ P bp
theorem PrI.keep {w w' : World} {P : Nat → Prop} {p : Pg} {l : List At} {s : Sl} {B : Option Addr} {c bl bp : Nat} (h : PrI w P p l s B c bl bp) (hk : Kp P w w') : PrI w' P p l s B c bl bp := by
  obtain ⟨h1, h2, h3, h4, h5, h6⟩ := h
  exact ⟨h1.keep hk h5, h2.keep hk h6, h3.keep hk, h4.keep hk, h5, h6⟩
theorem PrI.step {w w' : World} {P : Nat → Prop} {p : Pg} {l : List At} {s : Sl} {B : Option Addr} {c bl bp : Nat} (h : PrI w P p l s B c bl bp) (hb : Below w.heap.size w w') : PrI w' P p l s B c bl bp := h.keep (Kp.of_below hb)

set_option maxRecDepth 100000 in
set_option maxHeartbeats 8000000 in
theorem pairs_iter {P : Nat → Prop} (w : World) (n : Nat) (p : Pg) (l : List At) (s : Sl) (B : Option Addr) (c bl bp : Nat) (hA : PrI w P p l s B c bl bp)
    (hlr : p.reqs.length ≤ 64) (hll : l.length ≤ 1000) (T : TypeId) (hT : 3 ≠ T) (free : Nat → Prop) (hfree : ∀ b, P b → ¬ free b) (hfw : ∀ b, free b → b < w.heap.size) (hPw : ∀ b, P b → b < w.heap.size) :
    Iter2 Fence.wide n Try.prog 58 #[.pointer (some ⟨bl, 0, none⟩), .pointer (some ⟨bp, 0, none⟩)] (fun x : Nat × Nat => #[.int .i64 x.1, .int .i64 x.2]) (fun _ => False) (KeepT w.heap.size T free)
      (fun ys => ys = pairsL p l) (fun _ => True) (fun ys => ∃ t, ys ++ t = pairsL p l) w := by
  intro L J Jx W hW hW2 hJ hJx hY h0
  refine callsIn_wide.2 ?_
  simp only [List.append_toArray, List.cons_append, List.nil_append]
  have HA := Lib.hid hA
  have HFR := Lib.hid hfree
  have HFW := Lib.hid hfw
  have HPW := Lib.hid hPw
  have HJ := Lib.hid hJ
  have HY := Lib.hid hY
  have H0 := Lib.hid h0
  have HW := Lib.hid (Kp.of_below (P := P) hW)
  have hA1 := hA.step hW
  have x0 := hA1.1.1 0 _ rfl
  have z0 := hA1.1.2.2
  have hzW := hW.size
  have hn := hA.2.2.1.len
  obtain ⟨A, n0, c0⟩ := s
  simp only at hn
  subst hn
  clear hfw hPw hA h0 hJ hY hfree hJx hW hA1
  go_enter Try.func58, Try.ntmps58
  go_wp2_with fail
  go_loopw [10] (fun i wr => ∃ k : Nat, k ≤ l.length ∧ i = .int .i64 k ∧ J (pairsTo p l k) wr ∧ Kp P w wr ∧ w.heap.size + 2 ≤ wr.heap.size) (fun i _ => l.length - (intOf i).toNat)
  case atStart => exact ⟨0, Nat.zero_le _, rfl, by simpa [pairsTo] using H0.out, HW.out, hW2⟩
  case round =>
    clear x0 z0
    obtain ⟨i, hi, rfl, hj, hkw, hw2⟩ := hrel
    have HJ1 := Lib.hid hj
    have HKW := Lib.hid hkw
    have hzr0 := hkw.1
    have hA1 := HA.out.keep hkw
    have HA1 := Lib.hid hA1
    obtain ⟨e1, e2, eR, eL, _, _⟩ := hA1
    clear hj hkw
    by_cases hlt : i < l.length
    · obtain ⟨bA, oA, a, rfl, hbA, hxa, hca⟩ := eL.reads.at_ hlt
      obtain ⟨ac, am, ag, ap, ak⟩ := a
      have a0 := hca 0 _ rfl
      have a1 := hca 1 _ rfl
      have a2 := hca 2 _ rfl
      have a3 := hca 3 _ rfl
      have a4 := hca 4 _ rfl
      simp only [Nat.add_zero] at a0
      have hld : l.getD i default = ⟨ac, am, ag, ap, ak⟩ := getD_some hxa
      have HROW : Hid (rowP p l i = (eligL p ⟨ac, am, ag, ap, ak⟩).map fun k => (i, k)) := Lib.hid (by unfold rowP; rw [hld])
      have hb4 : Below wr.heap.size wr (wr.alloc (.cells #[.int .i64 ac, .int .i64 am, .int .i64 ag, .int .i64 ap, .int .i64 ak] 47)) := (Below.refl _ _).alloc (Nat.le_refl _) _
      have HB4 := Lib.hid hb4
      have p0 := (e2.step hb4).1 0 _ rfl
      have p1 := (e2.step hb4).1 1 _ rfl
      have p2 := (e2.step hb4).1 2 _ rfl
      have p3 := (e2.step hb4).1 3 _ rfl
      have p4 := (e2.step hb4).1 4 _ rfl
      have p5 := (e2.step hb4).1 5 _ rfl
      have p6 := (e2.step hb4).1 6 _ rfl
      have pz := (e2.step hb4).2.2
      have hEg := Lib.hid (Eligible_any (P := P) p ⟨A, p.reqs.length, c0⟩ ⟨ac, am, ag, ap, ak⟩ _ (eR.step hb4) hlr)
      unfold pgV At.v at hEg
      simp only at hEg
      clear hld hca hxa eL hb4 e1 e2 eR
      go_wp2_with fail
      refine hEg.out.mono ?_
      rintro e w5 ⟨⟨v, rfl, hsl⟩, hb5⟩
      obtain ⟨Av, nv, cv⟩ := v
      obtain rfl : nv = (eligL p ⟨ac, am, ag, ap, ak⟩).length := by obtain ⟨_, _, h, _⟩ := hsl.shape; injection h
      obtain ⟨ks, hks⟩ : ∃ ks, ks = eligL p ⟨ac, am, ag, ap, ak⟩ := ⟨_, rfl⟩
      rw [← hks] at hsl HROW ⊢
      have hkl : ks.length ≤ 64 := by rw [hks]; exact Nat.le_trans (eligTo_len _ _ _) hlr
      have hrl : (rowP p l i).length = ks.length := by rw [HROW.out, List.length_map]
      have HB5 : Hid (Below wr.heap.size wr w5) := Lib.hid (HB4.out.trans (hb5.mono HB4.out.size))
      have HSL : Hid (Owns w5 (w.heap.size + 2) 3 1 nE (.slice Av ks.length cv) ks) := Lib.hid (Owns.base' hsl (by have := HB4.out.size; omega))
      have HJ5 := Lib.hid (HJ.out.1 _ _ _ HJ1.out HB5.out)
      have HK5 := Lib.hid (HKW.out.trans (Kp.of_below HB5.out))
      have hz5 := HB5.out.size
      clear hsl hb5 p0 p1 p2 p3 p4 p5 p6 pz a0 a1 a2 a3 a4 hks hEg
      go_wp2_with fail
      go_loopw [19] (fun i' wr => ∃ k : Nat, k ≤ ks.length ∧ i' = .int .i64 k ∧ J (pairsTo p l i ++ (rowP p l i).take k) wr ∧ Kp P w wr ∧ w.heap.size + 2 ≤ wr.heap.size ∧ Owns wr (w.heap.size + 2) 3 1 nE (.slice Av ks.length cv) ks) (fun i' _ => ks.length - (intOf i').toNat)
      case atStart => exact ⟨0, Nat.zero_le _, rfl, by simpa using HJ5.out, HK5.out, by omega, HSL.out⟩
      case round =>
        clear HJ5 HK5 HSL HB5 HB4 hz5 HJ1 HKW HA1
        obtain ⟨k, hk, rfl, hj, hkw, hzo, hsl⟩ := hrel
        have HJ6 := Lib.hid hj
        have HK6 := Lib.hid hkw
        have HS6 := Lib.hid hsl
        clear hj hkw
        by_cases hlk : k < ks.length
        · obtain ⟨bb, off, x, hAe, hbb, hxk, hxc⟩ := (hsl.reads nE_len).at_ hlk
          subst hAe
          have c0 := hxc 0 _ rfl
          simp only [Nat.add_zero, Nat.mul_one] at c0
          have hrx : (rowP p l i)[k]? = some (i, x) := by rw [HROW.out, List.getElem?_map, hxk]; rfl
          have HTK : Hid ((rowP p l i).take (k + 1) = (rowP p l i).take k ++ [(i, x)]) := Lib.hid (take_snoc_of hrx)
          refine (wpIn_wide (n := n)).1 ?_
          obtain ⟨fn, tmps, assign, body, hy, hR⟩ := HY.out (pairsTo p l i ++ (rowP p l i).take k) (i, x) _ HJ6.out (pairs_cell (p := p) hlt hrx)
          try simp only at hy
          clear hxc hxk hrx hsl
          gi_wp2
          refine ⟨fun h => (by cases h), hR.mono ?_⟩
          rintro e W3 (⟨rfl, hJ3, hk3⟩ | ⟨rfl, hJx3⟩)
          · have hk31 := hk3.1
            have hkp : Kp P w W3 := ⟨by have := HK6.out.1; omega, fun b hp hlb => (hk3.2 b (by have := HK6.out.1; omega) (HFR.out b hp) (by have := HPW.out b hp; omega) (by have := HPW.out b hp; omega)).trans (HK6.out.2 b hp hlb)⟩
            have HK3 := Lib.hid hk3
            have HKP := Lib.hid hkp
            have HS3 := Lib.hid (HS6.out.keepT hk3 (Nat.le_refl _) hT HFW.out)
            have HJ3 := Lib.hid hJ3
            clear hk3 hkp hJ3
            gi_wp2
            go_roundw
            case rel => exact ⟨k + 1, by omega, by go_num, by rw [HTK.out, ← List.append_assoc]; exact HJ3.out, HKP.out, by omega, HS3.out⟩
            case measure => simp [intOf]; omega
          · gi_wp2
            refine bodyPost_ret (results_none rfl _ _ _) rfl ?_
            exact ⟨⟨_, rfl⟩, .inr ⟨_, trivial, hJx3⟩⟩
        · obtain rfl : k = ks.length := by omega
          clear hsl
          go_wp2_with fail
          go_roundw
          case rel => exact ⟨i + 1, by omega, by go_num, by
            have h := HJ6.out
            rw [← hrl, List.take_length] at h
            unfold pairsTo
            rw [flat_range]
            exact h, HK6.out, by omega⟩
          case measure => simp [intOf]; omega
    · obtain rfl : i = l.length := by omega
      clear eL
      go_wp2_with fail
      go_end0
      exact ⟨⟨_, rfl⟩, .inl ⟨_, rfl, HJ1.out⟩⟩
theorem pairs_any (p : Pg) (s : Sl) (B : Option Addr) (n c : Nat) (w : World) :
    Calls Try.prog 37 #[pgV p s, .slice B n c] w fun e w' => e = .returned (.func (.func 58) #[] #[.pointer (some ⟨w.heap.size + 1, 0, none⟩), .pointer (some ⟨w.heap.size, 0, none⟩)]) ∧
      w' = (w.alloc (.cells (pgC p s).toArray 26)).alloc (.cells #[.slice B n c] 27) := by
  have hmf : ∀ (fn : Fn) (first cap : Array Value) (w : World), (Instr.makeFunc fn first cap).run Try.prog w = .ok (.func fn first cap) w := fun _ _ _ _ => rfl
  unfold pgV pgC
  go_enter Try.func37, Try.ntmps37
  go_wp2_with fail
  go_ret
  exact ⟨rfl, rfl⟩
end Go.Proofs.Ytgimpbcdgfkdmaa
