/- The chapter's examples hold. -/
import Derived.Test.YtimaealmmjdjkaaAvgJ
namespace Go.Proofs.Ytimaealmmjdjkaa
open Go.RowKit Go.Shelf
set_option linter.unusedSimpArgs false
set_option linter.unusedVariables false

def CellAt (W : World) (b o : Nat) (v : Value) : Prop := W.cell? ⟨b, o, none⟩ = some v ∧ b < W.heap.size
theorem CellAt.step {W W' : World} {b o : Nat} {v : Value} (h : CellAt W b o v) (hb : Below W.heap.size W W') : CellAt W' b o v :=
  ⟨(hb.cell (p := ⟨b, o, none⟩) h.2).trans h.1, by have := hb.size; have := h.2; omega⟩
theorem CellAt.new {w w' : World} {cs : Array Value} {t : TypeId} {B : Nat} (g : Nat) (hg : g = w.heap.size) (h : Below B (w.alloc (.cells cs t)) w') (hB : g < B) (o : Nat) (v : Value) (hv : cs[o]? = some v) : CellAt w' g o v := by
  obtain ⟨h1, _, h3⟩ := below_at g hg h hB
  exact ⟨(h1 o).trans hv, h3⟩
theorem reads_lit {α : Type} {en : α → List Value} {sz : Nat} (hen : ∀ y, (en y).length = sz) (w : World) (l : List α) (cs : Array Value) (t : TypeId) (hcs : cs.toList = l.flatMap en) (hm : l.length ≤ maxLen) :
    Reads (w.alloc (.cells cs t)) (w.alloc (.cells cs t)).heap.size (some ⟨w.heap.size, 0, none⟩) sz en l := (Owns.lit hen hcs (Nat.le_refl _) hm).reads hen
theorem reads_lit_at {α : Type} {en : α → List Value} {sz : Nat} (hen : ∀ y, (en y).length = sz) (w : World) (g : Nat) (hg : g = w.heap.size) (l : List α) (cs : Array Value) (t : TypeId) (hcs : cs.toList = l.flatMap en) (hm : l.length ≤ maxLen) :
    Reads (w.alloc (.cells cs t)) (w.alloc (.cells cs t)).heap.size (some ⟨g, 0, none⟩) sz en l := by subst hg; exact reads_lit hen w l cs t hcs hm
theorem Reads.step {α : Type} {w w' : World} {sz : Nat} {A : Option Addr} {en : α → List Value} {xs : List α} (h : Reads w w.heap.size A sz en xs) (hb : Below w.heap.size w w') : Reads w' w'.heap.size A sz en xs := (h.below hb).more hb.size
theorem reads_mid {α : Type} {w : World} {B sz b : Nat} {en : α → List Value} {xs : List α} (h : Reads w B (some ⟨b, 0, none⟩) sz en xs) (k m : Nat) : Reads w B (some ⟨b, k * sz, none⟩) sz en ((xs.drop k).take m) := fun hn => by
  have hk : 0 < xs.length := by simp at hn; omega
  obtain ⟨b', off, e, hlt, hcell⟩ := h hk
  simp only [Option.some.injEq, Addr.mk.injEq, and_true] at e
  obtain ⟨rfl, rfl⟩ := e
  refine ⟨_, _, rfl, hlt, fun i x j v hi hj => ?_⟩
  rw [List.getElem?_take] at hi
  split at hi
  · rw [List.getElem?_drop] at hi
    have := hcell (k + i) x j v hi hj
    rw [Nat.add_mul] at this
    rw [← this]
    congr 2
    omega
  · cases hi
theorem intE_len (x : Int) : (intE x).length = 1 := rfl
theorem run_slice_mid {P : Program} {t e : TypeId} {i : TypeInfo} (ht : P.underlying t = some (.slice e)) (hi : P.info? e = some i) (A : Option Addr) (n c : Nat) (k : IntKind) (lo hh : Int) (h0 : 0 ≤ lo) (h1 : lo ≤ hh) (h2 : hh ≤ c) (W : World) :
    (Instr.slice t (.slice A n c) (some (.int k lo)) (some (.int k hh)) none).run P W = .ok (.slice (if c = lo.toNat then A else A.map (·.add (lo.toNat * i.size))) (hh.toNat - lo.toNat) (c - lo.toNat)) W := by
  have hb := fun code => run_sliceBound (P := P) (w := W) k hh c code (by omega) h2
  have hb2 := fun code => run_sliceBound (P := P) (w := W) k lo hh.toNat code h0 (by omega)
  simp [Instr.slice, run_underlying ht, Instr.sliceBounds, hb, hb2, sizeOf, typeInfo, hi]

theorem try_any (c t g k : Int) (w : World) :
    Calls Try.prog 25 #[.int .i64 c, .int .i64 t, .int .i64 g, .int .i64 k] w fun e w' => e = .returned (.agg #[.int .i64 c, .int .i64 t, .int .i64 g, .int .i64 0, .int .i64 k]) ∧ Below w.heap.size w w' := by
  go_enter Try.func25, Try.ntmps25
  go_wp2_with fail
  exact bodyPost_ret (v := .agg #[.int .i64 c, .int .i64 t, .int .i64 g, .int .i64 0, .int .i64 k]) (by simp [results, Try.results25, go_sem]) rfl ⟨rfl, by go_grown⟩

set_option maxRecDepth 100000 in
set_option maxHeartbeats 8000000 in
theorem sane_any (w : World) : Calls Try.prog 10 #[] w fun e w' => e = .returned (.bool true) ∧ Below w.heap.size w w' := by
  obtain ⟨i0, hinf, hz0, hz1, hz2⟩ := info_parts Try.infoAt
  have hsl1 := fun (A : Option Addr) W => run_slice_mid (P := Try.prog) Try.underlying22 hinf A 3 3 .i64 1 2 (by decide) (by decide) (by decide) W
  have hsl2 := fun (A : Option Addr) W => run_slice_from (P := Try.prog) Try.underlying22 hinf A 3 3 .i64 2 (by decide) (by decide) W
  rw [hz1] at hsl1 hsl2
  clear hinf hz0 hz1 hz2
  go_enter Try.func10, Try.ntmps10
  have G := Lib.hid (Below.refl w.heap.size w)
  go_wp2_with fail
  refine (try_any 1 3 6 4 _).mono ?_
  rintro e w1 ⟨rfl, hb1⟩
  have S_w1 : Below w.heap.size w w1 := (Below.refl _ w).trans (hb1.mono (by (try simp) <;> omega))
  have G := Lib.hid (G.out.trans (S_w1.mono G.out.size))
  have z_w1 := S_w1.size
  go_wp2_with fail
  refine (try_any 2 3 9 2 _).mono ?_
  rintro e w2 ⟨rfl, hb2⟩
  have S_w2 : Below w1.heap.size w1 w2 := (Below.refl _ w1).trans (hb2.mono (by (try simp) <;> omega))
  have G := Lib.hid (G.out.trans (S_w2.mono G.out.size))
  have z_w2 := S_w2.size
  have RL := Lib.hid (reads_lit At.enc_len w2 ([⟨1, 3, 6, 0, 4⟩, ⟨2, 3, 9, 0, 2⟩] : List At) #[.int .i64 1, .int .i64 3, .int .i64 6, .int .i64 0, .int .i64 4, .int .i64 2, .int .i64 3, .int .i64 9, .int .i64 0, .int .i64 2] 43 rfl (by decide))
  go_wp2_with fail
  refine (Sums_any ([⟨1, 3, 6, 0, 4⟩, ⟨2, 3, 9, 0, 2⟩] : List At) _ 2 _ RL.out (by decide)).mono ?_
  rw [show sumsA ([⟨1, 3, 6, 0, 4⟩, ⟨2, 3, 9, 0, 2⟩] : List At) = (6, 42, 0) from by decide +kernel]
  rintro e w3 ⟨rfl, hb3⟩
  have S_w3 : Below w2.heap.size w2 w3 := ((Below.refl _ w2).alloc (by (try simp) <;> omega) _).trans (hb3.mono (by (try simp) <;> omega))
  have G := Lib.hid (G.out.trans (S_w3.mono G.out.size))
  have z_w3 := S_w3.size
  have RL := Lib.hid (RL.out.step (hb3))
  go_wp2_with fail
  refine (Mean_any ([⟨1, 3, 6, 0, 4⟩, ⟨2, 3, 9, 0, 2⟩] : List At) _ 2 _ RL.out (by decide)).mono ?_
  rw [show meanA ([⟨1, 3, 6, 0, 4⟩, ⟨2, 3, 9, 0, 2⟩] : List At) = (⟨7, 1⟩, 0) from by decide +kernel]
  simp only [Ra.v]
  rintro e w4 ⟨rfl, hb4⟩
  have S_w4 : Below w3.heap.size w3 w4 := (Below.refl _ w3).trans (hb4.mono (by (try simp) <;> omega))
  have G := Lib.hid (G.out.trans (S_w4.mono G.out.size))
  have RL := Lib.hid ((RL.out.below S_w4).more S_w4.size)
  have z_w4 := S_w4.size
  go_wp2_with fail
  refine (Mean_any [] none 0 _ Reads.nil_ (by decide)).mono ?_
  rw [show meanA [] = (⟨0, 1⟩, 0) from by decide +kernel]
  simp only [Ra.v]
  rintro e w5 ⟨rfl, hb5⟩
  have S_w5 : Below w4.heap.size w4 w5 := ((Below.refl _ w4).alloc (by (try simp) <;> omega) _).trans (hb5.mono (by (try simp) <;> omega))
  have G := Lib.hid (G.out.trans (S_w5.mono G.out.size))
  have RL := Lib.hid ((RL.out.below S_w5).more S_w5.size)
  have z_w5 := S_w5.size
  have m0 := Lib.hid (CellAt.new (cs := #[.int .i64 7, .int .i64 1]) (t := 29) w4.heap.size rfl (hb5) (by (try simp) <;> omega) 0 _ rfl)
  have m1 := Lib.hid (CellAt.new (cs := #[.int .i64 7, .int .i64 1]) (t := 29) w4.heap.size rfl (hb5) (by (try simp) <;> omega) 1 _ rfl)
  go_wp2_with fail
  refine (try_any 1 3 13 4 _).mono ?_
  rintro e w6 ⟨rfl, hb6⟩
  have S_w6 : Below w5.heap.size w5 w6 := ((Below.refl _ w5).alloc (by (try simp) <;> omega) _).trans (hb6.mono (by (try simp) <;> omega))
  have G := Lib.hid (G.out.trans (S_w6.mono G.out.size))
  have RL := Lib.hid ((RL.out.below S_w6).more S_w6.size)
  have m0 := Lib.hid (m0.out.step S_w6)
  have m1 := Lib.hid (m1.out.step S_w6)
  have z_w6 := S_w6.size
  have no0 := Lib.hid (CellAt.new (cs := #[.int .i64 0, .int .i64 1]) (t := 29) w5.heap.size rfl (hb6) (by (try simp) <;> omega) 0 _ rfl)
  have no1 := Lib.hid (CellAt.new (cs := #[.int .i64 0, .int .i64 1]) (t := 29) w5.heap.size rfl (hb6) (by (try simp) <;> omega) 1 _ rfl)
  go_wp2_with fail
  refine (Sums_any ([⟨1, 3, 13, 0, 4⟩] : List At) _ 1 _ (reads_lit At.enc_len w6 ([⟨1, 3, 13, 0, 4⟩] : List At) _ _ rfl (by decide)) (by decide)).mono ?_
  rw [show sumsA ([⟨1, 3, 13, 0, 4⟩] : List At) = (0, 0, 150) from by decide +kernel]
  rintro e w7 ⟨rfl, hb7⟩
  have S_w7 : Below w6.heap.size w6 w7 := ((Below.refl _ w6).alloc (by (try simp) <;> omega) _).trans (hb7.mono (by (try simp) <;> omega))
  have G := Lib.hid (G.out.trans (S_w7.mono G.out.size))
  have RL := Lib.hid ((RL.out.below S_w7).more S_w7.size)
  have m0 := Lib.hid (m0.out.step S_w7)
  have m1 := Lib.hid (m1.out.step S_w7)
  have no0 := Lib.hid (no0.out.step S_w7)
  have no1 := Lib.hid (no1.out.step S_w7)
  have z_w7 := S_w7.size
  go_wp2_with fail
  refine (Counted_any [] ([0] : List Int) none _ 0 1 _ Reads.nil_ (reads_lit intE_len w7 ([0] : List Int) _ _ rfl (by decide)) (by decide) (by decide)).mono ?_
  rw [show countedA [] [0] = ([], 1) from by decide +kernel]
  rintro e w8 ⟨⟨vn, rfl, hvn⟩, hb8⟩
  have S_w8 : Below w7.heap.size w7 w8 := ((Below.refl _ w7).alloc (by (try simp) <;> omega) _).trans (hb8.mono (by (try simp) <;> omega))
  have G := Lib.hid (G.out.trans (S_w8.mono G.out.size))
  have RL := Lib.hid ((RL.out.below S_w8).more S_w8.size)
  have m0 := Lib.hid (m0.out.step S_w8)
  have m1 := Lib.hid (m1.out.step S_w8)
  have no0 := Lib.hid (no0.out.step S_w8)
  have no1 := Lib.hid (no1.out.step S_w8)
  have z_w8 := S_w8.size
  go_wp2_with fail
  refine (Needed_any [] none 0 0 ⟨1, 1⟩ _ Reads.nil_ (by decide) (I64_of (by decide) (by decide)) ⟨I64_of (by decide) (by decide), I64_of (by decide) (by decide)⟩).mono ?_
  rw [show neededA [] 0 ⟨1, 1⟩ = (0, false, 1) from by decide +kernel]
  rintro e w9 ⟨rfl, hb9⟩
  have S_w9 : Below w8.heap.size w8 w9 := (Below.refl _ w8).trans (hb9.mono (by (try simp) <;> omega))
  have G := Lib.hid (G.out.trans (S_w9.mono G.out.size))
  have RL := Lib.hid ((RL.out.below S_w9).more S_w9.size)
  have m0 := Lib.hid (m0.out.step S_w9)
  have m1 := Lib.hid (m1.out.step S_w9)
  have no0 := Lib.hid (no0.out.step S_w9)
  have no1 := Lib.hid (no1.out.step S_w9)
  have z_w9 := S_w9.size
  go_wp2_with fail
  refine (Needed_any ([⟨1, 3, 6, 0, 4⟩, ⟨2, 3, 9, 0, 2⟩] : List At) _ 2 3 ⟨8, 1⟩ _ RL.out (by decide) (I64_of (by decide) (by decide)) ⟨I64_of (by decide) (by decide), I64_of (by decide) (by decide)⟩).mono ?_
  rw [show neededA ([⟨1, 3, 6, 0, 4⟩, ⟨2, 3, 9, 0, 2⟩] : List At) 3 ⟨8, 1⟩ = (10, true, 0) from by decide +kernel]
  rintro e w10 ⟨rfl, hb10⟩
  have S_w10 : Below w9.heap.size w9 w10 := (Below.refl _ w9).trans (hb10.mono (by (try simp) <;> omega))
  have G := Lib.hid (G.out.trans (S_w10.mono G.out.size))
  have RL := Lib.hid ((RL.out.below S_w10).more S_w10.size)
  have m0 := Lib.hid (m0.out.step S_w10)
  have m1 := Lib.hid (m1.out.step S_w10)
  have no0 := Lib.hid (no0.out.step S_w10)
  have no1 := Lib.hid (no1.out.step S_w10)
  have z_w10 := S_w10.size
  go_wp2_with fail
  refine (try_any 7 1 5 4 _).mono ?_
  rintro e w11 ⟨rfl, hb11⟩
  have S_w11 : Below w10.heap.size w10 w11 := (Below.refl _ w10).trans (hb11.mono (by (try simp) <;> omega))
  have G := Lib.hid (G.out.trans (S_w11.mono G.out.size))
  have RL := Lib.hid ((RL.out.below S_w11).more S_w11.size)
  have m0 := Lib.hid (m0.out.step S_w11)
  have m1 := Lib.hid (m1.out.step S_w11)
  have no0 := Lib.hid (no0.out.step S_w11)
  have no1 := Lib.hid (no1.out.step S_w11)
  have z_w11 := S_w11.size
  go_wp2_with fail
  refine (try_any 7 2 8 4 _).mono ?_
  rintro e w12 ⟨rfl, hb12⟩
  have S_w12 : Below w11.heap.size w11 w12 := (Below.refl _ w11).trans (hb12.mono (by (try simp) <;> omega))
  have G := Lib.hid (G.out.trans (S_w12.mono G.out.size))
  have RL := Lib.hid ((RL.out.below S_w12).more S_w12.size)
  have m0 := Lib.hid (m0.out.step S_w12)
  have m1 := Lib.hid (m1.out.step S_w12)
  have no0 := Lib.hid (no0.out.step S_w12)
  have no1 := Lib.hid (no1.out.step S_w12)
  have z_w12 := S_w12.size
  go_wp2_with fail
  refine (try_any 7 3 8 4 _).mono ?_
  rintro e w13 ⟨rfl, hb13⟩
  have S_w13 : Below w12.heap.size w12 w13 := (Below.refl _ w12).trans (hb13.mono (by (try simp) <;> omega))
  have G := Lib.hid (G.out.trans (S_w13.mono G.out.size))
  have RL := Lib.hid ((RL.out.below S_w13).more S_w13.size)
  have m0 := Lib.hid (m0.out.step S_w13)
  have m1 := Lib.hid (m1.out.step S_w13)
  have no0 := Lib.hid (no0.out.step S_w13)
  have no1 := Lib.hid (no1.out.step S_w13)
  have z_w13 := S_w13.size
  have RA := Lib.hid (reads_lit At.enc_len w13 ([⟨7, 1, 5, 0, 4⟩, ⟨7, 2, 8, 0, 4⟩, ⟨7, 3, 8, 0, 4⟩] : List At) #[.int .i64 7, .int .i64 1, .int .i64 5, .int .i64 0, .int .i64 4, .int .i64 7, .int .i64 2, .int .i64 8, .int .i64 0, .int .i64 4, .int .i64 7, .int .i64 3, .int .i64 8, .int .i64 0, .int .i64 4] 43 rfl (by decide))
  go_wp2_with fail
  refine (Counted_any ([⟨7, 1, 5, 0, 4⟩, ⟨7, 2, 8, 0, 4⟩, ⟨7, 3, 8, 0, 4⟩] : List At) ([0, 0, 0] : List Int) _ _ 3 3 _ (RA.out.step ((Below.refl _ _).alloc (Nat.le_refl _) (.cells #[.int .i64 0, .int .i64 0, .int .i64 0] 3))) (reads_lit_at intE_len (w13.alloc (.cells #[.int .i64 7, .int .i64 1, .int .i64 5, .int .i64 0, .int .i64 4, .int .i64 7, .int .i64 2, .int .i64 8, .int .i64 0, .int .i64 4, .int .i64 7, .int .i64 3, .int .i64 8, .int .i64 0, .int .i64 4] 43)) (w13.heap.size + 1) (by simp) ([0, 0, 0] : List Int) #[.int .i64 0, .int .i64 0, .int .i64 0] 3 rfl (by decide)) (by decide) (by decide)).mono ?_
  rw [show countedA ([⟨7, 1, 5, 0, 4⟩, ⟨7, 2, 8, 0, 4⟩, ⟨7, 3, 8, 0, 4⟩] : List At) [0, 0, 0] = ([⟨7, 2, 8, 0, 4⟩], 0) from by decide +kernel]
  rintro e w14 ⟨⟨v1, rfl, hv1⟩, hb14⟩
  have S_w14 : Below w13.heap.size w13 w14 := (((Below.refl _ w13).alloc (by (try simp) <;> omega) _).alloc (by (try simp) <;> omega) _).trans (hb14.mono (by (try simp) <;> omega))
  have G := Lib.hid (G.out.trans (S_w14.mono G.out.size))
  have RL := Lib.hid ((RL.out.below S_w14).more S_w14.size)
  have m0 := Lib.hid (m0.out.step S_w14)
  have m1 := Lib.hid (m1.out.step S_w14)
  have no0 := Lib.hid (no0.out.step S_w14)
  have no1 := Lib.hid (no1.out.step S_w14)
  have z_w14 := S_w14.size
  have RA := Lib.hid (RA.out.step (((Below.refl _ _).alloc (Nat.le_refl _) _).trans (hb14.mono (by (try simp) <;> omega))))
  obtain ⟨A1, c1, rfl, _, _⟩ := hv1.shape
  have O1 := Lib.hid hv1
  clear hv1
  go_wp2_with fail
  refine (Counted_any ([⟨7, 1, 5, 0, 4⟩, ⟨7, 2, 8, 0, 4⟩, ⟨7, 3, 8, 0, 4⟩] : List At) ([1, 1, 1] : List Int) _ _ 3 3 _ (RA.out.step ((Below.refl _ _).alloc (Nat.le_refl _) (.cells #[.int .i64 1, .int .i64 1, .int .i64 1] 3))) (reads_lit intE_len w14 ([1, 1, 1] : List Int) #[.int .i64 1, .int .i64 1, .int .i64 1] 3 rfl (by decide)) (by decide) (by decide)).mono ?_
  rw [show countedA ([⟨7, 1, 5, 0, 4⟩, ⟨7, 2, 8, 0, 4⟩, ⟨7, 3, 8, 0, 4⟩] : List At) [1, 1, 1] = ([⟨7, 3, 8, 0, 4⟩], 0) from by decide +kernel]
  rintro e w15 ⟨⟨v2, rfl, hv2⟩, hb15⟩
  have S_w15 : Below w14.heap.size w14 w15 := ((Below.refl _ w14).alloc (by (try simp) <;> omega) _).trans (hb15.mono (by (try simp) <;> omega))
  have G := Lib.hid (G.out.trans (S_w15.mono G.out.size))
  have RL := Lib.hid ((RL.out.below S_w15).more S_w15.size)
  have m0 := Lib.hid (m0.out.step S_w15)
  have m1 := Lib.hid (m1.out.step S_w15)
  have no0 := Lib.hid (no0.out.step S_w15)
  have no1 := Lib.hid (no1.out.step S_w15)
  have RA := Lib.hid ((RA.out.below S_w15).more S_w15.size)
  have O1 := Lib.hid (O1.out.below S_w15 (Nat.le_refl _))
  have z_w15 := S_w15.size
  obtain ⟨A2, c2, rfl, _, _⟩ := hv2.shape
  have O2 := Lib.hid hv2
  clear hv2
  go_wp2_with fail
  refine (try_any 1 3 0 4 _).mono ?_
  rintro e w16 ⟨rfl, hb16⟩
  have S_w16 : Below w15.heap.size w15 w16 := (Below.refl _ w15).trans (hb16.mono (by (try simp) <;> omega))
  have G := Lib.hid (G.out.trans (S_w16.mono G.out.size))
  have RL := Lib.hid ((RL.out.below S_w16).more S_w16.size)
  have m0 := Lib.hid (m0.out.step S_w16)
  have m1 := Lib.hid (m1.out.step S_w16)
  have no0 := Lib.hid (no0.out.step S_w16)
  have no1 := Lib.hid (no1.out.step S_w16)
  have RA := Lib.hid ((RA.out.below S_w16).more S_w16.size)
  have O1 := Lib.hid (O1.out.below S_w16 (Nat.le_refl _))
  have O2 := Lib.hid (O2.out.below S_w16 (Nat.le_refl _))
  have z_w16 := S_w16.size
  go_wp2_with fail
  refine (try_any 1 4 1 4 _).mono ?_
  rintro e w17 ⟨rfl, hb17⟩
  have S_w17 : Below w16.heap.size w16 w17 := (Below.refl _ w16).trans (hb17.mono (by (try simp) <;> omega))
  have G := Lib.hid (G.out.trans (S_w17.mono G.out.size))
  have RL := Lib.hid ((RL.out.below S_w17).more S_w17.size)
  have m0 := Lib.hid (m0.out.step S_w17)
  have m1 := Lib.hid (m1.out.step S_w17)
  have no0 := Lib.hid (no0.out.step S_w17)
  have no1 := Lib.hid (no1.out.step S_w17)
  have RA := Lib.hid ((RA.out.below S_w17).more S_w17.size)
  have O1 := Lib.hid (O1.out.below S_w17 (Nat.le_refl _))
  have O2 := Lib.hid (O2.out.below S_w17 (Nat.le_refl _))
  have z_w17 := S_w17.size
  go_wp2_with fail
  refine (Earned_any ([⟨1, 3, 0, 0, 4⟩, ⟨1, 4, 1, 0, 4⟩] : List At) _ 2 _ (reads_lit At.enc_len w17 ([⟨1, 3, 0, 0, 4⟩, ⟨1, 4, 1, 0, 4⟩] : List At) _ _ rfl (by decide)) (by decide)).mono ?_
  rw [show earnedA ([⟨1, 3, 0, 0, 4⟩, ⟨1, 4, 1, 0, 4⟩] : List At) = (4, 0) from by decide +kernel]
  rintro e w18 ⟨rfl, hb18⟩
  have S_w18 : Below w17.heap.size w17 w18 := ((Below.refl _ w17).alloc (by (try simp) <;> omega) _).trans (hb18.mono (by (try simp) <;> omega))
  have G := Lib.hid (G.out.trans (S_w18.mono G.out.size))
  have RL := Lib.hid ((RL.out.below S_w18).more S_w18.size)
  have m0 := Lib.hid (m0.out.step S_w18)
  have m1 := Lib.hid (m1.out.step S_w18)
  have no0 := Lib.hid (no0.out.step S_w18)
  have no1 := Lib.hid (no1.out.step S_w18)
  have RA := Lib.hid ((RA.out.below S_w18).more S_w18.size)
  have O1 := Lib.hid (O1.out.below S_w18 (Nat.le_refl _))
  have O2 := Lib.hid (O2.out.below S_w18 (Nat.le_refl _))
  have z_w18 := S_w18.size
  obtain ⟨k0, kz0⟩ := m0.out
  obtain ⟨k1, kz1⟩ := m1.out
  obtain ⟨k2, kz2⟩ := no0.out
  obtain ⟨k3, kz3⟩ := no1.out
  go_wp2_with fail
  refine (Same_any ([⟨7, 2, 8, 0, 4⟩] : List At) ([⟨7, 2, 8, 0, 4⟩] : List At) _ _ c1 2 _ (O1.out.reads At.enc_len) (reads_mid RA.out 1 1) (by decide) (by decide)).mono ?_
  rw [show decide (([⟨7, 2, 8, 0, 4⟩] : List At) = ([⟨7, 2, 8, 0, 4⟩] : List At)) = true from by decide +kernel]
  rintro e w19 ⟨rfl, hb19⟩
  have S_w19 : Below w18.heap.size w18 w19 := (Below.refl _ w18).trans (hb19.mono (by (try simp) <;> omega))
  have G := Lib.hid (G.out.trans (S_w19.mono G.out.size))
  have RL := Lib.hid ((RL.out.below S_w19).more S_w19.size)
  have m0 := Lib.hid (m0.out.step S_w19)
  have m1 := Lib.hid (m1.out.step S_w19)
  have no0 := Lib.hid (no0.out.step S_w19)
  have no1 := Lib.hid (no1.out.step S_w19)
  have RA := Lib.hid ((RA.out.below S_w19).more S_w19.size)
  have O1 := Lib.hid (O1.out.below S_w19 (Nat.le_refl _))
  have O2 := Lib.hid (O2.out.below S_w19 (Nat.le_refl _))
  have z_w19 := S_w19.size
  go_wp2_with fail
  refine (Same_any ([⟨7, 3, 8, 0, 4⟩] : List At) ([⟨7, 3, 8, 0, 4⟩] : List At) _ _ c2 1 _ (O2.out.reads At.enc_len) (reads_mid RA.out 2 1) (by decide) (by decide)).mono ?_
  rw [show decide (([⟨7, 3, 8, 0, 4⟩] : List At) = ([⟨7, 3, 8, 0, 4⟩] : List At)) = true from by decide +kernel]
  rintro e w20 ⟨rfl, hb20⟩
  have S_w20 : Below w19.heap.size w19 w20 := (Below.refl _ w19).trans (hb20.mono (by (try simp) <;> omega))
  have G := Lib.hid (G.out.trans (S_w20.mono G.out.size))
  have RL := Lib.hid ((RL.out.below S_w20).more S_w20.size)
  have m0 := Lib.hid (m0.out.step S_w20)
  have m1 := Lib.hid (m1.out.step S_w20)
  have no0 := Lib.hid (no0.out.step S_w20)
  have no1 := Lib.hid (no1.out.step S_w20)
  have RA := Lib.hid ((RA.out.below S_w20).more S_w20.size)
  have O1 := Lib.hid (O1.out.below S_w20 (Nat.le_refl _))
  have O2 := Lib.hid (O2.out.below S_w20 (Nat.le_refl _))
  have z_w20 := S_w20.size
  go_wp2_with fail
  go_ret
  exact ⟨rfl, G.out⟩
end Go.Proofs.Ytimaealmmjdjkaa
