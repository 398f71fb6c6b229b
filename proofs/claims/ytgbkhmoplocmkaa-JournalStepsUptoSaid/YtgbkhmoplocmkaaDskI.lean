/- Write. -/
import Derived.Test.YtgbkhmoplocmkaaDskH
import Derived.ArgAppend
namespace Go.Proofs.Ytgbkhmoplocmkaa
open Go.RowKit Go.Shelf
set_option linter.unusedSimpArgs false
set_option linter.unusedVariables false
set_option maxRecDepth 20000

section
variable {w : World} {P Q : Nat → Prop} {s sv pv : Sl} {d : Dk} {ss : List (List Int)} {ps : List (Int × List Int)}
theorem Se.mono2 (h : Se w P s ss) (hq : ∀ b, P b → b < w.heap.size → Q b) : Se w Q s ss := by
  obtain ⟨vs, h1, h2, h3⟩ := h
  exact ⟨vs, h1.mono2 hq, h2, fun i v bs a b => (h3 i v bs a b).mono2 hq⟩
theorem Pe.mono2 (h : Pe w P s ps) (hq : ∀ b, P b → b < w.heap.size → Q b) : Pe w Q s ps := by
  obtain ⟨vs, h1, h2, h3⟩ := h
  exact ⟨vs, h1.mono2 hq, h2, fun i v p a b => ⟨(h3 i v p a b).1, (h3 i v p a b).2.mono2 hq⟩⟩
theorem Di.mono2 (h : Di w P sv pv d) (hq : ∀ b, P b → b < w.heap.size → Q b) : Di w Q sv pv d := ⟨h.1.mono2 hq, h.2.mono2 hq⟩
end

theorem grownBy_setCell' (w : World) (a : Addr) (v : Value) : w.grownBy (w.setCell a v) (some a.block) :=
  ⟨rfl, rfl, rfl, by simp [World.setCell], fun k hk hne => Below.heap_setCell _ _ _ _ (fun e => hne (by rw [e]))⟩
/-- a box of a disk: its four cells -/
structure Box4 (W : World) (b : Nat) (V0 V1 V2 V3 : Value) : Prop where
  c0 : W.cell? ⟨b, 0, none⟩ = some V0
  c1 : W.cell? ⟨b, 1, none⟩ = some V1
  c2 : W.cell? ⟨b, 2, none⟩ = some V2
  c3 : W.cell? ⟨b, 3, none⟩ = some V3
  f0 : W.frozen? ⟨b, 0, none⟩ = false
  f1 : W.frozen? ⟨b, 1, none⟩ = false
  f2 : W.frozen? ⟨b, 2, none⟩ = false
  f3 : W.frozen? ⟨b, 3, none⟩ = false
  z : b < W.heap.size
section
variable {W W' : World} {b : Nat} {V0 V1 V2 V3 : Value}
theorem Box4.far (h : Box4 W b V0 V1 V2 V3) {row : Option Nat} (hg : W.grownBy W' row) (hr : row ≠ some b) : Box4 W' b V0 V1 V2 V3 := by
  have hz := h.z
  have hk := hg.block b hz (fun e => hr e.symm)
  exact ⟨(World.cell?_of_block (a := ⟨b, 0, none⟩) hk).trans h.c0, (World.cell?_of_block (a := ⟨b, 1, none⟩) hk).trans h.c1, (World.cell?_of_block (a := ⟨b, 2, none⟩) hk).trans h.c2, (World.cell?_of_block (a := ⟨b, 3, none⟩) hk).trans h.c3,
    (World.frozen?_of_block (a := ⟨b, 0, none⟩) hk).trans h.f0, (World.frozen?_of_block (a := ⟨b, 1, none⟩) hk).trans h.f1, (World.frozen?_of_block (a := ⟨b, 2, none⟩) hk).trans h.f2, (World.frozen?_of_block (a := ⟨b, 3, none⟩) hk).trans h.f3, Nat.lt_of_lt_of_le hz hg.size⟩
theorem Box4.step (h : Box4 W b V0 V1 V2 V3) (hb : Below W.heap.size W W') : Box4 W' b V0 V1 V2 V3 := h.far (grownBy_of_below hb) (by simp)
theorem Box4.new (w : World) (V0 V1 V2 V3 : Value) (t : TypeId) : Box4 (w.alloc (.cells #[V0, V1, V2, V3] t)) w.heap.size V0 V1 V2 V3 :=
  ⟨by simp [go_sem], by simp [go_sem], by simp [go_sem], by simp [go_sem], by simp [go_sem], by simp [go_sem], by simp [go_sem], by simp [go_sem], by simp⟩
theorem Box4.at_ (w : World) (V0 V1 V2 V3 : Value) (t : TypeId) (g : Nat) (hg : g = w.heap.size) : Box4 (w.alloc (.cells #[V0, V1, V2, V3] t)) g V0 V1 V2 V3 := by subst hg; exact Box4.new ..
theorem Box4.put (h : Box4 W b V0 V1 V2 V3) (v0 v1 v2 v3 : Value) : Box4 (put4 W b v0 v1 v2 v3) b v0 v1 v2 v3 := by
  obtain ⟨e0, e1, e2, e3⟩ := put4_cells h.c0 h.c1 h.c2 h.c3 v0 v1 v2 v3
  refine ⟨e0, e1, e2, e3, ?_, ?_, ?_, ?_, by have := (put4_keep (W := W) (b := b) v0 v1 v2 v3).size; have := h.z; omega⟩
  all_goals (unfold put4; simp only [World.frozen?_setCell])
  · exact h.f0
  · exact h.f1
  · exact h.f2
  · exact h.f3
theorem Box4.setB (h : Box4 W b V0 V1 V2 V3) (v : Value) : Box4 (W.setCell ⟨b, 1, none⟩ v) b V0 v V2 V3 := by
  refine ⟨?_, ?_, ?_, ?_, ?_, ?_, ?_, ?_, by have := (show W.heap.size ≤ (W.setCell ⟨b, 1, none⟩ v).heap.size from by simp [World.setCell]); have := h.z; omega⟩
  · rw [set_far _ _ _ _ (addr_ne (by omega))]; exact h.c0
  · exact set_at _ _ _ _ h.c1
  · rw [set_far _ _ _ _ (addr_ne (by omega))]; exact h.c2
  · rw [set_far _ _ _ _ (addr_ne (by omega))]; exact h.c3
  · rw [World.frozen?_setCell]; exact h.f0
  · rw [World.frozen?_setCell]; exact h.f1
  · rw [World.frozen?_setCell]; exact h.f2
  · rw [World.frozen?_setCell]; exact h.f3
end

theorem writeD_no {d : Dk} {x : Int} {b : List Int} (h : runsD d = false ∨ hasD d x = false) : writeD d x b = (Dk.zero, 450) := by
  unfold writeD
  rcases h with h | h <;> simp [h]
theorem writeD_long {d : Dk} {x : Int} {b : List Int} (h : runsD d = true) (h2 : hasD d x = true) (h3 : ¬ b.length ≤ 128) : writeD d x b = (Dk.zero, 1) := by simp [writeD, h, h2, h3]
theorem writeD_full {d : Dk} {x : Int} {b : List Int} (h : runsD d = true) (h2 : hasD d x = true) (h3 : b.length ≤ 128) (h4 : d.pend.length = 4096) : writeD d x b = (Dk.zero, 2) := by simp [writeD, h, h2, h3, h4]
theorem writeD_ok {d : Dk} {x : Int} {b : List Int} (h : runsD d = true) (h2 : hasD d x = true) (h3 : b.length ≤ 128) (h4 : d.pend.length ≠ 4096) : writeD d x b = (⟨d.secs, d.pend ++ [(x, padS b)], d.left, d.stopped⟩, 0) := by simp [writeD, h, h2, h3, h4]

theorem pend_le {d : Dk} (h : runsD d = true) : d.pend.length ≤ 4096 := by
  simp only [runsD, validD, sizesOk, Bool.and_eq_true, decide_eq_true_eq] at h
  exact h.1.1.2.2.1
theorem Reads.flat {α : Type} {w : World} {B sz : Nat} {ad : Addr} {en : α → List Value} {xs : List α} (hr : Reads w B (some ad) sz en xs) (hen : ∀ y, (en y).length = sz) (hsz : 0 < sz) : ∀ j u, (xs.flatMap en)[j]? = some u → w.cell? (ad.add j) = some u := by
  intro j u hu
  obtain ⟨y, hy, hj⟩ := flat_at hen hsz xs j u hu
  have hpos : 0 < xs.length := Nat.lt_of_le_of_lt (Nat.zero_le _) (List.getElem?_eq_some_iff.1 hy).1
  obtain ⟨b, off, h, _, hc⟩ := hr hpos
  injection h with h
  subst h
  have := hc _ _ _ _ hy hj
  rw [Go.WideShapes.add_plain]
  rw [Nat.add_assoc, Nat.div_add_mod'] at this
  exact this
/-- pending writes, one more -/
theorem Pe.snoc {w : World} {P : Nat → Prop} {s : Sl} {vs : List (Int × Sl)} {ps : List (Int × List Int)} {v : Sl} {x : Int} {bs : List Int}
    (h : SlR w P 2 wrE s (vs ++ [(x, v)])) (hl : vs.length = ps.length) (he : ∀ (i : Nat) (v : Int × Sl) (p : Int × List Int), vs[i]? = some v → ps[i]? = some p → v.1 = p.1 ∧ By w P v.2 p.2) (hb : By w P v bs) : Pe w P s (ps ++ [(x, bs)]) := by
  refine ⟨_, h, by simp [hl], fun i v' p hv hp => ?_⟩
  rcases Nat.lt_or_ge i vs.length with hi | hi
  · rw [List.getElem?_append_left hi] at hv
    rw [List.getElem?_append_left (by omega)] at hp
    exact he i v' p hv hp
  · rw [List.getElem?_append_right hi] at hv
    rw [List.getElem?_append_right (by omega)] at hp
    have h0 : i - vs.length = 0 := by
      have := (List.getElem?_eq_some_iff.1 hv).1
      simp at this; omega
    rw [h0] at hv
    rw [show i - ps.length = 0 from by omega] at hp
    simp at hv hp
    subst hv hp
    exact ⟨rfl, hb⟩

theorem splice_pad {bs : List Int} (h : bs.length ≤ 128) : splice (zeroSec.map (Value.int .u8)) 0 (bs.map (Value.int .u8)) = (padS bs).map (Value.int .u8) := by
  unfold splice padS zeroSec
  rw [List.map_replicate, List.drop_replicate, List.map_append, List.map_replicate, List.take_zero, List.nil_append, List.length_map, Nat.zero_add]
theorem pad_len {bs : List Int} (h : bs.length ≤ 128) : (padS bs).length = 128 := by simp [padS]; omega
theorem pad_ok {bs : List Int} (h : ∀ b ∈ bs, 0 ≤ b ∧ b < 256) : ∀ b ∈ padS bs, 0 ≤ b ∧ b < 256 := by
  intro b hb
  rcases List.mem_append.1 hb with h1 | h1
  · exact h b h1
  · rw [(List.mem_replicate.1 h1).2]; omega
/-- a block of bytes -/
theorem by_block {w : World} {P : Nat → Prop} {g : Nat} {bs : List Int} {t : TypeId} (hg : w.heap[g]? = some (.cells (bs.map (Value.int .u8)).toArray t (0, 0))) (hP : P g) (hl : bs.length ≤ maxLen) (hb : ∀ b ∈ bs, 0 ≤ b ∧ b < 256) : By w P ⟨some ⟨g, 0, none⟩, bs.length, bs.length⟩ bs := by
  refine ⟨⟨rfl, Nat.le_refl _, hl, (fun h => by cases h), fun hn => ⟨g, 0, rfl, (Array.getElem?_eq_some_iff.1 hg).1, fun i x j v hi hj => ?_⟩, fun _ a e => by cases e; exact hP⟩, hb⟩
  cases j with
  | zero =>
    simp [byteE] at hj
    subst hj
    simp [World.cell?, hg, hi]
  | succ j => simp [byteE] at hj

set_option maxRecDepth 100000 in
set_option maxHeartbeats 4000000 in
theorem Write_any {P : Nat → Prop} (d : Dk) (sv pv bv : Sl) (x : Int) (bs : List Int) (w : World) (h : Di w P sv pv d) (hb : By w P bv bs) :
    Calls Try.prog 26 #[dkV sv pv d, .int .i64 x, .slice bv.a bv.n bv.c] w fun e w' => (∃ sv' pv', e = .returned (.tuple #[dkV sv' pv' (writeD d x bs).1, .int .i64 (writeD d x bs).2]) ∧ Di w' (Nw P w) sv' pv' (writeD d x bs).1) ∧ Below w.heap.size w w' := by
  have hs := h.1.len
  have hp := h.2.len
  have hbn := hb.1.1
  have HD := Lib.hid h
  have HBY := Lib.hid hb
  clear h hb
  have RC := Lib.hid (fun W (hW : Below w.heap.size w W) => runs_any d sv pv W (HD.out.step hW))
  have HC := Lib.hid (fun W => has_any d sv pv x W hs)
  obtain ⟨A, n, c⟩ := sv
  obtain ⟨D, m, c2⟩ := pv
  obtain ⟨X, nb, cb⟩ := bv
  simp only at hs hp hbn
  subst hs hp hbn
  unfold dkV at RC HC ⊢
  simp only at RC HC ⊢
  obtain ⟨st, hst⟩ : ∃ st, st = d.stopped := ⟨_, rfl⟩
  obtain ⟨lf, hlf⟩ : ∃ lf, lf = d.left := ⟨_, rfl⟩
  rw [← hst, ← hlf] at RC HC
  rw [← hst, ← hlf]
  have HST := Lib.hid hst
  have HLF := Lib.hid hlf
  clear hst hlf
  obtain ⟨W0, hW0⟩ : ∃ W0, ((w.alloc (.cells #[.slice A d.secs.length c, .slice D d.pend.length c2, .int .i64 lf, .bool st] 25)).alloc (.cells #[.slice none 0 0, .slice none 0 0, .int .i64 0, .bool false] 25)) = W0 := ⟨_, rfl⟩
  have hB1 : Box4 W0 w.heap.size (.slice A d.secs.length c) (.slice D d.pend.length c2) (.int .i64 lf) (.bool st) := by rw [← hW0]; exact (Box4.new ..).step ((Below.refl _ _).alloc (Nat.le_refl _) _)
  have hB2 : Box4 W0 (w.heap.size + 1) (.slice none 0 0) (.slice none 0 0) (.int .i64 0) (.bool false) := by rw [← hW0]; exact Box4.at_ _ _ _ _ _ _ _ (by simp)
  have hG0 : Below w.heap.size w W0 := by rw [← hW0]; exact ((Below.refl _ _).alloc (Nat.le_refl _) _).alloc (by simp) _
  have HB1 := Lib.hid hB1
  have HB2 := Lib.hid hB2
  have HG := Lib.hid hG0
  have HW0 := Lib.hid hW0
  clear hB1 hB2 hG0 hW0
  cases hr : runsD d
  · rw [writeD_no (.inl hr)]
    have HR := Lib.hid hr
    clear hr
    go_enter Try.func26, Try.ntmps26
    go_wp2_with fail
    rw [HW0.out]
    refine (RC.out _ HG.out).mono ?_
    rw [HR.out]
    rintro e w1 ⟨rfl, hb1⟩
    have HR2 := Lib.hid (HB2.out.step hb1)
    have HD2 := Lib.hid (HB1.out.step hb1)
    have HG1 := Lib.hid (HG.out.trans (hb1.mono HG.out.size))
    obtain ⟨r0, r1, r2, r3, f0, f1, f2, f3, rz⟩ := HR2.out
    obtain ⟨q0, q1, q2, q3, _, _, _, _, qz⟩ := HD2.out
    clear hb1
    go_wp2_with fail
    obtain ⟨p0, p1, p2, p3, _⟩ := HR2.out.put (.slice none 0 0) (.slice none 0 0) (.int .i64 0) (.bool false)
    unfold put4 at p0 p1 p2 p3
    exact bodyPost_ret (v := .tuple #[dkV ⟨none, 0, 0⟩ ⟨none, 0, 0⟩ Dk.zero, .int .i64 450]) (by simp [results, Try.results26, go_sem, p0, p1, p2, p3, dkV, Dk.zero]) rfl ⟨⟨⟨none, 0, 0⟩, ⟨none, 0, 0⟩, rfl, Di.zero _ _⟩, put4_below (b := w.heap.size + 1) HG1.out (by omega) _ _ _ _⟩
  · have HR := Lib.hid hr
    cases hh : hasD d x
    · rw [writeD_no (.inr hh)]
      have HH := Lib.hid hh
      clear hr hh
      go_enter Try.func26, Try.ntmps26
      go_wp2_with fail
      rw [HW0.out]
      refine (RC.out _ HG.out).mono ?_
      rw [HR.out]
      rintro e w1 ⟨rfl, hb1⟩
      have HR2 := Lib.hid (HB2.out.step hb1)
      have HD2 := Lib.hid (HB1.out.step hb1)
      have HG1 := Lib.hid (HG.out.trans (hb1.mono HG.out.size))
      obtain ⟨r0, r1, r2, r3, f0, f1, f2, f3, rz⟩ := HR2.out
      obtain ⟨q0, q1, q2, q3, _, _, _, _, qz⟩ := HD2.out
      clear hb1
      go_wp2_with fail
      refine (HC.out w1).mono ?_
      rw [HH.out]
      rintro e w2 ⟨rfl, hb2⟩
      have HR3 := Lib.hid (HR2.out.step hb2)
      have HD3 := Lib.hid (HD2.out.step hb2)
      have HG2 := Lib.hid (HG1.out.trans (hb2.mono HG1.out.size))
      clear r0 r1 r2 r3 f0 f1 f2 f3 rz q0 q1 q2 q3 qz
      obtain ⟨r0, r1, r2, r3, f0, f1, f2, f3, rz⟩ := HR3.out
      obtain ⟨q0, q1, q2, q3, g0, g1, g2, g3, qz⟩ := HD3.out
      clear hb2
      go_wp2_with fail
      obtain ⟨p0, p1, p2, p3, _⟩ := HR3.out.put (.slice none 0 0) (.slice none 0 0) (.int .i64 0) (.bool false)
      unfold put4 at p0 p1 p2 p3
      exact bodyPost_ret (v := .tuple #[dkV ⟨none, 0, 0⟩ ⟨none, 0, 0⟩ Dk.zero, .int .i64 450]) (by simp [results, Try.results26, go_sem, p0, p1, p2, p3, dkV, Dk.zero]) rfl ⟨⟨⟨none, 0, 0⟩, ⟨none, 0, 0⟩, rfl, Di.zero _ _⟩, put4_below (b := w.heap.size + 1) HG2.out (by omega) _ _ _ _⟩
    · have HH := Lib.hid hh
      have hpl := pend_le hr
      by_cases hlen : bs.length ≤ 128
      · have e1 : decide ((128 : Int) < (bs.length : Int)) = false := by simp; omega
        by_cases hfull : d.pend.length = 4096
        · rw [writeD_full hr hh hlen hfull]
          have e2 : ((d.pend.length : Int) == 4096) = true := by simp; omega
          have HFL := Lib.hid hfull
          clear hr hh hfull
          go_enter Try.func26, Try.ntmps26
          go_wp2_with fail
          rw [HW0.out]
          refine (RC.out _ HG.out).mono ?_
          rw [HR.out]
          rintro e w1 ⟨rfl, hb1⟩
          have HR2 := Lib.hid (HB2.out.step hb1)
          have HD2 := Lib.hid (HB1.out.step hb1)
          have HG1 := Lib.hid (HG.out.trans (hb1.mono HG.out.size))
          obtain ⟨r0, r1, r2, r3, f0, f1, f2, f3, rz⟩ := HR2.out
          obtain ⟨q0, q1, q2, q3, _, _, _, _, qz⟩ := HD2.out
          clear hb1
          go_wp2_with fail
          refine (HC.out w1).mono ?_
          rw [HH.out]
          rintro e w2 ⟨rfl, hb2⟩
          have HR3 := Lib.hid (HR2.out.step hb2)
          have HD3 := Lib.hid (HD2.out.step hb2)
          have HG2 := Lib.hid (HG1.out.trans (hb2.mono HG1.out.size))
          clear r0 r1 r2 r3 f0 f1 f2 f3 rz q0 q1 q2 q3 qz
          obtain ⟨r0, r1, r2, r3, f0, f1, f2, f3, rz⟩ := HR3.out
          obtain ⟨q0, q1, q2, q3, g0, g1, g2, g3, qz⟩ := HD3.out
          clear hb2
          go_wp2_with fail
          obtain ⟨p0, p1, p2, p3, _⟩ := HR3.out.put (.slice none 0 0) (.slice none 0 0) (.int .i64 0) (.bool false)
          unfold put4 at p0 p1 p2 p3
          exact bodyPost_ret (v := .tuple #[dkV ⟨none, 0, 0⟩ ⟨none, 0, 0⟩ Dk.zero, .int .i64 2]) (by simp [results, Try.results26, go_sem, p0, p1, p2, p3, dkV, Dk.zero]) rfl ⟨⟨⟨none, 0, 0⟩, ⟨none, 0, 0⟩, rfl, Di.zero _ _⟩, put4_below (b := w.heap.size + 1) HG2.out (by omega) _ _ _ _⟩
        · rw [writeD_ok hr hh hlen hfull]
          have e2 : ((d.pend.length : Int) == 4096) = false := by simp; omega
          have HFL := Lib.hid hfull
          have HLN := Lib.hid hlen
          have hmk := make128
          obtain ⟨i1, hi1, hz1, hz1', hz1''⟩ := info_parts Try.infoWr
          have HI1 := Lib.hid hi1
          obtain ⟨vs, hvs, hvl, hvb⟩ := HD.out.2
          have HVS := Lib.hid hvs
          have HVL := Lib.hid hvl
          have HVB := Lib.hid hvb
          have HZB : Hid ((Try.prog.info? 5).map (·.size) = some 1) := Lib.hid (by kernel_rfl)
          clear hr hh hfull hi1 hvs hvl hvb
          go_enter Try.func26, Try.ntmps26
          go_wp2_with fail
          rw [HW0.out]
          refine (RC.out _ HG.out).mono ?_
          rw [HR.out]
          rintro e w1 ⟨rfl, hb1⟩
          have HR2 := Lib.hid (HB2.out.step hb1)
          have HD2 := Lib.hid (HB1.out.step hb1)
          have HG1 := Lib.hid (HG.out.trans (hb1.mono HG.out.size))
          obtain ⟨r0, r1, r2, r3, f0, f1, f2, f3, rz⟩ := HR2.out
          obtain ⟨q0, q1, q2, q3, _, _, _, _, qz⟩ := HD2.out
          clear hb1
          go_wp2_with fail
          refine (HC.out w1).mono ?_
          rw [HH.out]
          rintro e w2 ⟨rfl, hb2⟩
          have HR3 := Lib.hid (HR2.out.step hb2)
          have HD3 := Lib.hid (HD2.out.step hb2)
          have HG2 := Lib.hid (HG1.out.trans (hb2.mono HG1.out.size))
          clear r0 r1 r2 r3 f0 f1 f2 f3 rz q0 q1 q2 q3 qz
          obtain ⟨r0, r1, r2, r3, f0, f1, f2, f3, rz⟩ := HR3.out
          obtain ⟨q0, q1, q2, q3, g0, g1, g2, g3, qz⟩ := HD3.out
          clear hb2
          have hz2 : w.heap.size + 1 < w2.heap.size := rz
          obtain ⟨k, hk⟩ : ∃ k, k = w2.heap.size := ⟨_, rfl⟩
          go_wp2_with (refine wpList_copy_splice rfl (.tmp 32) (.tmp 33) _ _ rfl 5 Try.underlying35 HZB.out (some ⟨w2.heap.size, 0, none⟩) X 128 128 bs.length cb rfl rfl w2.heap.size 0 (zeroSec.map (Value.int .u8)) 5 (heap_alloc_new w2 _) (bs.map (Value.int .u8)) ?c1 ?c2 ?c3 ?c4 w2.heap.size w2 ((Below.refl _ _).alloc (Nat.le_refl _) _) (Nat.le_refl _) ?_)
          case c1 => rw [List.length_map]; exact (Nat.min_eq_left HLN.out).symm
          case c2 =>
            intro hpos
            have hrd := HBY.out.1.reads
            obtain ⟨bb, off, rfl, hbl, hc⟩ := hrd hpos
            refine ⟨_, rfl, fun j b hjb => ?_⟩
            have := hc j b 0 _ hjb rfl
            simp only [Nat.mul_one, Nat.add_zero] at this
            rw [Go.WideShapes.add_plain]
            exact (((HG2.out.alloc HG2.out.size _).cell (p := ⟨bb, off + j, none⟩) hbl)).trans this
          case c3 => rw [List.length_map, List.length_map, zero_len]; have := HLN.out; omega
          case c4 => intro u hu; obtain ⟨b, _, rfl⟩ := List.mem_map.1 hu; rfl
          intro w4 hg4 hb4
          have HB4 := Lib.hid hb4
          have HG4 := Lib.hid (HG2.out.trans (hb4.mono HG2.out.size))
          have HR4 := Lib.hid (HR3.out.step hb4)
          have HD4 := Lib.hid (HD3.out.step hb4)
          have hg4' := hg4.out
          rw [splice_pad HLN.out] at hg4'
          have HK4 := Lib.hid hg4'
          clear r0 r1 r2 r3 f0 f1 f2 f3 rz q0 q1 q2 q3 g0 g1 g2 g3 qz hg4 hg4' hb4
          obtain ⟨r0, r1, r2, r3, f0, f1, f2, f3, rz⟩ := HR4.out
          obtain ⟨q0, q1, q2, q3, g0, g1, g2, g3, qz⟩ := HD4.out
          go_wp2_with fail
          refine (cloneW_any vs ⟨D, d.pend.length, c2⟩ w4 (HVS.out.step HG4.out) (by rw [HVL.out]; omega)).mono ?_
          rintro e w5 ⟨⟨A5, n5, c5, rfl, ho5⟩, hb5⟩
          obtain ⟨A5', c5', hsh5, hnil5, hmx5⟩ := ho5.shape
          simp only [Value.slice.injEq] at hsh5
          obtain ⟨rfl, rfl, rfl⟩ := hsh5
          have hfrm := ho5.form
          have hc5 : vs.length ≤ c5 ∧ c5 ≤ maxLen := by
            rcases hfrm with ⟨h1, h2⟩ | ⟨g, cap, h1, _, _, h2, h3⟩
            · simp only [Value.slice.injEq] at h1; obtain ⟨_, _, rfl⟩ := h1; simp [h2]
            · simp only [Value.slice.injEq] at h1; obtain ⟨_, _, rfl⟩ := h1; exact ⟨h3, h2⟩
          have HO5 := Lib.hid ho5
          have HG5 := Lib.hid (HG4.out.trans (hb5.mono HG4.out.size))
          have HR5 := Lib.hid (HR4.out.step hb5)
          have HD5 := Lib.hid (HD4.out.step hb5)
          have HB5 := Lib.hid hb5
          clear r0 r1 r2 r3 f0 f1 f2 f3 rz q0 q1 q2 q3 g0 g1 g2 g3 qz hb5 ho5 hfrm
          obtain ⟨r0, r1, r2, r3, f0, f1, f2, f3, rz⟩ := HR5.out
          obtain ⟨q0, q1, q2, q3, g0, g1, g2, g3, qz⟩ := HD5.out
          go_wp2_with fail
          refine (clip_any vs A5 c5 w5 hc5.1 hc5.2).mono ?_
          rintro e w6 ⟨rfl, rfl⟩
          go_wp2_with (at_builtin; refine stop_mk ?_)
          have hnn : A5 = none → vs.length = 0 ∧ vs.length = 0 := by
            intro h
            rcases HO5.out.form with ⟨_, h2⟩ | ⟨g, cap, h1, _⟩
            · simp [h2]
            · simp only [Value.slice.injEq] at h1; rw [h] at h1; cases h1.1
          have hrw := (HO5.out.reads wrE_len).alloc (Nat.le_refl _) (.cells #[.int .i64 x, .slice (some ⟨w2.heap.size, 0, none⟩) 128 128] 76)
          have HNN := Lib.hid hnn
          have HRW := Lib.hid hrw
          clear hnn hrw
          refine stop_out (wpList_append_grows _ rfl _ _ _ rfl 76 i1 _ 2 32 Try.underlying23 HI1.out hz1 hz1' hz1'' rfl (by omega) A5 vs.length vs.length (vs.flatMap wrE) rfl HNN.out (flat_length wrE_len vs) (fun b e => by subst e; exact HRW.out.flat wrE_len (by omega)) ⟨w5.heap.size, 0, none⟩ 1 1 [.int .i64 x, .slice (some ⟨w2.heap.size, 0, none⟩) 128 128] rfl rfl ?d1 ?d2 (by omega) (by have := HVL.out; simp [maxLen]; omega) (by have := HVL.out; omega) ?_)
          case d1 =>
            intro j u hj
            rw [Go.WideShapes.add_plain]
            match j with
            | 0 | 1 => simp at hj; subst hj; simp [go_sem]
            | j + 2 => simp at hj
          case d2 => intro u hu; simp at hu; rcases hu with rfl | rfl <;> rfl
          intro v7 w7 ho7 hg7
          have ho7' : Owns w7 (w5.heap.size + 1) 76 2 wrE v7 (vs ++ [(x, ⟨some ⟨w2.heap.size, 0, none⟩, 128, 128⟩)]) := by
            unfold Owns
            rw [List.length_append, List.flatMap_append]
            simpa [wrE] using ho7
          obtain ⟨A7, c7, rfl, _, _⟩ := ho7'.shape
          have hb7 : Below w5.heap.size w5 w7 := ((Below.refl _ _).alloc (Nat.le_refl _) _).grown hg7 (by simp) (fun k e => by cases e)
          have HO7 := Lib.hid ho7'
          have HG7 := Lib.hid (HG5.out.trans (hb7.mono HG5.out.size))
          have HR7 := Lib.hid (HR5.out.step hb7)
          have HD7 := Lib.hid (HD5.out.step hb7)
          have HB7 := Lib.hid hb7
          clear r0 r1 r2 r3 f0 f1 f2 f3 rz q0 q1 q2 q3 g0 g1 g2 g3 qz hb7 ho7 ho7' hg7
          obtain ⟨r0, r1, r2, r3, f0, f1, f2, f3, rz⟩ := HR7.out
          obtain ⟨q0, q1, q2, q3, g0, g1, g2, g3, qz⟩ := HD7.out
          have hz4 := HB4.out.size
          have hz5 := HB5.out.size
          have hz7 := HB7.out.size
          have hD7 : Di w7 (fun b => (P b ∧ b < w.heap.size) ∨ w.heap.size + 2 ≤ b) ⟨A, d.secs.length, c⟩ ⟨A7, vs.length + 1, c7⟩ ⟨d.secs, d.pend ++ [(x, padS bs)], d.left, d.stopped⟩ := by
            refine ⟨((HD.out.mono2 (Q := fun b => (P b ∧ b < w.heap.size) ∨ w.heap.size + 2 ≤ b) (fun b hb hl => .inl ⟨hb, hl⟩)).step HG7.out).1, ?_⟩
            have h1 := (SlR.of_owns wrE_len HO7.out).mono (Q := fun b => (P b ∧ b < w.heap.size) ∨ w.heap.size + 2 ≤ b) (fun b hb => .inr (by omega))
            rw [List.length_append, List.length_singleton] at h1
            have h2 := (by_block (P := fun b => (P b ∧ b < w.heap.size) ∨ w.heap.size + 2 ≤ b) HK4.out (.inr (by omega)) (by rw [pad_len HLN.out]; decide) (pad_ok HBY.out.2))
            rw [pad_len HLN.out] at h2
            exact Pe.snoc h1 HVL.out (fun i v p a b => ⟨(HVB.out i v p a b).1, ((HVB.out i v p a b).2.mono2 (fun b hb hl => .inl ⟨hb, hl⟩)).step HG7.out⟩) ((h2.step HB5.out).step HB7.out)
          have HDD := Lib.hid hD7
          clear hD7
          go_wp2_with fail
          have hr8 := (HR7.out.far (grownBy_setCell' w7 ⟨w.heap.size, 1, none⟩ (.slice A7 (vs.length + 1) c7)) (by simp)).put (.slice A d.secs.length c) (.slice A7 (vs.length + 1) c7) (.int .i64 lf) (.bool st)
          have hk8 : Kp (fun b => (P b ∧ b < w.heap.size) ∨ w.heap.size + 2 ≤ b) w7 (put4 (w7.setCell ⟨w.heap.size, 1, none⟩ (.slice A7 (vs.length + 1) c7)) (w.heap.size + 1) (.slice A d.secs.length c) (.slice A7 (vs.length + 1) c7) (.int .i64 lf) (.bool st)) :=
            (Kp.of_grown (grownBy_setCell' w7 ⟨w.heap.size, 1, none⟩ (.slice A7 (vs.length + 1) c7)) (by simp)).trans (Kp.of_grown (put4_keep _ _ _ _) (by simp))
          have hg8 : Below w.heap.size w (put4 (w7.setCell ⟨w.heap.size, 1, none⟩ (.slice A7 (vs.length + 1) c7)) (w.heap.size + 1) (.slice A d.secs.length c) (.slice A7 (vs.length + 1) c7) (.int .i64 lf) (.bool st)) :=
            put4_below (HG7.out.setCell (by simp) _) (by omega) _ _ _ _
          have hd8 := (HDD.out.keep hk8).mono (Q := Nw P w) (fun b hb => hb.elim (fun h => .inl h.1) (fun h => .inr (by omega)))
          obtain ⟨p0, p1, p2, p3, _⟩ := hr8
          unfold put4 at p0 p1 p2 p3
          exact bodyPost_ret (v := .tuple #[.agg #[.slice A d.secs.length c, .slice A7 (vs.length + 1) c7, .int .i64 lf, .bool st], .int .i64 0]) (by simp [results, Try.results26, go_sem, p0, p1, p2, p3]) rfl ⟨⟨⟨A, d.secs.length, c⟩, ⟨A7, vs.length + 1, c7⟩, by rw [HLF.out, HST.out], hd8⟩, hg8⟩
      · rw [writeD_long hr hh hlen]
        have e1 : decide ((128 : Int) < (bs.length : Int)) = true := by simp; omega
        have HLN := Lib.hid hlen
        clear hr hh hlen
        go_enter Try.func26, Try.ntmps26
        go_wp2_with fail
        rw [HW0.out]
        refine (RC.out _ HG.out).mono ?_
        rw [HR.out]
        rintro e w1 ⟨rfl, hb1⟩
        have HR2 := Lib.hid (HB2.out.step hb1)
        have HD2 := Lib.hid (HB1.out.step hb1)
        have HG1 := Lib.hid (HG.out.trans (hb1.mono HG.out.size))
        obtain ⟨r0, r1, r2, r3, f0, f1, f2, f3, rz⟩ := HR2.out
        obtain ⟨q0, q1, q2, q3, _, _, _, _, qz⟩ := HD2.out
        clear hb1
        go_wp2_with fail
        refine (HC.out w1).mono ?_
        rw [HH.out]
        rintro e w2 ⟨rfl, hb2⟩
        have HR3 := Lib.hid (HR2.out.step hb2)
        have HD3 := Lib.hid (HD2.out.step hb2)
        have HG2 := Lib.hid (HG1.out.trans (hb2.mono HG1.out.size))
        clear r0 r1 r2 r3 f0 f1 f2 f3 rz q0 q1 q2 q3 qz
        obtain ⟨r0, r1, r2, r3, f0, f1, f2, f3, rz⟩ := HR3.out
        obtain ⟨q0, q1, q2, q3, g0, g1, g2, g3, qz⟩ := HD3.out
        clear hb2
        go_wp2_with fail
        obtain ⟨p0, p1, p2, p3, _⟩ := HR3.out.put (.slice none 0 0) (.slice none 0 0) (.int .i64 0) (.bool false)
        unfold put4 at p0 p1 p2 p3
        exact bodyPost_ret (v := .tuple #[dkV ⟨none, 0, 0⟩ ⟨none, 0, 0⟩ Dk.zero, .int .i64 1]) (by simp [results, Try.results26, go_sem, p0, p1, p2, p3, dkV, Dk.zero]) rfl ⟨⟨⟨none, 0, 0⟩, ⟨none, 0, 0⟩, rfl, Di.zero _ _⟩, put4_below (b := w.heap.size + 1) HG2.out (by omega) _ _ _ _⟩
end Go.Proofs.Ytgbkhmoplocmkaa
