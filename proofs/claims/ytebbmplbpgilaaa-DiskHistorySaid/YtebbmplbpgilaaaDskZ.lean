/- DiskHistory: what lies in memory in the middle of a round. -/
import Derived.Test.YtebbmplbpgilaaaDskY
namespace Go.Proofs.Ytebbmplbpgilaaa
open Go.RowKit Go.Shelf
set_option linter.unusedSimpArgs false
set_option linter.unusedVariables false

/-- the blocks that a disk of the round does not use -/
def PB (bd bl bf bs : Nat) (v : Value) (b : Nat) : Prop := b ≠ bd ∧ b ≠ bl ∧ b ≠ bf ∧ b ≠ bs ∧ v.ownBlock ≠ some b
/-- the boxes of a round -/
structure HM (w : World) (bd bl bf bs B : Nat) (v c0 c1 c2 c3 : Value) (L F S : List Int) (wt : List Ac) (W : World) : Prop where
  box : Box4 W bd c0 c1 c2 c3
  last : Arr W bl L
  first : Arr W bf F
  second : Arr W bs S
  wait : Owns W B 46 3 Ac.enc v wt
  bel : Below w.heap.size w W
  ord : w.heap.size ≤ bd ∧ bd < bl ∧ bl < bf ∧ bf < bs ∧ bs < B
section
variable {w W W' : World} {bd bl bf bs B : Nat} {v c0 c1 c2 c3 : Value} {L F S : List Int} {wt : List Ac}
theorem HM.step (h : HM w bd bl bf bs B v c0 c1 c2 c3 L F S wt W) (hb : Below W.heap.size W W') : HM w bd bl bf bs B v c0 c1 c2 c3 L F S wt W' :=
  ⟨h.box.step hb, h.last.step hb, h.first.step hb, h.second.step hb, h.wait.below hb (Nat.le_refl _), h.bel.trans (hb.mono h.bel.size), h.ord⟩
theorem HM.drewN (h : HM w bd bl bf bs B v c0 c1 c2 c3 L F S wt W) (n : Nat) : HM w bd bl bf bs B v c0 c1 c2 c3 L F S wt (W.drewN n) := h.step (below_drewN (Below.refl _ _) n)
theorem HM.lt (h : HM w bd bl bf bs B v c0 c1 c2 c3 L F S wt W) : bd < W.heap.size ∧ bl < W.heap.size ∧ bf < W.heap.size ∧ bs < W.heap.size := ⟨h.box.z, h.last.z, h.first.z, h.second.z⟩
theorem HM.waitFar (h : HM w bd bl bf bs B v c0 c1 c2 c3 L F S wt W) {b o : Nat} (u : Value) (hb : b < B) : Owns (W.setCell ⟨b, o, none⟩ u) B 46 3 Ac.enc v wt :=
  h.wait.kept (grownBy_setCell' W ⟨b, o, none⟩ u) (fun g hg e => by
    have h1 := h.wait.base_le g hg
    have h2 : b = g := Option.some.inj e
    omega)
theorem HM.setLast (h : HM w bd bl bf bs B v c0 c1 c2 c3 L F S wt W) {j : Nat} (hj : j < 4) (u : Int) : HM w bd bl bf bs B v c0 c1 c2 c3 (L.set j u) F S wt (W.setCell ⟨bl, j, none⟩ (.int .u8 u)) := by
  have ho := h.ord
  have hg := grownBy_setCell' W ⟨bl, j, none⟩ (.int .u8 u)
  exact ⟨h.box.far hg (by simp; omega), h.last.set hj u, h.first.far hg (by simp; omega), h.second.far hg (by simp; omega), h.waitFar _ (by omega), h.bel.setCell (by show w.heap.size ≤ bl; omega) _, ho⟩
theorem HM.setFirst (h : HM w bd bl bf bs B v c0 c1 c2 c3 L F S wt W) {j : Nat} (hj : j < 4) (u : Int) : HM w bd bl bf bs B v c0 c1 c2 c3 L (F.set j u) S wt (W.setCell ⟨bf, j, none⟩ (.int .u8 u)) := by
  have ho := h.ord
  have hg := grownBy_setCell' W ⟨bf, j, none⟩ (.int .u8 u)
  exact ⟨h.box.far hg (by simp; omega), h.last.far hg (by simp; omega), h.first.set hj u, h.second.far hg (by simp; omega), h.waitFar _ (by omega), h.bel.setCell (by show w.heap.size ≤ bf; omega) _, ho⟩
theorem HM.setSecond (h : HM w bd bl bf bs B v c0 c1 c2 c3 L F S wt W) {j : Nat} (hj : j < 4) (u : Int) : HM w bd bl bf bs B v c0 c1 c2 c3 L F (S.set j u) wt (W.setCell ⟨bs, j, none⟩ (.int .u8 u)) := by
  have ho := h.ord
  have hg := grownBy_setCell' W ⟨bs, j, none⟩ (.int .u8 u)
  exact ⟨h.box.far hg (by simp; omega), h.last.far hg (by simp; omega), h.first.far hg (by simp; omega), h.second.set hj u, h.waitFar _ (by omega), h.bel.setCell (by show w.heap.size ≤ bs; omega) _, ho⟩
theorem HM.putBox (h : HM w bd bl bf bs B v c0 c1 c2 c3 L F S wt W) (u0 u1 u2 u3 : Value) : HM w bd bl bf bs B v u0 u1 u2 u3 L F S wt (put4 W bd u0 u1 u2 u3) := by
  have ho := h.ord
  have hg := put4_keep (W := W) (b := bd) u0 u1 u2 u3
  exact ⟨h.box.put .., h.last.far hg (by simp; omega), h.first.far hg (by simp; omega), h.second.far hg (by simp; omega), h.wait.put4 (by omega) .., put4_below h.bel (by omega) .., ho⟩
theorem HM.append (h : HM w bd bl bf bs B v c0 c1 c2 c3 L F S wt W) {v' : Value} {wt' : List Ac} (ho : Owns W' B 46 3 Ac.enc v' wt') (hg : W.grownBy W' v.ownBlock) : HM w bd bl bf bs B v' c0 c1 c2 c3 L F S wt' W' := by
  have hd := h.ord
  have hn : ∀ b, b < B → v.ownBlock ≠ some b := fun b hb e => by have := h.wait.base_le b e; omega
  exact ⟨h.box.far hg (hn _ (by omega)), h.last.far hg (hn _ (by omega)), h.first.far hg (hn _ (by omega)), h.second.far hg (hn _ (by omega)), ho, h.bel.grown hg (by have := h.bel.size; omega) (fun q e => by have := h.wait.base_le q e; omega), hd⟩
theorem HM.pbLast (W : World) (o : Nat) (u : Value) : Kp (PB bd bl bf bs v) W (W.setCell ⟨bl, o, none⟩ u) := Kp.of_grown (grownBy_setCell' _ _ _) (fun h => h.2.1 rfl)
theorem HM.pbFirst (W : World) (o : Nat) (u : Value) : Kp (PB bd bl bf bs v) W (W.setCell ⟨bf, o, none⟩ u) := Kp.of_grown (grownBy_setCell' _ _ _) (fun h => h.2.2.1 rfl)
theorem HM.pbSecond (W : World) (o : Nat) (u : Value) : Kp (PB bd bl bf bs v) W (W.setCell ⟨bs, o, none⟩ u) := Kp.of_grown (grownBy_setCell' _ _ _) (fun h => h.2.2.2.1 rfl)
theorem HM.pbPut (W : World) (u0 u1 u2 u3 : Value) : Kp (PB bd bl bf bs v) W (put4 W bd u0 u1 u2 u3) := Kp.of_grown (put4_keep ..) (fun h => h.1 rfl)
/-- the disk behind an append to the row of waiting acts -/
theorem HM.pbAppend {v' : Value} {sv pv : Sl} {d : Dk} (h : Di W (PB bd bl bf bs v) sv pv d) (hg : W.grownBy W' v.ownBlock) (hv : v'.ownBlock = v.ownBlock ∨ v'.ownBlock = some W.heap.size) : Di W' (PB bd bl bf bs v') sv pv d := by
  have hk : Kp (fun b => PB bd bl bf bs v b ∧ b < W.heap.size) W W' := Kp.of_grown2 hg (fun b hb e => hb.1.2.2.2.2 e.symm)
  refine ((h.mono2 (Q := fun b => PB bd bl bf bs v b ∧ b < W.heap.size) (fun b hb hl => ⟨hb, hl⟩)).keep hk).mono (fun b hb => ⟨hb.1.1, hb.1.2.1, hb.1.2.2.1, hb.1.2.2.2.1, fun e => ?_⟩)
  rcases hv with hv | hv
  · rw [hv] at e
    exact hb.1.2.2.2.2 e
  · rw [hv] at e
    have := Option.some.inj e
    have := hb.2
    omega
/-- a fresh row of waiting acts -/
theorem HM.pbFresh {v' : Value} {sv pv : Sl} {d : Dk} (h : Di W (PB bd bl bf bs v) sv pv d) (hv : ∀ b, v'.ownBlock = some b → W.heap.size ≤ b) : Di W (PB bd bl bf bs v') sv pv d :=
  h.mono2 (fun b hb hl => ⟨hb.1, hb.2.1, hb.2.2.1, hb.2.2.2.1, fun e => by have := hv b e; omega⟩)
theorem HI.mid {sv pv : Sl} {fs : List Int} {room : Int} (h : HI w bd bl bf bs B v sv pv fs wt room W) (ho : w.heap.size ≤ bd ∧ bd < bl ∧ bl < bf ∧ bf < bs ∧ bs < B) :
    HM w bd bl bf bs B v (.slice sv.a sv.n sv.c) (.slice pv.a pv.n pv.c) (.int .i64 room) (.bool false) (putB fs wt) fs fs wt W :=
  ⟨h.box, h.last, h.first, h.second, h.wait, h.bel, ho⟩
theorem HM.hi {sv pv : Sl} {fs : List Int} {room : Int} (h : HM w bd bl bf bs B v (.slice sv.a sv.n sv.c) (.slice pv.a pv.n pv.c) (.int .i64 room) (.bool false) (putB fs wt) fs fs wt W) (hd : Di W (PB bd bl bf bs v) sv pv (histD fs wt room)) :
    HI w bd bl bf bs B v sv pv fs wt room W :=
  ⟨h.box, h.last, h.first, h.second, hd, h.wait, h.bel⟩
end
theorem Try.infoAc : (Try.prog.info? 46).map (fun i => (i.zero, i.size, i.bytes)) = some (some (.agg #[.bool false, .int .u8 0, .int .u8 0]), 3, 3) := by kernel_rfl
theorem infoAc_parts : ∃ i, Try.prog.info? 46 = some i ∧ i.zero = some (.agg #[.bool false, .int .u8 0, .int .u8 0]) ∧ i.size = 3 ∧ i.bytes = 3 := by
  have h := Try.infoAc
  cases e : Try.prog.info? 46 with
  | none => rw [e] at h; cases h
  | some i => rw [e] at h; simp at h; exact ⟨i, rfl, h.1, h.2.1, h.2.2⟩
theorem addr_ne_b {b b' o o' : Nat} (h : b ≠ b') : (⟨b, o, none⟩ : Addr) ≠ ⟨b', o', none⟩ := fun e => h (congrArg Addr.block e)
/-- holds, for an array that is read twice -/
theorem holds_hist {P : Nat → Prop} {fs : List Int} {wt : List Ac} {room : Int} (sv pv : Sl) (f0 f1 f2 f3 : Int) (W : World) (hf : fs.length = 4) (hw : wt.length ≤ 40) (h0 : 0 ≤ room) (h1 : room ≤ 255) (hl : putB fs wt = [f0, f1, f2, f3]) (hd : Di W P sv pv (histD fs wt room)) :
    Calls Try.prog 28 #[.agg #[.slice sv.a sv.n sv.c, .slice pv.a pv.n pv.c, .int .i64 room, .bool false], .agg #[.int .u8 f0, .int .u8 f1, .int .u8 f2, .int .u8 f3], .agg #[.int .u8 f0, .int .u8 f1, .int .u8 f2, .int .u8 f3]] W fun e w' => e = .returned (.bool true) ∧ Below W.heap.size W w' := by
  have h2 := holds_any (histD fs wt room) sv pv f0 f1 f2 f3 f0 f1 f2 f3 W hd (fun k hk => by rw [hist_read hf hw h0 h1 hk, hl])
  exact h2
end Go.Proofs.Ytebbmplbpgilaaa
