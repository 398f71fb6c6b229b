/- What lies in memory while JournalDamage appends. -/
import Derived.Test.YtgbkhmoplocmkaaJouLD
import Derived.Test.YtgbkhmoplocmkaaJouG
import Derived.Test.YtgbkhmoplocmkaaJouK
import Derived.Test.YtgbkhmoplocmkaaDskM
import Derived.Test.YtgbkhmoplocmkaaDskL
namespace Go.Proofs.Ytgbkhmoplocmkaa
open Go.RowKit Go.Shelf
set_option linter.unusedSimpArgs false
set_option linter.unusedVariables false
set_option maxRecDepth 20000

/-- where the first k records end -/
def endsJ (rs : List (List Int)) (k : Nat) : List Int := (List.range k).map fun i => ((sumK (rs.take (i + 1)) : Nat) : Int)
theorem endsJ_len (rs : List (List Int)) (k : Nat) : (endsJ rs k).length = k := by simp [endsJ]
theorem endsJ_succ (rs : List (List Int)) (k : Nat) : endsJ rs (k + 1) = endsJ rs k ++ [((sumK (rs.take (k + 1)) : Nat) : Int)] := by simp [endsJ, List.range_succ]
theorem endsJ_get {rs : List (List Int)} {k i : Nat} (h : i < k) : (endsJ rs k)[i]? = some ((sumK (rs.take (i + 1)) : Nat) : Int) := by simp [endsJ, h]
theorem sumK_snoc {rs : List (List Int)} {k : Nat} {b : List Int} (h : rs[k]? = some b) : sumK (rs.take (k + 1)) = sumK (rs.take k) + sectK b := by
  rw [List.take_add_one, h]
  show sumK (rs.take k ++ [b]) = _
  rw [sumK_app, sumK_single]
theorem Owns.kp {α : Type} {w w' : World} {base sz : Nat} {e : TypeId} {en : α → List Value} {v : Value} {ys : List α} (h : Owns w base e sz en v ys) {J : Nat} (hg : w.grownBy w' (some J)) (hJ : J < base) : Owns w' base e sz en v ys :=
  h.kept hg (fun g hg2 e => by have := h.base_le g hg2; injection e with e; omega)
theorem flat_setB (ys : List Int) (i : Nat) (y : Int) : (ys.set i y).flatMap byteE = (ys.flatMap byteE).set i (.int .u8 y) := by
  induction ys generalizing i with
  | nil => simp
  | cons z zs ih =>
    cases i with
    | zero => simp [byteE]
    | succ i => simp only [List.set_cons_succ, List.flatMap_cons, ih]; rfl
/-- one byte written into a row of bytes of its own -/
theorem Owns.setB1 {w : World} {base : Nat} {t : TypeId} {g n c i : Nat} {ys : List Int} (h : Owns w base t 1 byteE (.slice (some ⟨g, 0, none⟩) n c) ys) (y : Int) :
    Owns (w.setCell ⟨g, i, none⟩ (.int .u8 y)) base t 1 byteE (.slice (some ⟨g, 0, none⟩) n c) (ys.set i y) := by
  obtain ⟨h1, h2⟩ := h
  refine ⟨by rw [flat_setB, List.length_set, h1, List.length_set], ?_⟩
  rcases h2 with ⟨h3, _⟩ | ⟨g', cap, cur, h3, h4, h5, h6, h7, h8, h9⟩
  · cases h3
  · simp only [Value.slice.injEq, Option.some.injEq, Addr.mk.injEq] at h3
    obtain ⟨⟨rfl, _⟩, h10, rfl⟩ := h3
    refine .inr ⟨g, c, cur.setIfInBounds i (.int .u8 y), by rw [List.length_set, h10], h4, heap_set _ h5, by rw [List.length_set]; exact h6, h7, by simp [h8], ?_⟩
    rw [flat_setB, List.length_set, Array.toList_setIfInBounds, ← h9, List.take_set]
theorem Owns.cellB1 {w : World} {base : Nat} {t : TypeId} {A : Option Addr} {n c i : Nat} {ys : List Int} (h : Owns w base t 1 byteE (.slice A n c) ys) (hi : i < ys.length) :
    ∃ g, A = some ⟨g, 0, none⟩ ∧ base ≤ g ∧ g < w.heap.size ∧ w.cell? ⟨g, i, none⟩ = some (.int .u8 (ys.getD i 0)) ∧ w.frozen? ⟨g, i, none⟩ = false := by
  have hr := h.reads byteE_len
  obtain ⟨b, off, x, ha, hb, hx, hc⟩ := hr.at_ hi
  have c0 := hc 0 _ rfl
  simp only [Nat.mul_one, Nat.add_zero] at c0
  rcases h.2 with ⟨h3, h4⟩ | ⟨g', cap, cur, h3, h4, h5, h6, h7, h8, h9⟩
  · omega
  · simp only [Value.slice.injEq] at h3
    obtain ⟨rfl, rfl, rfl⟩ := h3
    simp only [Option.some.injEq, Addr.mk.injEq] at ha
    obtain ⟨rfl, rfl, _⟩ := ha
    rw [Nat.zero_add] at c0
    have e : ys.getD i 0 = x := by rw [List.getD_eq_getElem?_getD, hx]; rfl
    exact ⟨g', rfl, h4, hb, by rw [e]; exact c0, by simp [World.frozen?, h5]⟩
theorem xor8_range {a b : Int} (ha : 0 ≤ a ∧ a < 256) (hb : 0 ≤ b ∧ b < 256) : 0 ≤ bits .xor .u8 a b ∧ bits .xor .u8 a b < 256 := by
  rw [u8_xor a b ha.1 ha.2 hb.1 hb.2]
  have := Nat.xor_lt_two_pow (n := 8) (x := a.toNat) (y := b.toNat) (by omega) (by omega)
  omega
theorem xor8_ne {a z : Int} (ha : 0 ≤ a ∧ a < 256) (hz : 0 ≤ z ∧ z < 256) (h0 : z ≠ 0) : a ≠ bits .xor .u8 a z := by
  intro he
  rw [u8_xor a z ha.1 ha.2 hz.1 hz.2] at he
  have h4 : a.toNat = a.toNat ^^^ z.toNat := by omega
  have h5 : z.toNat = 0 := by
    have := congrArg (fun t => a.toNat ^^^ t) h4
    simp only [Nat.xor_self, ← Nat.xor_assoc, Nat.zero_xor] at this
    exact this.symm
  omega
/-- while records are appended: the disk's box B, the journal's box J, the row of ends v -/
structure DmA (w : World) (B J : Nat) (W : World) (sd pd r : Sl) (v : Value) (d : Dk) (rs : List (List Int)) (m : Int) (es : List Int) : Prop where
  bd : Box4 W B (.slice sd.a sd.n sd.c) (.slice pd.a pd.n pd.c) (.int .i64 d.left) (.bool d.stopped)
  bl : Box3 W J (.slice r.a r.n r.c) (.int .i64 m) (.int .i64 0)
  dd : Di W (fun b => b ≠ J ∧ some b ≠ v.ownBlock) sd pd d
  ll : Se W (fun b => b ≠ J ∧ some b ≠ v.ownBlock) r rs
  ow : Owns W (J + 1) 3 1 intE v es
  lo : w.heap.size ≤ B
  o1 : B < J
  bw : Below w.heap.size w W
section
variable {w : World} {B J : Nat} {W W' : World} {sd pd r : Sl} {v v' : Value} {d : Dk} {rs rs' : List (List Int)} {m : Int} {es es' : List Int}
theorem DmA.step (h : DmA w B J W sd pd r v d rs m es) (hb : Below W.heap.size W W') : DmA w B J W' sd pd r v d rs m es :=
  ⟨h.bd.step hb, h.bl.step hb, h.dd.step hb, h.ll.step hb, h.ow.below hb (Nat.le_refl _), h.lo, h.o1, h.bw.trans (hb.mono h.bw.size)⟩
theorem DmA.nw (h : DmA w B J W sd pd r v d rs m es) {b : Nat} (hb : Nw (fun b => b ≠ J ∧ some b ≠ v.ownBlock) W b) : b ≠ J ∧ some b ≠ v.ownBlock :=
  hb.elim id (fun h1 => ⟨Nat.ne_of_gt (Nat.lt_of_lt_of_le h.bl.z h1), fun e => absurd (h.ow.lt b e.symm) (Nat.not_lt.2 h1)⟩)
theorem DmA.putL (h : DmA w B J W sd pd r v d rs m es) {r' : Sl} (hr : Se W (fun b => b ≠ J ∧ some b ≠ v.ownBlock) r' rs') : DmA w B J (put3 W J (.slice r'.a r'.n r'.c) (.int .i64 m) (.int .i64 0)) sd pd r' v d rs' m es :=
  have k := put3_kp (fun b => b ≠ J ∧ some b ≠ v.ownBlock) W (b := J) (fun x => x.1 rfl) (.slice r'.a r'.n r'.c) (.int .i64 m) (.int .i64 0)
  have g := put3_keep W J (.slice r'.a r'.n r'.c) (.int .i64 m) (.int .i64 0)
  ⟨h.bd.far g (by have := h.o1; simp only [ne_eq, Option.some.injEq]; omega), h.bl.put _ _ _, h.dd.keep k, hr.keep k, h.ow.kp g (Nat.lt_succ_self _), h.lo, h.o1, put3_below h.bw (by have := h.lo; have := h.o1; omega) _ _ _⟩
/-- the row of ends grows -/
theorem DmA.grow (h : DmA w B J W sd pd r v d rs m es) (ho : Owns W' (J + 1) 3 1 intE v' es') (hg : W.grownBy W' v.ownBlock) (hv : v'.ownBlock = v.ownBlock ∨ v'.ownBlock = some W.heap.size) : DmA w B J W' sd pd r v' d rs m es' := by
  have hk : Kp (fun b => (b ≠ J ∧ some b ≠ v.ownBlock) ∧ b < W.heap.size) W W' := Kp.of_grown2 hg (fun b hb => hb.1.2)
  have hp : ∀ b, ((b ≠ J ∧ some b ≠ v.ownBlock) ∧ b < W.heap.size) → (b ≠ J ∧ some b ≠ v'.ownBlock) := fun b hb => ⟨hb.1.1, fun e => by
    rcases hv with h1 | h1
    · exact hb.1.2 (e.trans h1)
    · rw [h1] at e
      injection e with e
      have := hb.2
      omega⟩
  have hn : ∀ b, b ≤ J → v.ownBlock ≠ some b := fun b hb e => by have := h.ow.base_le b e; omega
  exact ⟨h.bd.far hg (hn B (Nat.le_of_lt h.o1)), h.bl.far hg (hn J (Nat.le_refl _)), ((h.dd.mono2 (fun b hb hl => ⟨hb, hl⟩)).keep hk).mono hp, ((h.ll.mono2 (fun b hb hl => ⟨hb, hl⟩)).keep hk).mono hp, ho, h.lo, h.o1,
    h.bw.grown hg h.bw.size (fun q e => by have := h.ow.base_le q e; have := h.lo; have := h.o1; omega)⟩
end
end Go.Proofs.Ytgbkhmoplocmkaa
