/- Read. -/
import Derived.Test.YtgbkhmoplocmkaaDskG
namespace Go.Proofs.Ytgbkhmoplocmkaa
open Go.RowKit Go.Shelf
set_option linter.unusedSimpArgs false
set_option linter.unusedVariables false
set_option maxRecDepth 20000
attribute [local go_sem] Oper.semAt_some

theorem lastW_none {x : Int} : ∀ {ps : List (Int × List Int)}, (∀ p ∈ ps, p.1 ≠ x) → lastW x ps = none
  | [], _ => rfl
  | p :: ps, h => by
    simp only [lastW]
    rw [lastW_none (fun q hq => h q (List.mem_cons_of_mem _ hq)), if_neg (h p (List.mem_cons_self ..))]
theorem lastW_at {x : Int} : ∀ {ps : List (Int × List Int)} {i : Nat} {p : Int × List Int}, ps[i]? = some p → p.1 = x → (∀ j q, i < j → ps[j]? = some q → q.1 ≠ x) → lastW x ps = some p.2
  | [], i, p, h, _, _ => by simp at h
  | q :: ps, 0, p, h, hp, hn => by
    simp at h
    subst h
    simp only [lastW]
    rw [lastW_none (fun r hr => by
      obtain ⟨j, hj⟩ := List.getElem?_of_mem hr
      exact hn (j + 1) r (by omega) (by simpa using hj)), if_pos hp]
  | q :: ps, i + 1, p, h, hp, hn => by
    simp only [lastW]
    rw [lastW_at (i := i) (by simpa using h) hp (fun j r hj hr => hn (j + 1) r (by omega) (by simpa using hr))]
section
variable {x : Int} {vs : List (Int × Sl)} {ps : List (Int × List Int)}
theorem bk_none (hl : vs.length = ps.length) (he : ∀ (i : Nat) (v : Int × Sl) (p : Int × List Int), vs[i]? = some v → ps[i]? = some p → v.1 = p.1) (h : ∀ y ∈ bk vs, y.2.1 ≠ x) : lastW x ps = none := by
  refine lastW_none (fun p hp => ?_)
  obtain ⟨i, hi⟩ := List.getElem?_of_mem hp
  have hil := (List.getElem?_eq_some_iff.1 hi).1
  have hv : vs[i]? = some (vs[i]'(by omega)) := List.getElem?_eq_getElem (by omega)
  rw [← he i _ p hv hi]
  exact h _ (List.mem_of_getElem? (bk_at vs (vs.length - 1 - i) i _ (by omega) (by omega) hv))
theorem bk_hit {pre t : List (Int × (Int × Sl))} {y : Int × (Int × Sl)} (hl : vs.length = ps.length) (he : ∀ (i : Nat) (v : Int × Sl) (p : Int × List Int), vs[i]? = some v → ps[i]? = some p → v.1 = p.1)
    (hb : pre ++ [y] ++ t = bk vs) (hn : ∀ z ∈ pre, z.2.1 ≠ x) (hy : y.2.1 = x) : ∃ (i : Nat) (p : Int × List Int), vs[i]? = some y.2 ∧ ps[i]? = some p ∧ lastW x ps = some p.2 := by
  have hlen : pre.length + 1 + t.length = vs.length := by
    have := congrArg List.length hb
    rw [bk_len] at this
    simp at this
    omega
  have hm : vs[vs.length - 1 - pre.length]? = some (vs[vs.length - 1 - pre.length]'(by omega)) := List.getElem?_eq_getElem (by omega)
  have h1 := bk_at vs pre.length (vs.length - 1 - pre.length) _ (by omega) rfl hm
  rw [← hb] at h1
  simp at h1
  have hy2 : vs[vs.length - 1 - pre.length]? = some y.2 := by rw [hm, h1]
  have hp : ps[vs.length - 1 - pre.length]? = some (ps[vs.length - 1 - pre.length]'(by omega)) := List.getElem?_eq_getElem (by omega)
  refine ⟨_, _, hy2, hp, lastW_at hp (by rw [← he _ _ _ hy2 hp]; exact hy) (fun j q hj hq => ?_)⟩
  have hjl := (List.getElem?_eq_some_iff.1 hq).1
  have hv : vs[j]? = some (vs[j]'(by omega)) := List.getElem?_eq_getElem (by omega)
  rw [← he j _ q hv hq]
  have h2 := bk_at vs (vs.length - 1 - j) j _ (by omega) (by omega) hv
  rw [← hb, List.append_assoc, List.getElem?_append_left (by omega)] at h2
  exact hn _ (List.mem_of_getElem? h2)
end

theorem zip_two (p q : Tmp) (a b : Value) (t : Array Value) : ((#[p, q] : Array Tmp).zip #[a, b]).foldl (fun t x => t.setIfInBounds x.1 x.2) t = (t.setIfInBounds p a).setIfInBounds q b := by simp
theorem addr_ne {b b' o o' : Nat} (h : b ≠ b' ∨ o ≠ o') : (⟨b, o, none⟩ : Addr) ≠ ⟨b', o', none⟩ := by
  intro e
  have h1 := congrArg Addr.block e
  have h2 := congrArg Addr.off e
  simp only at h1 h2
  omega
theorem set_at (W : World) (a : Addr) (v u : Value) (h : W.cell? a = some u) : (W.setCell a v).cell? a = some v := by
  rw [cell_set_if _ _ _ _ (by rw [h]; rfl), if_pos rfl]
theorem set_far (W : World) (a b : Addr) (v : Value) (h : a ≠ b) : (W.setCell a v).cell? b = W.cell? b := by
  first | exact World.cell?_setCell_other _ _ _ _ h | exact World.cell?_setCell_other _ _ _ _ h.symm

/-- the cells of the boxes at Read's start -/
structure ReadB (w : World) (V0 V1 V2 V3 X : Value) (W : World) : Prop where
  c0 : CellAt W w.heap.size 0 V0
  c1 : CellAt W w.heap.size 1 V1
  c2 : CellAt W w.heap.size 2 V2
  c3 : CellAt W w.heap.size 3 V3
  x : CellAt W (w.heap.size + 1) 0 X
  r : CellAt W (w.heap.size + 1 + 1) 0 (.slice none 0 0)
  e : CellAt W (w.heap.size + 1 + 1 + 1) 0 (.int .i64 0)
  fr : W.frozen? ⟨w.heap.size + 1 + 1, 0, none⟩ = false
  fe : W.frozen? ⟨w.heap.size + 1 + 1 + 1, 0, none⟩ = false
  z : w.heap.size + 1 + 1 + 1 + 1 ≤ W.heap.size
  b : Below w.heap.size w W
theorem ReadB.step {w W W' : World} {V0 V1 V2 V3 X : Value} (h : ReadB w V0 V1 V2 V3 X W) (hb : Below W.heap.size W W') : ReadB w V0 V1 V2 V3 X W' := by
  have h1 := h.z
  have h2 := hb.size
  exact ⟨h.c0.step hb, h.c1.step hb, h.c2.step hb, h.c3.step hb, h.x.step hb, h.r.step hb, h.e.step hb,
    (hb.frozen (p := ⟨w.heap.size + 1 + 1, 0, none⟩) (by show w.heap.size + 1 + 1 < _; omega)).trans h.fr, (hb.frozen (p := ⟨w.heap.size + 1 + 1 + 1, 0, none⟩) (by show w.heap.size + 1 + 1 + 1 < _; omega)).trans h.fe, by omega, h.b.trans (hb.mono h.b.size)⟩
theorem ReadB.start (w : World) (V0 V1 V2 V3 X : Value) (t1 t2 t3 t4 : TypeId) :
    ReadB w V0 V1 V2 V3 X ((((w.alloc (.cells #[V0, V1, V2, V3] t1)).alloc (.cells #[X] t2)).alloc (.cells #[.slice none 0 0] t3)).alloc (.cells #[.int .i64 0] t4)) := by
  refine ⟨⟨?_, ?_⟩, ⟨?_, ?_⟩, ⟨?_, ?_⟩, ⟨?_, ?_⟩, ⟨?_, ?_⟩, ⟨?_, ?_⟩, ⟨?_, ?_⟩, ?_, ?_, ?_, (((Below.refl _ _).alloc (Nat.le_refl _) _).alloc (by simp) _).alloc (by simp; omega) _ |>.alloc (by simp; omega) _⟩
  all_goals first | (simp [go_sem]; done) | (simp [go_sem]; omega)

theorem CellAt.kept {W W' : World} {b o : Nat} {v : Value} {row : Option Nat} (h : CellAt W b o v) (hg : W.grownBy W' row) (hr : ∀ k, row = some k → ∃ o, W.heap[k]? = some o ∧ o.isCells = false) : CellAt W' b o v :=
  ⟨cell_kept h.1 hg hr, Nat.lt_of_lt_of_le h.2 hg.size⟩
theorem ReadB.kept {w W W' : World} {V0 V1 V2 V3 X : Value} {row : Option Nat} (h : ReadB w V0 V1 V2 V3 X W) (hg : W.grownBy W' row) (hr : ∀ k, row = some k → ∃ o, W.heap[k]? = some o ∧ o.isCells = false) (hr2 : ∀ k, row = some k → w.heap.size ≤ k) : ReadB w V0 V1 V2 V3 X W' := by
  have h1 := h.z
  have h2 := hg.size
  exact ⟨h.c0.kept hg hr, h.c1.kept hg hr, h.c2.kept hg hr, h.c3.kept hg hr, h.x.kept hg hr, h.r.kept hg hr, h.e.kept hg hr,
    (frozen_kept h.r.1 hg hr).trans h.fr, (frozen_kept h.e.1 hg hr).trans h.fe, by omega, h.b.grown hg h.b.size hr2⟩
/-- between two rounds -/
def ReadI (w : World) (V0 V1 V2 V3 : Value) (x : Int) (pre : List (Int × (Int × Sl))) (W : World) : Prop :=
  ReadB w V0 V1 V2 V3 (.int .i64 x) W ∧ ∀ y ∈ pre, y.2.1 ≠ x
/-- behind a round that has returned -/
def ReadX (w : World) (P : Nat → Prop) (E : List Int) (c : Code) (W : World) : Prop :=
  c = .ret ∧ ∃ v : Sl, CellAt W (w.heap.size + 1 + 1) 0 (.slice v.a v.n v.c) ∧ CellAt W (w.heap.size + 1 + 1 + 1) 0 (.int .i64 0) ∧ By w P v E ∧ Below w.heap.size w W

end Go.Proofs.Ytgbkhmoplocmkaa
