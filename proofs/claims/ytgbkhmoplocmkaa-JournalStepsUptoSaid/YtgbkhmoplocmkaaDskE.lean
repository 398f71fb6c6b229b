/- The reference's New. -/
import Derived.Test.YtgbkhmoplocmkaaDskD
import Derived.Deep.RegionLaw
import Derived.Deep.DeepCutAuto
namespace Go.Proofs.Ytgbkhmoplocmkaa
open Go.RowKit Go.Shelf
set_option linter.unusedSimpArgs false
set_option linter.unusedVariables false
set_option maxRecDepth 20000

theorem cell_lt' {w : World} {b o : Nat} {v : Value} (h : w.cell? ⟨b, o, none⟩ = some v) : b < w.heap.size := by
  rcases Nat.lt_or_ge b w.heap.size with h1 | h1
  · exact h1
  · simp [World.cell?, Array.getElem?_eq_none h1] at h
theorem SlR.mono2 {α : Type} {w : World} {P Q : Nat → Prop} {sz : Nat} {en : α → List Value} {s : Sl} {xs : List α} (h : SlR w P sz en s xs) (hq : ∀ b, P b → b < w.heap.size → Q b) : SlR w Q sz en s xs := by
  refine ⟨h.1, h.2.1, h.2.2.1, h.2.2.2.1, h.2.2.2.2.1, fun hn a e => ?_⟩
  obtain ⟨b, off, e2, hlt, _⟩ := h.2.2.2.2.1 hn
  have hp := h.2.2.2.2.2 hn a e
  rw [e2] at e
  cases e
  exact hq _ hp hlt
theorem By.mono2 {w : World} {P Q : Nat → Prop} {s : Sl} {bs : List Int} (h : By w P s bs) (hq : ∀ b, P b → b < w.heap.size → Q b) : By w Q s bs := ⟨h.1.mono2 hq, h.2⟩

theorem step_append_reads {α : Type} {P : Program} {w : World} {en : α → List Value} {sz : Nat} {ops : Array Oper} {o : Oper} {a : Act} {K : Act → World → Prop} {Q : Exit → Act → World → Prop} {E : Prop} (hgd : o.guard = none) (s x : Operand) (t : TypeId)
    (ho : o.op = .call { callee := .builtin .append, args := #[s, x], argTypes := #[t, t] }) (hen : ∀ y, (en y).length = sz) (h1 : ∀ y, ∀ u ∈ en y, u.oneCell' = true)
    (base : Nat) (e : TypeId) (i : TypeInfo) (z : Value) (bytes : Nat) (ht : P.underlying t = some (.slice e)) (hi : P.info? e = some i) (hz : i.zero = some z)
    (hsize : i.size = sz) (hby : i.bytes = bytes) (hzs : z.cells.size = sz) (hsz : 0 < sz)
    (v : Value) (ys : List α) (hs : a.eval s = v) (hown : Owns w base e sz en v ys) (B : Nat) (A : Option Addr) (c : Nat) (xs : List α) (hx : a.eval x = .slice A xs.length c) (hr : Reads w B A sz en xs) (hnil : A = none → c = 0)
    (h63 : ys.length + xs.length ≤ maxLen) (hbytes : (ys.length + xs.length) * bytes ≤ 140737488355328) (hbase : base ≤ w.heap.size)
    (h : ∀ v' w', Owns w' base e sz en v' (ys ++ xs) → w.grownBy w' v.ownBlock → (v'.ownBlock = v.ownBlock ∨ v'.ownBlock = some w.heap.size) → K (a.put o.dst v') w') :
    if Region.wanted o (yielded ops a.tmps) = true then Oper.wp P o a w K Q else E := by
  have hw : Region.wanted o (yielded ops a.tmps) = true := by simp [Region.wanted, hgd]
  rw [if_pos hw]
  obtain ⟨v', w', hrun, h2, h3, h4, h5⟩ := run_append_reads (P := P) w hen h1 base t o.type e i z bytes ht hi hz hsize hby hzs hsz v ys hown B A c xs hr hnil h63 hbytes hbase
  unfold Oper.wp execOp
  simp only [ho, resolve, invoke, builtin, Sem.run_bind, Sem.run_pure, Result.andThen_ok, List.map_toArray, List.map_cons, List.map_nil, hs, hx, hrun]
  exact h _ _ h2 h3 h4

theorem grown_cell {w w' : World} {row : Option Nat} (h : w.grownBy w' row) {p : Addr} (hl : p.block < w.heap.size) (hn : some p.block ≠ row) : w'.cell? p = w.cell? p := World.cell?_of_block (h.block _ hl hn)
theorem grown_frozen {w w' : World} {row : Option Nat} (h : w.grownBy w' row) {p : Addr} (hl : p.block < w.heap.size) (hn : some p.block ≠ row) : w'.frozen? p = w.frozen? p := World.frozen?_of_block (h.block _ hl hn)
theorem Kp.of_grown2 {P : Nat → Prop} {w w' : World} {row : Option Nat} (h : w.grownBy w' row) (hg : ∀ b, P b → some b ≠ row) : Kp P w w' := ⟨h.size, fun b hb hl => h.block b hl (hg b hb)⟩
theorem Kp.trans {P : Nat → Prop} {w w' w'' : World} (h : Kp P w w') (h' : Kp P w' w'') : Kp P w w'' := ⟨Nat.le_trans h.1 h'.1, fun b hb hl => (h'.2 b hb (Nat.lt_of_lt_of_le hl h.1)).trans (h.2 b hb hl)⟩
theorem Kp.setCell {P : Nat → Prop} {w w' : World} (h : Kp P w w') {a : Addr} (ha : ¬ P a.block) (v : Value) : Kp P w (w'.setCell a v) :=
  ⟨by simpa [World.setCell] using h.1, fun b hb hl => (Below.heap_setCell _ _ _ _ (fun e => ha (by rw [← e]; exact hb))).trans (h.2 b hb hl)⟩
theorem Kp.alloc {P : Nat → Prop} (w : World) (o : Obj) : Kp P w (w.alloc o) := Kp.of_below ((Below.refl _ _).alloc (Nat.le_refl _) _)

/-- between two rounds of New -/
def RNewI (w : World) (k : Nat) (W : World) : Prop :=
  ∃ (A : Option Addr) (m c : Nat) (vs : List Sl), W.cell? ⟨w.heap.size + 1, 0, none⟩ = some (.slice A m c) ∧ W.cell? ⟨w.heap.size + 1, 1, none⟩ = some (.slice none 0 0) ∧ W.cell? ⟨w.heap.size + 1, 2, none⟩ = some (.int .i64 (-1)) ∧ W.cell? ⟨w.heap.size + 1, 3, none⟩ = some (.bool false) ∧
    W.frozen? ⟨w.heap.size + 1, 0, none⟩ = false ∧ (∀ i, (#[Value.slice none 0 0, .slice none 0 0, .int .i64 0, .bool false])[i]? = W.cell? ⟨w.heap.size, i, none⟩) ∧ (∀ i, W.frozen? ⟨w.heap.size, i, none⟩ = false) ∧
    Owns W (w.heap.size + 2) 35 1 slE (.slice A m c) vs ∧ vs.length = k ∧ (∀ (i : Nat) (v : Sl), vs[i]? = some v → By W (fun b => w.heap.size + 2 ≤ b ∧ ∀ q, (Value.slice A m c).ownBlock = some q → b ≠ q) v zeroSec) ∧ Below w.heap.size w W

theorem RNewI.next {w wr w5 : World} {A A5 : Option Addr} {m c c5 j : Nat} {vs : List Sl} (hzr : w.heap.size + 2 ≤ wr.heap.size)
    (c1 : wr.cell? ⟨w.heap.size + 1, 1, none⟩ = some (.slice none 0 0)) (c2 : wr.cell? ⟨w.heap.size + 1, 2, none⟩ = some (.int .i64 (-1))) (c3 : wr.cell? ⟨w.heap.size + 1, 3, none⟩ = some (.bool false))
    (g0 : w5.cell? ⟨w.heap.size + 1, 0, none⟩ = some (.slice A m c)) (g1 : w5.frozen? ⟨w.heap.size + 1, 0, none⟩ = false)
    (rc : ∀ i, (#[Value.slice none 0 0, .slice none 0 0, .int .i64 0, .bool false])[i]? = wr.cell? ⟨w.heap.size, i, none⟩) (rf : ∀ i, wr.frozen? ⟨w.heap.size, i, none⟩ = false)
    (how : Owns wr (w.heap.size + 2) 35 1 slE (.slice A m c) vs) (hvl : vs.length = j) (hby : ∀ (i : Nat) (v : Sl), vs[i]? = some v → By wr (fun b => w.heap.size + 2 ≤ b ∧ ∀ q, (Value.slice A m c).ownBlock = some q → b ≠ q) v zeroSec) (hB : Below w.heap.size w wr)
    (k1 : Owns w5 (w.heap.size + 2) 35 1 slE (.slice A5 (j + 1) c5) (vs ++ [⟨some ⟨wr.heap.size, 0, none⟩, 128, 128⟩]))
    (k2 : ((wr.alloc (.cells zero128 5)).alloc (.cells #[.slice (some ⟨wr.heap.size, 0, none⟩) 128 128] 35)).grownBy w5 (Value.slice A m c).ownBlock)
    (k3 : (Value.slice A5 (j + 1) c5).ownBlock = (Value.slice A m c).ownBlock ∨ (Value.slice A5 (j + 1) c5).ownBlock = some ((wr.alloc (.cells zero128 5)).alloc (.cells #[.slice (some ⟨wr.heap.size, 0, none⟩) 128 128] 35)).heap.size) :
    RNewI w (j + 1) (w5.setCell ⟨w.heap.size + 1, 0, none⟩ (.slice A5 (j + 1) c5)) := by
  have hsz : ((wr.alloc (.cells zero128 5)).alloc (.cells #[.slice (some ⟨wr.heap.size, 0, none⟩) 128 128] 35)).heap.size = wr.heap.size + 2 := by simp
  have BA := ((Below.refl wr.heap.size wr).alloc (Nat.le_refl _) (.cells zero128 5)).alloc (by simp) (.cells #[.slice (some ⟨wr.heap.size, 0, none⟩) 128 128] 35)
  have hz := zero_by wr
  have hz2 := hz.step ((Below.refl _ _).alloc (Nat.le_refl _) (.cells #[.slice (some ⟨wr.heap.size, 0, none⟩) 128 128] 35))
  generalize ((wr.alloc (.cells zero128 5)).alloc (.cells #[.slice (some ⟨wr.heap.size, 0, none⟩) 128 128] 35)) = W2 at *
  have own_lo := how.base_le
  have own_hi := how.lt
  have hlo : ∀ b : Nat, b < w.heap.size + 2 → some b ≠ (Value.slice A m c).ownBlock := fun b hb e => by have := own_lo _ e.symm; omega
  have blk : ∀ b, b < w.heap.size + 2 → w5.heap[b]? = wr.heap[b]? := fun b hb => (k2.block b (by omega) (hlo b hb)).trans (BA.block b (by omega))
  have five : w.heap.size + 1 < w5.heap.size := by have := k2.size; omega
  have cl : ∀ b i, b < w.heap.size + 2 → w5.cell? ⟨b, i, none⟩ = wr.cell? ⟨b, i, none⟩ := fun b i hb => World.cell?_of_block (a := ⟨b, i, none⟩) (blk b hb)
  have fl : ∀ b i, b < w.heap.size + 2 → w5.frozen? ⟨b, i, none⟩ = wr.frozen? ⟨b, i, none⟩ := fun b i hb => World.frozen?_of_block (a := ⟨b, i, none⟩) (blk b hb)
  have st : ∀ b i, (w5.setCell ⟨w.heap.size + 1, 0, none⟩ (.slice A5 (j + 1) c5)).cell? ⟨b, i, none⟩ = if (⟨b, i, none⟩ : Addr) = ⟨w.heap.size + 1, 0, none⟩ then some (.slice A5 (j + 1) c5) else w5.cell? ⟨b, i, none⟩ := fun b i => cell_set_if _ _ _ _ (by rw [g0]; rfl)
  have far : ∀ b, b < w.heap.size + 1 → (w5.setCell ⟨w.heap.size + 1, 0, none⟩ (.slice A5 (j + 1) c5)).heap[b]? = w5.heap[b]? := fun b hb => Below.heap_setCell _ _ _ _ (by show b ≠ w.heap.size + 1; omega)
  refine ⟨A5, j + 1, c5, vs ++ [⟨some ⟨wr.heap.size, 0, none⟩, 128, 128⟩], ?_, ?_, ?_, ?_, ?_, fun i => ?_, fun i => ?_, ?_, by simp [hvl], fun i v hv => ?_, ?_⟩
  · rw [st, if_pos rfl]
  · rw [st, if_neg (by simp), cl _ _ (by omega), c1]
  · rw [st, if_neg (by simp), cl _ _ (by omega), c2]
  · rw [st, if_neg (by simp), cl _ _ (by omega), c3]
  · simpa [go_sem] using g1
  · rw [rc i, ← cl _ i (by omega)]
    exact (World.cell?_of_block (a := ⟨w.heap.size, i, none⟩) (far _ (by show w.heap.size < _; omega))).symm
  · rw [← rf i, ← fl _ i (by omega)]
    exact World.frozen?_of_block (a := ⟨w.heap.size, i, none⟩) (far _ (by show w.heap.size < _; omega))
  · exact Go.RowKit.ownsRow_setCell_below k1 (by show w.heap.size + 1 < _; omega) _
  · have hnew : ∀ q, (Value.slice A5 (j + 1) c5).ownBlock = some q → (Value.slice A m c).ownBlock = some q ∨ q = wr.heap.size + 2 := fun q hq => by
      rcases k3 with h | h
      · exact .inl (h.symm.trans hq)
      · rw [h] at hq; injection hq with hq; right; omega
    have main : By w5 (fun b => (w.heap.size + 2 ≤ b ∧ ∀ q, (Value.slice A5 (j + 1) c5).ownBlock = some q → b ≠ q)) v zeroSec := by
      rcases Nat.lt_or_ge i vs.length with hi | hi
      · rw [List.getElem?_append_left hi] at hv
        have h1 := (hby i v hv).mono2 (Q := fun b => b < wr.heap.size ∧ w.heap.size + 2 ≤ b ∧ ∀ q, (Value.slice A m c).ownBlock = some q → b ≠ q) (fun b h hl => ⟨hl, h⟩)
        have h2 := h1.step BA
        have h3 := h2.keep (Kp.of_grown2 k2 (fun b h e => h.2.2 b e.symm rfl))
        exact h3.mono (fun b h => ⟨h.2.1, fun q hq e => by
          rcases hnew q hq with h4 | h4
          · exact h.2.2 q h4 e
          · have := h.1; omega⟩)
      · rw [List.getElem?_append_right hi] at hv
        have : v = ⟨some ⟨wr.heap.size, 0, none⟩, 128, 128⟩ := by
          have := List.mem_of_getElem? hv
          simpa using this
        subst this
        have h1 : By W2 (fun b => b = wr.heap.size) ⟨some ⟨wr.heap.size, 0, none⟩, 128, 128⟩ zeroSec := ⟨⟨hz2.1.1, hz2.1.2.1, hz2.1.2.2.1, hz2.1.2.2.2.1, hz2.1.2.2.2.2.1, fun _ a e => by cases e; rfl⟩, hz2.2⟩
        have h3 := h1.keep (Kp.of_grown2 k2 (fun b h e => by have := own_hi _ e.symm; omega))
        exact h3.mono (fun b h => ⟨by omega, fun q hq e => by
          rcases hnew q hq with h4 | h4
          · have := own_hi _ h4; omega
          · omega⟩)
    exact main.keep (Kp.setCell (P := fun b => (w.heap.size + 2 ≤ b ∧ ∀ q, (Value.slice A5 (j + 1) c5).ownBlock = some q → b ≠ q)) ⟨Nat.le_refl _, fun _ _ _ => rfl⟩ (fun h => by have := h.1; simp at this) _)
  · have hb5 : Below w.heap.size w w5 := (hB.trans (BA.mono (by omega))).grown k2 (by omega) (fun q hq => by have := own_lo q hq; omega)
    exact hb5.setCell (by show w.heap.size ≤ w.heap.size + 1; omega) _

end Go.Proofs.Ytgbkhmoplocmkaa
