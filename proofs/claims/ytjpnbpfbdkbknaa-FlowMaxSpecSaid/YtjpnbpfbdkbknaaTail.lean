/- A row of the call's own that is read at its head and appended to at its end (q = q[1:]; q = append(q, x)). -/
import Derived.Test.YtjpnbpfbdkbknaaAppLib
import Derived.Test.YtjpnbpfbdkbknaaSeq
import Derived.ArgAppend
import Derived.Laws.Rows
namespace Go.Proofs.Ytjpnbpfbdkbknaa
open Go.RowKit
set_option linter.unusedSimpArgs false
set_option linter.unusedVariables false
attribute [local go_sem] Oper.semAt_some

/-- v is a part of a row of the call's own, up to the row's room; it holds the values xs -/
def Tail (w : World) (base : Nat) (e : TypeId) (v : Value) (xs : List Value) : Prop :=
  ∃ g off cap cs, v = .slice (some ⟨g, off, none⟩) xs.length cap ∧ base ≤ g ∧ w.heap[g]? = some (.cells cs e (0, 0)) ∧ xs.length ≤ cap ∧ cap ≤ maxLen ∧ off + cap ≤ cs.size ∧ ∀ i x, xs[i]? = some x → cs[off + i]? = some x
section
variable {w w' : World} {base : Nat} {e : TypeId} {v : Value} {xs : List Value} {P : Program}
theorem Tail.kept (h : Tail w base e v xs) {row : Option Nat} (hg : w.grownBy w' row) (hr : ∀ g, v.ownBlock = some g → row ≠ some g) : Tail w' base e v xs := by
  obtain ⟨g, off, cap, cs, rfl, h2, h3, h4⟩ := h
  refine ⟨g, off, cap, cs, rfl, h2, ?_, h4⟩
  rw [hg.block g (Array.getElem?_eq_some_iff.1 h3).1 (fun e => hr g rfl e.symm)]
  exact h3
theorem Tail.of_block (h : Tail w base e v xs) (hg : ∀ g, v.ownBlock = some g → w'.heap[g]? = w.heap[g]?) : Tail w' base e v xs := by
  obtain ⟨g, off, cap, cs, rfl, h2, h3, h4⟩ := h
  exact ⟨g, off, cap, cs, rfl, h2, (hg g rfl).trans h3, h4⟩
theorem Tail.lt (h : Tail w base e v xs) : ∀ g, v.ownBlock = some g → base ≤ g ∧ g < w.heap.size := by
  obtain ⟨g, off, cap, cs, rfl, h2, h3, h4⟩ := h
  intro g' e'
  simp [Value.ownBlock] at e'
  subst e'
  exact ⟨h2, (Array.getElem?_eq_some_iff.1 h3).1⟩
theorem Tail.cells (h : Tail w base e v xs) : ∀ g, v.ownBlock = some g → ∃ o, w.heap[g]? = some o ∧ o.isCells = true := by
  obtain ⟨g, off, cap, cs, rfl, h2, h3, h4⟩ := h
  intro g' e'
  simp [Value.ownBlock] at e'
  subst e'
  exact ⟨_, h3, rfl⟩
theorem Tail.one (w : World) (x : Value) (e : TypeId) (base : Nat) (hb : base ≤ w.heap.size) : Tail (w.alloc (.cells #[x] e)) base e (.slice (some ⟨w.heap.size, 0, none⟩) 1 1) [x] :=
  ⟨w.heap.size, 0, 1, #[x], rfl, hb, heap_alloc_new w _, by simp, by decide, by simp, fun i y hi => by
    cases i with
    | zero => simpa using hi
    | succ i => simp at hi⟩
/-- the head, and what is left -/
theorem Tail.head {x : Value} (h : Tail w base e v (x :: xs)) : ∃ g off cap, v = .slice (some ⟨g, off, none⟩) (xs.length + 1) cap ∧ xs.length + 1 ≤ cap ∧ cap ≤ maxLen ∧ g < w.heap.size ∧ w.cell? ⟨g, off, none⟩ = some x ∧
    Tail w base e (.slice (if cap = 1 then some ⟨g, off, none⟩ else (some (⟨g, off, none⟩ : Addr)).map (·.add (1 * 1))) (xs.length + 1 - 1) (cap - 1)) xs := by
  obtain ⟨g, off, cap, cs, rfl, h2, h3, h4, h5, h6, h7⟩ := h
  simp only [List.length_cons] at h4
  refine ⟨g, off, cap, rfl, h4, h5, (Array.getElem?_eq_some_iff.1 h3).1, ?_, ?_⟩
  · have := h7 0 x rfl
    simp only [World.cell?, h3, Nat.add_zero] at this ⊢
    exact this
  · by_cases hc : cap = 1
    · rw [if_pos hc]
      have : xs = [] := List.eq_nil_of_length_eq_zero (by omega)
      subst this
      exact ⟨g, off, cap - 1, cs, rfl, h2, h3, by simp, by omega, by omega, fun i y hi => by simp at hi⟩
    · rw [if_neg hc]
      refine ⟨g, off + 1, cap - 1, cs, by simp [Go.WideShapes.add_plain], h2, h3, by omega, by omega, by omega, fun i y hi => ?_⟩
      have := h7 (i + 1) y (by simpa using hi)
      rw [← this]
      congr 1
      omega
/-- one more -/
theorem Tail.append (t ty : TypeId) (i : TypeInfo) (z : Value) (bytes : Nat) (ht : P.underlying t = some (.slice e)) (hi : P.info? e = some i) (hz : i.zero = some z) (hsize : i.size = 1) (hby : i.bytes = bytes) (hzs : z.cells.size = 1)
    (h : Tail w base e v xs) (x : Value) (hx1 : x.oneCell' = true) (ab ao c : Nat) (hx : w.cell? ⟨ab, ao, none⟩ = some x) (h63 : xs.length + 1 ≤ maxLen) (hbytes : (xs.length + 1) * bytes ≤ 140737488355328) (hbase : base ≤ w.heap.size) :
    ∃ v' w', (Builtin.append_ #[t, t] ty #[v, .slice (some ⟨ab, ao, none⟩) 1 c]).run P w = .ok v' w' ∧ Tail w' base e v' (xs ++ [x]) ∧ w.grownBy w' v.ownBlock ∧ (v'.ownBlock = v.ownBlock ∨ ∃ k, v'.ownBlock = some k ∧ w.heap.size ≤ k) := by
  obtain ⟨g, off, cap, cs, rfl, h2, h3, h4, h5, h6, h7⟩ := h
  have hnews : ∀ j u, [x][j]? = some u → w.cell? ((⟨ab, ao, none⟩ : Addr).add j) = some u := by
    intro j u hj
    cases j with
    | zero => simp at hj; subst hj; rw [Go.WideShapes.add_plain]; exact hx
    | succ j => simp at hj
  by_cases hr : xs.length + 1 ≤ cap
  · have hrun := run_append_room_cells (P := P) w t ty e i ht hi g off xs.length cap ⟨ab, ao, none⟩ 1 c [x] (by simp [hsize]) hnews (by intro u hu; simp at hu; subst hu; exact hx1) hr
      (by
        intro j hj
        simp at hj
        subst hj
        simp only [World.cell?, h3, hsize, Nat.mul_one, Nat.add_zero]
        have : off + xs.length < cs.size := by omega
        simp [this])
      (by
        intro j hj
        simp at hj
        subst hj
        simp [World.frozen?, h3])
    simp only [hsize, Nat.mul_one, World.setCells] at hrun
    refine ⟨_, _, hrun, ⟨g, off, cap, cs.setIfInBounds (off + xs.length) x, by simp, h2, ?_, by simpa using hr, h5, by simpa using h6, fun j y hj => ?_⟩, ?_, .inl rfl⟩
    · exact heap_setCell_same w g (off + xs.length) cs e x h3
    · rw [Array.getElem?_setIfInBounds]
      by_cases hjl : j < xs.length
      · rw [if_neg (by omega)]
        rw [List.getElem?_append_left hjl] at hj
        exact h7 j y hj
      · have hjl2 := (List.getElem?_eq_some_iff.1 hj).1
        simp at hjl2
        obtain rfl : j = xs.length := by omega
        rw [if_pos rfl, if_pos (by omega)]
        simp at hj
        rw [hj]
    · exact ⟨rfl, rfl, rfl, by simp [World.setCell], fun k hk hne => Below.heap_setCell _ _ _ _ (fun e => hne (by rw [e]; rfl))⟩
  · have hol : ∀ j u, xs[j]? = some u → w.cell? ((⟨g, off, none⟩ : Addr).add j) = some u := by
      intro j u hj
      rw [Go.WideShapes.add_plain]
      have := h7 j u hj
      simp only [World.cell?, h3]
      exact this
    obtain ⟨v', w', hrun, h8, h9⟩ := run_append_arg_grows (P := P) w t ty e i z 1 bytes ht hi hz hsize hby hzs (by decide) ⟨g, off, none⟩ xs.length cap xs (by simp) hol ⟨ab, ao, none⟩ 1 c [x] (by simp) hnews (by omega) h63 hbytes
    refine ⟨v', w', hrun, ?_, ⟨h9.os, h9.tape, h9.output, h9.size, fun k hk _ => h9.block k hk (by simp)⟩, ?_⟩
    · rcases h8.2 with ⟨_, h10⟩ | ⟨g', cap', cur, rfl, h10, h11, h12, h13, h14, h15⟩
      · omega
      · refine ⟨g', 0, cap', cur, by simp, by omega, h11, by simpa using h12, h13, by omega, fun j y hj => ?_⟩
        rw [← h15, List.getElem?_take] at hj
        split at hj
        · rw [Nat.zero_add, ← Array.getElem?_toList]; exact hj
        · cases hj
    · rcases h8.2 with ⟨_, h10⟩ | ⟨g', cap', cur, rfl, h10, h11, h12, h13, h14, h15⟩
      · omega
      · exact .inr ⟨g', rfl, h10⟩
theorem wpListIn_append_tail {F : Fence} {n : Nat} {ops : Array Oper} {rest : List Oper} {o : Oper} {a : Act} {Q : Exit → Act → World → Prop} (hgd : o.guard = none) (s x : Operand) (t : TypeId)
    (ho : o.op = .call { callee := .builtin .append, args := #[s, x], argTypes := #[t, t] }) (i : TypeInfo) (z : Value) (bytes : Nat) (ht : P.underlying t = some (.slice e)) (hi : P.info? e = some i) (hz : i.zero = some z) (hsize : i.size = 1) (hby : i.bytes = bytes) (hzs : z.cells.size = 1)
    (hs : a.eval s = v) (h : Tail w base e v xs) (y : Value) (hy1 : y.oneCell' = true) (ab ao c : Nat) (hx : a.eval x = .slice (some ⟨ab, ao, none⟩) 1 c) (hxc : w.cell? ⟨ab, ao, none⟩ = some y) (h63 : xs.length + 1 ≤ maxLen) (hbytes : (xs.length + 1) * bytes ≤ 140737488355328) (hbase : base ≤ w.heap.size)
    (hk : ∀ v' w', Tail w' base e v' (xs ++ [y]) → w.grownBy w' v.ownBlock → (v'.ownBlock = v.ownBlock ∨ ∃ k, v'.ownBlock = some k ∧ w.heap.size ≤ k) → wpListIn F n P ops Q rest (a.put o.dst v') w') :
    wpListIn F n P ops Q (o :: rest) a w := by
  refine wpListIn_plain hgd fun K hK => ?_
  obtain ⟨v', w', hrun, h2, h3, h4⟩ := h.append (P := P) t o.type i z bytes ht hi hz hsize hby hzs y hy1 ab ao c hxc h63 hbytes hbase
  unfold Oper.wpIn
  refine ⟨?_, ?_⟩
  · simp [Oper.about, ho, resolve, Target.leads, Sem.run_pure]
  · rw [Oper.semAt_plain F _ _ (by rw [ho]; intro c hc'; cases hc')]
    simp [execOp, ho, resolve, invoke, builtin, hs, hx, hrun, Result.andThen]
    exact hK _ _ (hk v' w' h2 h3 h4)
end
end Go.Proofs.Ytjpnbpfbdkbknaa
