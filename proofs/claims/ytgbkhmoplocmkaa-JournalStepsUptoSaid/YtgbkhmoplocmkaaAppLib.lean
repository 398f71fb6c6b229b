/- Slices that the call itself makes and appends to: elements of sz cells each, said as lists. -/
import Derived.Test.YtgbkhmoplocmkaaLib
import Derived.Maps.AppendAt
namespace Go.Proofs.Ytgbkhmoplocmkaa
open Go.RowKit

/-- a halt of the walk's driver at an operation that is met by hand -/
def Stop (p : Prop) : Prop := p
theorem stop_mk {p : Prop} (h : Stop p) : p := h
theorem stop_out {p : Prop} (h : p) : Stop p := h

theorem flat_length {α : Type} {en : α → List Value} {sz : Nat} (hen : ∀ y, (en y).length = sz) : ∀ ys : List α, (ys.flatMap en).length = ys.length * sz
  | [] => by simp
  | y :: ys => by simp [flat_length hen ys, hen y, Nat.add_mul, Nat.add_comm]
theorem flat_get {α : Type} {en : α → List Value} {sz : Nat} (hen : ∀ y, (en y).length = sz) : ∀ (ys : List α) (i : Nat) (y : α) (j : Nat) (u : Value), ys[i]? = some y → (en y)[j]? = some u → (ys.flatMap en)[i * sz + j]? = some u
  | [], i, y, j, u, h, _ => by simp at h
  | x :: ys, 0, y, j, u, h, hj => by
    simp at h; subst h
    simp only [List.flatMap_cons, Nat.zero_mul, Nat.zero_add]
    rw [List.getElem?_append_left (List.getElem?_eq_some_iff.1 hj).1]
    exact hj
  | x :: ys, i + 1, y, j, u, h, hj => by
    simp only [List.flatMap_cons]
    have e : (i + 1) * sz + j = (en x).length + (i * sz + j) := by rw [hen x, Nat.add_mul]; omega
    rw [e, List.getElem?_append_right (by omega), Nat.add_sub_cancel_left]
    exact flat_get hen ys i y j u (by simpa using h) hj
theorem flat_at {α : Type} {en : α → List Value} {sz : Nat} (hen : ∀ y, (en y).length = sz) (hsz : 0 < sz) : ∀ (ys : List α) (k : Nat) (u : Value), (ys.flatMap en)[k]? = some u → ∃ y, ys[k / sz]? = some y ∧ (en y)[k % sz]? = some u := by
  intro ys k u h
  have hl : k < ys.length * sz := by rw [← flat_length hen]; exact (List.getElem?_eq_some_iff.1 h).1
  have hi : k / sz < ys.length := Nat.div_lt_of_lt_mul (by rw [Nat.mul_comm]; exact hl)
  have hj : k % sz < (en ys[k / sz]).length := by rw [hen]; exact Nat.mod_lt _ hsz
  refine ⟨ys[k / sz], List.getElem?_eq_getElem hi, ?_⟩
  have := flat_get hen ys (k / sz) _ (k % sz) _ (List.getElem?_eq_getElem hi) (List.getElem?_eq_getElem hj)
  rw [Nat.div_add_mod' k sz, h] at this
  rw [List.getElem?_eq_getElem hj, ← this]

/-- the slice value v is nil or the call's own row (a block from base on) and holds the elements ys -/
def Owns {α : Type} (w : World) (base : Nat) (e : TypeId) (sz : Nat) (en : α → List Value) (v : Value) (ys : List α) : Prop :=
  w.ownsRow base e sz v ys.length (ys.flatMap en)

section
variable {α : Type} {w w' : World} {base : Nat} {e : TypeId} {sz : Nat} {en : α → List Value} {v : Value} {ys : List α}
theorem Owns.nil_ (w : World) (base : Nat) (e : TypeId) (sz : Nat) (en : α → List Value) : Owns w base e sz en (.slice none 0 0) [] := ⟨by simp, .inl ⟨rfl, rfl⟩⟩
theorem Owns.alloc (h : Owns w base e sz en v ys) (o : Obj) : Owns (w.alloc o) base e sz en v ys := World.ownsRow.alloc h o
theorem Owns.lit (hen : ∀ y, (en y).length = sz) {cs : Array Value} (hcs : cs.toList = ys.flatMap en) (hb : base ≤ w.heap.size) (hm : ys.length ≤ maxLen) :
    Owns (w.alloc (.cells cs e)) base e sz en (.slice (some ⟨w.heap.size, 0, none⟩) ys.length ys.length) ys := by
  unfold Owns
  rw [← hcs]
  exact World.ownsRow_lit w cs ys.length hb hm (by have := flat_length hen ys; rw [← hcs] at this; simpa using this)
theorem Owns.form (h : Owns w base e sz en v ys) : (v = .slice none 0 0 ∧ ys = []) ∨ ∃ g cap, v = .slice (some ⟨g, 0, none⟩) ys.length cap ∧ base ≤ g ∧ g < w.heap.size ∧ cap ≤ maxLen ∧ ys.length ≤ cap := by
  rcases h.2 with ⟨h1, h2⟩ | ⟨g, cap, cur, h1, h2, h3, h4, h5, _⟩
  · exact .inl ⟨h1, List.eq_nil_of_length_eq_zero h2⟩
  · exact .inr ⟨g, cap, h1, h2, (Array.getElem?_eq_some_iff.1 h3).1, h5, h4⟩
theorem Owns.reads (hen : ∀ y, (en y).length = sz) {A : Option Addr} {n c : Nat} (h : Owns w base e sz en (.slice A n c) ys) : Reads w w.heap.size A sz en ys := fun hn => by
  rcases h.form with ⟨_, rfl⟩ | ⟨g, cap, hv, _, hlt, _⟩
  · simp at hn
  · simp only [Value.slice.injEq] at hv
    obtain ⟨rfl, rfl, rfl⟩ := hv
    refine ⟨g, 0, rfl, hlt, fun i x j u hi hj => ?_⟩
    have hil : i < ys.length := (List.getElem?_eq_some_iff.1 hi).1
    have hjl : j < sz := by rw [← hen x]; exact (List.getElem?_eq_some_iff.1 hj).1
    have hlt2 : i * sz + j < ys.length * sz := by
      have : (i + 1) * sz ≤ ys.length * sz := Nat.mul_le_mul_right _ hil
      rw [Nat.add_mul] at this; omega
    have := World.ownsRow.cellAt h (i * sz + j) hlt2
    rw [Nat.zero_add, this]
    exact flat_get hen ys i x j u hi hj
theorem Owns.shape (h : Owns w base e sz en v ys) : ∃ A c, v = .slice A ys.length c ∧ (A = none → c = 0) ∧ ys.length ≤ maxLen := by
  rcases h.form with ⟨rfl, rfl⟩ | ⟨g, cap, rfl, _, _, hm, hl⟩
  · exact ⟨none, 0, rfl, fun _ => rfl, by simp⟩
  · exact ⟨_, cap, rfl, (fun h => by cases h), by omega⟩
theorem Owns.kept (h : Owns w base e sz en v ys) {row : Option Nat} (hg : w.grownBy w' row) (hr : ∀ g, v.ownBlock = some g → row ≠ some g) : Owns w' base e sz en v ys := by
  refine ⟨h.1, ?_⟩
  rcases h.2 with h1 | ⟨g, cap, cur, h1, h2, h3, h4⟩
  · exact .inl h1
  · refine .inr ⟨g, cap, cur, h1, h2, ?_, h4⟩
    rw [hg.block g (Array.getElem?_eq_some_iff.1 h3).1 (fun e => hr g (by rw [h1]; rfl) e.symm)]
    exact h3
theorem Owns.base_le (h : Owns w base e sz en v ys) : ∀ k, v.ownBlock = some k → base ≤ k := by
  intro k hk
  rcases h.form with ⟨rfl, _⟩ | ⟨g, cap, rfl, hg, _⟩
  · cases hk
  · simp [Value.ownBlock] at hk; omega
theorem Owns.lt (h : Owns w base e sz en v ys) : ∀ k, v.ownBlock = some k → k < w.heap.size := by
  intro k hk
  rcases h.form with ⟨rfl, _⟩ | ⟨g, cap, rfl, _, hg, _⟩
  · cases hk
  · simp [Value.ownBlock] at hk; omega
/-- a cell that lay outside the row is there behind the append -/
theorem Owns.far (h : Owns w base e sz en v ys) {W W' : World} (hg : W.grownBy W' v.ownBlock) {b : Nat} (hb : w.heap.size ≤ b) (hb2 : b < W.heap.size) (o : Nat) : W'.cell? ⟨b, o, none⟩ = W.cell? ⟨b, o, none⟩ :=
  World.cell?_of_block (a := ⟨b, o, none⟩) (hg.block b hb2 (fun e => by have := h.lt b e.symm; omega))
/-- across a call that keeps all that lay there -/
theorem Owns.below (h : Owns w base e sz en v ys) {B : Nat} (hb : Below B w w') (hB : w.heap.size ≤ B) : Owns w' base e sz en v ys := by
  refine ⟨h.1, ?_⟩
  rcases h.2 with h1 | ⟨g, cap, cur, h1, h2, h3, h4⟩
  · exact .inl h1
  · refine .inr ⟨g, cap, cur, h1, h2, ?_, h4⟩
    have := (Array.getElem?_eq_some_iff.1 h3).1
    rw [hb.block g (by omega)]
    exact h3
end

theorem any_snoc {α : Type} {xs : List α} {p : α → Bool} {k : Nat} {x : α} (h : xs[k]? = some x) : (xs.take (k + 1)).any p = ((xs.take k).any p || p x) := by
  have hl := (List.getElem?_eq_some_iff.1 h).1
  have hx : xs[k] = x := (List.getElem?_eq_some_iff.1 h).2
  rw [List.take_succ_eq_append_getElem hl, List.any_append, hx]
  simp

theorem filter_snoc {α : Type} {xs : List α} {p : α → Bool} {k : Nat} {x : α} (h : xs[k]? = some x) : (xs.take (k + 1)).filter p = (xs.take k).filter p ++ (if p x then [x] else []) := by
  have hl := (List.getElem?_eq_some_iff.1 h).1
  have hx : xs[k] = x := (List.getElem?_eq_some_iff.1 h).2
  rw [List.take_succ_eq_append_getElem hl, List.filter_append, hx]
  simp [List.filter_cons]

section
variable {P : Program}

theorem run_append_reads {α : Type} (w : World) {en : α → List Value} {sz : Nat} (hen : ∀ y, (en y).length = sz) (h1 : ∀ y, ∀ u ∈ en y, u.oneCell' = true)
    (base : Nat) (t ty e : TypeId) (i : TypeInfo) (z : Value) (bytes : Nat) (ht : P.underlying t = some (.slice e)) (hi : P.info? e = some i) (hz : i.zero = some z)
    (hsize : i.size = sz) (hby : i.bytes = bytes) (hzs : z.cells.size = sz) (hsz : 0 < sz)
    (v : Value) (ys : List α) (hown : Owns w base e sz en v ys) (B : Nat) (A : Option Addr) (c : Nat) (xs : List α) (hr : Reads w B A sz en xs) (hnil : A = none → c = 0)
    (h63 : ys.length + xs.length ≤ maxLen) (hbytes : (ys.length + xs.length) * bytes ≤ 140737488355328) (hbase : base ≤ w.heap.size) :
    ∃ v' w', (Builtin.append_ #[t, t] ty #[v, .slice A xs.length c]).run P w = .ok v' w' ∧ Owns w' base e sz en v' (ys ++ xs) ∧ w.grownBy w' v.ownBlock ∧
      (v'.ownBlock = v.ownBlock ∨ v'.ownBlock = some w.heap.size) ∧ (v' = .slice none 0 0 ↔ v = .slice none 0 0 ∧ xs = []) := by
  rcases A with _ | ad
  · have hc := hnil rfl
    subst hc
    have hx : xs = [] := by
      rcases Nat.eq_zero_or_pos xs.length with h0 | h0
      · exact List.eq_nil_of_length_eq_zero h0
      · obtain ⟨b, off, h, _⟩ := hr h0
        cases h
    subst hx
    exact ⟨v, w, run_append_owned_none w base t ty e i sz ht hi v ys.length _ hown, by simpa using hown, World.grownBy.refl w _, .inl rfl, by simp⟩
  · have hcells : ∀ j u, (xs.flatMap en)[j]? = some u → w.cell? (ad.add j) = some u := by
      intro j u hu
      obtain ⟨y, hy, hj⟩ := flat_at hen hsz xs j u hu
      have hpos : 0 < xs.length := Nat.lt_of_le_of_lt (Nat.zero_le _) (List.getElem?_eq_some_iff.1 hy).1
      obtain ⟨b, off, h, _, hc⟩ := hr hpos
      injection h with h
      subst h
      have := hc _ _ _ _ hy hj
      rw [Go.WideShapes.add_plain]
      rw [Nat.add_assoc, Nat.div_add_mod'] at this
      exact this
    obtain ⟨v', w', hrun, h2, h3, h4, h5⟩ := run_append_own_at (P := P) w base t ty e i z sz bytes ht hi hz hsize hby hzs hsz v ys.length _ hown ad xs.length c (xs.flatMap en) (flat_length hen xs) hcells
      (fun u hu => by obtain ⟨y, _, hy⟩ := List.mem_flatMap.1 hu; exact h1 y u hy) h63 hbytes hbase
    refine ⟨v', w', hrun, ?_, h3, h5, ?_⟩
    · unfold Owns
      rw [List.length_append, List.flatMap_append]
      exact h2
    · rw [h4]
      exact ⟨fun ⟨a, b⟩ => ⟨a, List.eq_nil_of_length_eq_zero b⟩, fun ⟨a, b⟩ => ⟨a, by rw [b]; rfl⟩⟩

theorem wpList_append_reads {α : Type} (w : World) {en : α → List Value} {sz : Nat} {ops : Array Oper} {rest : List Oper} {o : Oper} {a : Act} {Q : Exit → Act → World → Prop} (hgd : o.guard = none) (s x : Operand) (t : TypeId)
    (ho : o.op = .call { callee := .builtin .append, args := #[s, x], argTypes := #[t, t] }) (hen : ∀ y, (en y).length = sz) (h1 : ∀ y, ∀ u ∈ en y, u.oneCell' = true)
    (base : Nat) (e : TypeId) (i : TypeInfo) (z : Value) (bytes : Nat) (ht : P.underlying t = some (.slice e)) (hi : P.info? e = some i) (hz : i.zero = some z)
    (hsize : i.size = sz) (hby : i.bytes = bytes) (hzs : z.cells.size = sz) (hsz : 0 < sz)
    (v : Value) (ys : List α) (hs : a.eval s = v) (hown : Owns w base e sz en v ys) (B : Nat) (A : Option Addr) (c : Nat) (xs : List α) (hx : a.eval x = .slice A xs.length c) (hr : Reads w B A sz en xs) (hnil : A = none → c = 0)
    (h63 : ys.length + xs.length ≤ maxLen) (hbytes : (ys.length + xs.length) * bytes ≤ 140737488355328) (hbase : base ≤ w.heap.size)
    (h : ∀ v' w', Owns w' base e sz en v' (ys ++ xs) → w.grownBy w' v.ownBlock → (v'.ownBlock = v.ownBlock ∨ v'.ownBlock = some w.heap.size) → (v' = .slice none 0 0 ↔ v = .slice none 0 0 ∧ xs = []) → wpList P ops Q rest (a.put o.dst v') w') :
    wpList P ops Q (o :: rest) a w := by
  refine wpList_plain hgd fun K hK => ?_
  obtain ⟨v', w', hrun, h2, h3, h4, h5⟩ := run_append_reads (P := P) w hen h1 base t o.type e i z bytes ht hi hz hsize hby hzs hsz v ys hown B A c xs hr hnil h63 hbytes hbase
  unfold Oper.wp execOp
  simp only [ho, resolve, invoke, builtin, Sem.run_bind, Sem.run_pure, Result.andThen_ok, List.map_toArray, List.map_cons, List.map_nil, hs, hx, hrun]
  exact hK _ _ (h v' w' h2 h3 h4 h5)
end
end Go.Proofs.Ytgbkhmoplocmkaa
