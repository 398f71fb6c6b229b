/- TopDegree, what its proof leans on: the texts AppLib, Quiet, Seq, Hdr. -/
import Derived.Test.YtalmbigebjbaoaaGreatDoorM01
import Derived.Maps.AppendAt
import Derived.BigQuiet
import Derived.RangeFuncNested
import Derived.RangeFuncBound
import Derived.RangeFuncCalls
import Derived.RangeFuncLeaves
import Derived.RangeFuncBox
import Derived.Shelf.Abstract
import Derived.Shelf.RegionOpen
import Derived.OwnWalkIn
import Derived.TacticsInMore
import Derived.LoopNIn
import Derived.LoopIn
import Derived.Laws.Rows
namespace Go.Proofs.YtalmbigebjbaoaaGreatDoor
open Go.RowKit
def Stop (p : Prop) : Prop := p
theorem stop_mk {p : Prop} (h : Stop p) : p := h
theorem stop_out {p : Prop} (h : p) : Stop p := h
theorem flat_length {α : Type} {en : α → List Value} {sz : Nat} (hen : ∀ y, (en y).length = sz) : ∀ ys : List α, (ys.flatMap en).length = ys.length * sz
 | [] => by simp
 | y :: ys => by simp [flat_length hen ys, hen y, Nat.add_mul, Nat.add_comm]
theorem flat_get {α : Type} {en : α → List Value} {sz : Nat} (hen : ∀ y, (en y).length = sz) : ∀ (ys : List α) (i : Nat) (y : α) (j : Nat) (u : Value), ys[i]? = some y → (en y)[j]? = some u → (ys.flatMap en)[i * sz + j]? = some u
 | [], i, y, j, u, h, _ => by simp at h
 | x :: ys, 0, y, j, u, h, hj => by
   simp at h; subst h
   simp only [List.flatMap_cons, Nat.zero_mul, Nat.zero_add]
   rw [List.getElem?_append_left (List.getElem?_eq_some_iff.1 hj).1]
   exact hj
 | x :: ys, i + 1, y, j, u, h, hj => by
   simp only [List.flatMap_cons]
   have e : (i + 1) * sz + j = (en x).length + (i * sz + j) := by rw [hen x, Nat.add_mul]; omega
   rw [e, List.getElem?_append_right (by omega), Nat.add_sub_cancel_left]
   exact flat_get hen ys i y j u (by simpa using h) hj
theorem flat_at {α : Type} {en : α → List Value} {sz : Nat} (hen : ∀ y, (en y).length = sz) (hsz : 0 < sz) : ∀ (ys : List α) (k : Nat) (u : Value), (ys.flatMap en)[k]? = some u → ∃ y, ys[k / sz]? = some y ∧ (en y)[k % sz]? = some u := by
 intro ys k u h
 have hl : k < ys.length * sz := by rw [← flat_length hen]; exact (List.getElem?_eq_some_iff.1 h).1
 have hi : k / sz < ys.length := Nat.div_lt_of_lt_mul (by rw [Nat.mul_comm]; exact hl)
 have hj : k % sz < (en ys[k / sz]).length := by rw [hen]; exact Nat.mod_lt _ hsz
 refine ⟨ys[k / sz], List.getElem?_eq_getElem hi, ?_⟩
 have := flat_get hen ys (k / sz) _ (k % sz) _ (List.getElem?_eq_getElem hi) (List.getElem?_eq_getElem hj)
 rw [Nat.div_add_mod' k sz, h] at this
 rw [List.getElem?_eq_getElem hj, ← this]
def Owns {α : Type} (w : World) (base : Nat) (e : TypeId) (sz : Nat) (en : α → List Value) (v : Value) (ys : List α) : Prop :=
 w.ownsRow base e sz v ys.length (ys.flatMap en)
section
variable {α : Type} {w w' : World} {base : Nat} {e : TypeId} {sz : Nat} {en : α → List Value} {v : Value} {ys : List α}
theorem Owns.nil_ (w : World) (base : Nat) (e : TypeId) (sz : Nat) (en : α → List Value) : Owns w base e sz en (.slice none 0 0) [] := ⟨by simp, .inl ⟨rfl, rfl⟩⟩
theorem Owns.alloc (h : Owns w base e sz en v ys) (o : Obj) : Owns (w.alloc o) base e sz en v ys := World.ownsRow.alloc h o
theorem Owns.lit (hen : ∀ y, (en y).length = sz) {cs : Array Value} (hcs : cs.toList = ys.flatMap en) (hb : base ≤ w.heap.size) (hm : ys.length ≤ maxLen) :
 Owns (w.alloc (.cells cs e)) base e sz en (.slice (some ⟨w.heap.size, 0, none⟩) ys.length ys.length) ys := by
 unfold Owns
 rw [← hcs]
 exact World.ownsRow_lit w cs ys.length hb hm (by have := flat_length hen ys; rw [← hcs] at this; simpa using this)
theorem Owns.form (h : Owns w base e sz en v ys) : (v = .slice none 0 0 ∧ ys = []) ∨ ∃ g cap, v = .slice (some ⟨g, 0, none⟩) ys.length cap ∧ base ≤ g ∧ g < w.heap.size ∧ cap ≤ maxLen ∧ ys.length ≤ cap := by
 rcases h.2 with ⟨h1, h2⟩ | ⟨g, cap, cur, h1, h2, h3, h4, h5, _⟩
 ·exact .inl ⟨h1, List.eq_nil_of_length_eq_zero h2⟩
 ·exact .inr ⟨g, cap, h1, h2, (Array.getElem?_eq_some_iff.1 h3).1, h5, h4⟩
theorem Owns.reads (hen : ∀ y, (en y).length = sz) {A : Option Addr} {n c : Nat} (h : Owns w base e sz en (.slice A n c) ys) : Reads w w.heap.size A sz en ys := fun hn => by
 rcases h.form with ⟨_, rfl⟩ | ⟨g, cap, hv, _, hlt, _⟩
 ·simp at hn
 ·simp only [Value.slice.injEq] at hv
  obtain ⟨rfl, rfl, rfl⟩ := hv
  refine ⟨g, 0, rfl, hlt, fun i x j u hi hj => ?_⟩
  have hil : i < ys.length := (List.getElem?_eq_some_iff.1 hi).1
  have hjl : j < sz := by rw [← hen x]; exact (List.getElem?_eq_some_iff.1 hj).1
  have hlt2 : i * sz + j < ys.length * sz := by
   have : (i + 1) * sz ≤ ys.length * sz := Nat.mul_le_mul_right _ hil
   rw [Nat.add_mul] at this; omega
  have := World.ownsRow.cellAt h (i * sz + j) hlt2
  rw [Nat.zero_add, this]
  exact flat_get hen ys i x j u hi hj
theorem Owns.shape (h : Owns w base e sz en v ys) : ∃ A c, v = .slice A ys.length c ∧ (A = none → c = 0) ∧ ys.length ≤ maxLen := by
 rcases h.form with ⟨rfl, rfl⟩ | ⟨g, cap, rfl, _, _, hm, hl⟩
 ·exact ⟨none, 0, rfl, fun _ => rfl, by simp⟩
 ·exact ⟨_, cap, rfl, (fun h => by cases h), by omega⟩
theorem Owns.kept (h : Owns w base e sz en v ys) {row : Option Nat} (hg : w.grownBy w' row) (hr : ∀ g, v.ownBlock = some g → row ≠ some g) : Owns w' base e sz en v ys := by
 refine ⟨h.1, ?_⟩
 rcases h.2 with h1 | ⟨g, cap, cur, h1, h2, h3, h4⟩
 ·exact .inl h1
 ·refine .inr ⟨g, cap, cur, h1, h2, ?_, h4⟩
  rw [hg.block g (Array.getElem?_eq_some_iff.1 h3).1 (fun e => hr g (by rw [h1]; rfl) e.symm)]
  exact h3
theorem Owns.base_le (h : Owns w base e sz en v ys) : ∀ k, v.ownBlock = some k → base ≤ k := by
 intro k hk
 rcases h.form with ⟨rfl, _⟩ | ⟨g, cap, rfl, hg, _⟩
 ·cases hk
 ·simp [Value.ownBlock] at hk; omega
theorem Owns.lt (h : Owns w base e sz en v ys) : ∀ k, v.ownBlock = some k → k < w.heap.size := by
 intro k hk
 rcases h.form with ⟨rfl, _⟩ | ⟨g, cap, rfl, _, hg, _⟩
 ·cases hk
 ·simp [Value.ownBlock] at hk; omega
theorem Owns.below (h : Owns w base e sz en v ys) {B : Nat} (hb : Below B w w') (hB : w.heap.size ≤ B) : Owns w' base e sz en v ys := by
 refine ⟨h.1, ?_⟩
 rcases h.2 with h1 | ⟨g, cap, cur, h1, h2, h3, h4⟩
 ·exact .inl h1
 ·refine .inr ⟨g, cap, cur, h1, h2, ?_, h4⟩
  have := (Array.getElem?_eq_some_iff.1 h3).1
  rw [hb.block g (by omega)]
  exact h3
end
section
variable {P : Program}
theorem run_append_reads {α : Type} (w : World) {en : α → List Value} {sz : Nat} (hen : ∀ y, (en y).length = sz) (h1 : ∀ y, ∀ u ∈ en y, u.oneCell' = true)
 (base : Nat) (t ty e : TypeId) (i : TypeInfo) (z : Value) (bytes : Nat) (ht : P.underlying t = some (.slice e)) (hi : P.info? e = some i) (hz : i.zero = some z)
 (hsize : i.size = sz) (hby : i.bytes = bytes) (hzs : z.cells.size = sz) (hsz : 0 < sz)
 (v : Value) (ys : List α) (hown : Owns w base e sz en v ys) (B : Nat) (A : Option Addr) (c : Nat) (xs : List α) (hr : Reads w B A sz en xs) (hnil : A = none → c = 0)
 (h63 : ys.length + xs.length ≤ maxLen) (hbytes : (ys.length + xs.length) * bytes ≤ 140737488355328) (hbase : base ≤ w.heap.size) :
 ∃ v' w', (Builtin.append_ #[t, t] ty #[v, .slice A xs.length c]).run P w = .ok v' w' ∧ Owns w' base e sz en v' (ys ++ xs) ∧ w.grownBy w' v.ownBlock ∧
   (v'.ownBlock = v.ownBlock ∨ v'.ownBlock = some w.heap.size) ∧ (v' = .slice none 0 0 ↔ v = .slice none 0 0 ∧ xs = []) := by
 rcases A with _ | ad
 ·have hc := hnil rfl
  subst hc
  have hx : xs = [] := by
   rcases Nat.eq_zero_or_pos xs.length with h0 | h0
   ·exact List.eq_nil_of_length_eq_zero h0
   ·obtain ⟨b, off, h, _⟩ := hr h0
    cases h
  subst hx
  exact ⟨v, w, run_append_owned_none w base t ty e i sz ht hi v ys.length _ hown, by simpa using hown, World.grownBy.refl w _, .inl rfl, by simp⟩
 ·have hcells : ∀ j u, (xs.flatMap en)[j]? = some u → w.cell? (ad.add j) = some u := by
   intro j u hu
   obtain ⟨y, hy, hj⟩ := flat_at hen hsz xs j u hu
   have hpos : 0 < xs.length := Nat.lt_of_le_of_lt (Nat.zero_le _) (List.getElem?_eq_some_iff.1 hy).1
   obtain ⟨b, off, h, _, hc⟩ := hr hpos
   injection h with h
   subst h
   have := hc _ _ _ _ hy hj
   rw [Go.WideShapes.add_plain]
   rw [Nat.add_assoc, Nat.div_add_mod'] at this
   exact this
  obtain ⟨v', w', hrun, h2, h3, h4, h5⟩ := run_append_own_at (P := P) w base t ty e i z sz bytes ht hi hz hsize hby hzs hsz v ys.length _ hown ad xs.length c (xs.flatMap en) (flat_length hen xs) hcells
   (fun u hu => by obtain ⟨y, _, hy⟩ := List.mem_flatMap.1 hu; exact h1 y u hy) h63 hbytes hbase
  refine ⟨v', w', hrun, ?_, h3, h5, ?_⟩
  ·unfold Owns
   rw [List.length_append, List.flatMap_append]
   exact h2
  ·rw [h4]
   exact ⟨fun ⟨a, b⟩ => ⟨a, List.eq_nil_of_length_eq_zero b⟩, fun ⟨a, b⟩ => ⟨a, by rw [b]; rfl⟩⟩
theorem wpList_append_reads {α : Type} (w : World) {en : α → List Value} {sz : Nat} {ops : Array Oper} {rest : List Oper} {o : Oper} {a : Act} {Q : Exit → Act → World → Prop} (hgd : o.guard = none) (s x : Operand) (t : TypeId)
 (ho : o.op = .call { callee := .builtin .append, args := #[s, x], argTypes := #[t, t] }) (hen : ∀ y, (en y).length = sz) (h1 : ∀ y, ∀ u ∈ en y, u.oneCell' = true)
 (base : Nat) (e : TypeId) (i : TypeInfo) (z : Value) (bytes : Nat) (ht : P.underlying t = some (.slice e)) (hi : P.info? e = some i) (hz : i.zero = some z)
 (hsize : i.size = sz) (hby : i.bytes = bytes) (hzs : z.cells.size = sz) (hsz : 0 < sz)
 (v : Value) (ys : List α) (hs : a.eval s = v) (hown : Owns w base e sz en v ys) (B : Nat) (A : Option Addr) (c : Nat) (xs : List α) (hx : a.eval x = .slice A xs.length c) (hr : Reads w B A sz en xs) (hnil : A = none → c = 0)
 (h63 : ys.length + xs.length ≤ maxLen) (hbytes : (ys.length + xs.length) * bytes ≤ 140737488355328) (hbase : base ≤ w.heap.size)
 (h : ∀ v' w', Owns w' base e sz en v' (ys ++ xs) → w.grownBy w' v.ownBlock → (v'.ownBlock = v.ownBlock ∨ v'.ownBlock = some w.heap.size) → (v' = .slice none 0 0 ↔ v = .slice none 0 0 ∧ xs = []) → wpList P ops Q rest (a.put o.dst v') w') :
 wpList P ops Q (o :: rest) a w := by
 refine wpList_plain hgd fun K hK => ?_
 obtain ⟨v', w', hrun, h2, h3, h4, h5⟩ := run_append_reads (P := P) w hen h1 base t o.type e i z bytes ht hi hz hsize hby hzs hsz v ys hown B A c xs hr hnil h63 hbytes hbase
 unfold Oper.wp execOp
 simp only [ho, resolve, invoke, builtin, Sem.run_bind, Sem.run_pure, Result.andThen_ok, List.map_toArray, List.map_cons, List.map_nil, hs, hx, hrun]
 exact hK _ _ (h v' w' h2 h3 h4 h5)
end
section
variable {P : Program}
theorem quiet_val {o : Oper} {a : Act} {C : World → Prop} {K : Act → Prop} {v : Value} (h : ∀ W, C W → (execOp a.eval o).run P W = .ok (.value v) W) (hk : K (a.put o.dst v)) : o.quiet P a C K :=
 ⟨v, fun W hW => by
   unfold Oper.quietAt
   rw [h W hW]
   exact ⟨rfl, rfl⟩, hk⟩
theorem quiet_call {o : Oper} {a : Act} {C : World → Prop} {K : Act → Prop} {v : Value} {f : FuncId} {args : Array Value} (h : ∀ W, C W → (execOp a.eval o).run P W = .ok (.enter f args) W)
 (hc : ∀ W, C W → Calls P f args W fun e w' => e = .returned v ∧ C w') (hk : K (a.put o.dst v)) : o.quiet P a C K :=
 ⟨v, fun W hW => by
   unfold Oper.quietAt
   rw [h W hW]
   exact ⟨rfl, hc W hW⟩, hk⟩
theorem wp_region_below {id : Nat} {Q : Exit → Act → World → Prop} {a : Act} {w : World} {l : List Oper} (hm : P.follows .mixedOrders = true) (hB : Region.lexB .any l.toArray = true)
 (h : wpQuiet P l.toArray (fun W => Below w.heap.size w W) (fun a' => ∀ w', Below w.heap.size w w' → Q .normal a' w') l a) : (Code.region id l.toArray true).wp P Q a w :=
 wp_region_quiet (C := fun W => Below w.heap.size w W) hm hB ((Below.refl _ w).drew) (by simpa using h)
end
end Go.Proofs.YtalmbigebjbaoaaGreatDoor
namespace Go.Proofs.YtalmbigebjbaoaaGreatDoor
open Go.RowKit
set_option linter.unusedSimpArgs false
set_option linter.unusedVariables false
def Keep (B : Nat) (free : Nat → Prop) (W W' : World) : Prop := W.heap.size ≤ W'.heap.size ∧ ∀ b, b < B → ¬ free b → W'.heap[b]? = W.heap[b]?
section
variable {B : Nat} {free : Nat → Prop} {X Y Z : World}
theorem Keep.refl (B : Nat) (free : Nat → Prop) (X : World) : Keep B free X X := ⟨Nat.le_refl _, fun _ _ _ => rfl⟩
theorem Keep.trans (h : Keep B free X Y) (k : Keep B free Y Z) : Keep B free X Z := ⟨Nat.le_trans h.1 k.1, fun b hb hf => (k.2 b hb hf).trans (h.2 b hb hf)⟩
theorem Keep.alloc (h : Keep B free X Y) (hB : B ≤ Y.heap.size) (o : Obj) : Keep B free X (Y.alloc o) := h.trans ⟨by simp, fun b hb _ => Below.heap_alloc _ _ _ (by omega)⟩
theorem Keep.below (h : Keep B free X Y) {C : Nat} (hb : Below C Y Z) (hC : B ≤ C) : Keep B free X Z := h.trans ⟨hb.size, fun b hlt _ => hb.block b (by omega)⟩
theorem Keep.setCell (h : Keep B free X Y) {a : Addr} (ha : free a.block ∨ B ≤ a.block) (v : Value) : Keep B free X (Y.setCell a v) :=
 h.trans ⟨by simp [World.setCell], fun b hb hf => Below.heap_setCell _ _ _ _ (fun e => by
  subst e
  rcases ha with ha | ha
  ·exact hf ha
  ·omega)⟩
theorem Keep.grown (h : Keep B free X Y) {row : Option Nat} (hg : Y.grownBy Z row) (hB : B ≤ Y.heap.size) (hr : ∀ k, row = some k → free k ∨ B ≤ k) : Keep B free X Z :=
 h.trans ⟨hg.size, fun b hb hf => hg.block b (by omega) (fun e => by
  rcases hr b e.symm with h | h
  ·exact hf h
  ·omega)⟩
theorem Keep.putObj (h : Keep B free X Y) {l : Nat} (hl : B ≤ l) (o : Obj) : Keep B free X (Y.putObj l o) :=
 h.trans ⟨by simp, fun b hb _ => World.putObj_heap_other (by omega)⟩
theorem Keep.cell (h : Keep B free X Y) {a : Addr} (ha : a.block < B) (hf : ¬ free a.block) : Y.cell? a = X.cell? a := World.cell?_of_block (h.2 _ ha hf)
end
theorem KeepsOthers.of_below {W W' : World} (hb : Below W.heap.size W W') : KeepsOthers W W' :=
 ⟨hb.size, fun k o hk _ => (hb.block k (Array.getElem?_eq_some_iff.1 hk).1).trans hk⟩
def Steady {α : Type} (own : Nat → Prop) (J : List α → World → Prop) : Prop :=
 (∀ pre W W', J pre W → Below W.heap.size W W' → J pre W') ∧ ∀ pre W a v, J pre W → own a.block → J pre (W.setCell a v)
def Iter {α : Type} (F : Fence) (n : Nat) (P : Program) (gf : Nat) (lb : Array Value) (encs : α → Array Value) (own : Nat → Prop) (Kp : World → World → Prop) (S Sp Pr : List α → Prop) (w : World) : Prop :=
 ∀ (l : Nat) (J Jx : List α → World → Prop) (W : World), Below w.heap.size w W → Steady own J → Steady own Jx →
   (∀ pre x W1, J pre W1 → Pr (pre ++ [x]) → YieldAt F (n - 1) P l (encs x) W1 fun e W' => (e = .returned (.bool true) ∧ J (pre ++ [x]) W' ∧ Kp W1 W') ∨ (e = .returned (.bool false) ∧ Jx (pre ++ [x]) W')) →
   J [] W →
   CallsIn F n P gf (#[.func (.yield l) #[] #[]] ++ lb) W fun e W' => (∃ v, e = .returned v) ∧ ((∃ xs, S xs ∧ J xs W') ∨ (∃ pre, Sp pre ∧ Jx pre W'))
def roundPost {α : Type} (Kp : World → World → Prop) (I : List α → World → Prop) (Ix : Code → List α → World → Prop) (xs : List α) (W : World) : Exit → Act → World → Prop
 | .normal, _, W' => KeepsOthers W W' ∧ Kp W W' ∧ I xs W'
 | .ret, _, W' => KeepsOthers W W' ∧ Ix .ret xs W'
 | .exit id, _, W' => KeepsOthers W W' ∧ Ix (.exit id) xs W'
 | .goto t, _, W' => KeepsOthers W W' ∧ Ix (.goto t) xs W'
 | .panic _, _, _ => False
 | .outgrown, _, _ => False
theorem grownBy_of_below {W W' : World} (h : Below W.heap.size W W') : W.grownBy W' none := ⟨h.os, h.tape, h.output, h.size, fun k hk _ => h.block k hk⟩
section
variable {F : Fence} {n : Nat} {P : Program}
theorem wpIn_seq {α : Type} {g : Operand} {ps : Array Tmp} {assign body : Code} {Q : Exit → Act → World → Prop} {a : Act} {w : World}
 (hro : F.round = none) (h1 : 1 ≤ n) {gf : Nat} {lb : Array Value} (hg : a.eval g = .func (.func gf) #[] lb) (hFg : F.fn gf) (eg : ∀ args w, (callFunc gf args).run P w = .ok (.enter gf args) w)
 {encs : α → Array Value} {own free : Nat → Prop} (hown : ∀ b, own b → b < w.heap.size) {S Sp Pr : List α → Prop}
 (hit : Iter F (n - 1) P gf lb encs own (Keep w.heap.size free) S Sp Pr w) (hps : ∀ x, (encs x).size = ps.size)
 (I : List α → World → Prop) (Ix : Code → List α → World → Prop) (hI : OwnFrom w.heap.size I) (hIx : ∀ c, OwnFrom w.heap.size (Ix c))
 (hIo : ∀ pre W a v, I pre W → own a.block → I pre (W.setCell a v)) (hIxo : ∀ c pre W a v, Ix c pre W → own a.block → Ix c pre (W.setCell a v))
 (h0 : I [] w) (Ax : α → Act → World → Prop) (hAx : ∀ x a' W L o o', Ax x a' W → W.heap[L]? = some o → o.isCells = false → Ax x a' (W.putObj L o'))
 (hassign : ∀ (l : Nat) (pre : List α) (x : α) (W : World) (K : Act → World → Prop), I pre W → Pr (pre ++ [x]) → w.heap.size ≤ W.heap.size →
   (∀ a' W', KeepsOthers W W' → Below W.heap.size W W' → Ax x a' W' → K a' W') →
   assign.wpIn (F.inRound l) (n - 1 - 1) P (Exit.then K (fun _ _ _ => False)) { tmps := (ps.zip (encs x)).foldl (fun t (p, v) => t.setIfInBounds p v) a.tmps, defers := [] } W)
 (hbody : ∀ (l : Nat) (pre : List α) (x : α) (a' : Act) (W : World), I pre W → Pr (pre ++ [x]) → w.heap.size + 2 ≤ W.heap.size → Ax x a' W → body.wpIn (F.inRound l) (n - 1 - 1) P (roundPost (Keep w.heap.size free) I Ix (pre ++ [x]) W) a' W)
 (hdone : ∀ (D : Nat) (xs : List α) (W : World), w.heap.size ≤ D → S xs → I xs W → W.heap[D]? = some (.deferred (some [])) → Q .normal { a with defers := { target := .collected D, args := #[] } :: a.defers } W)
 (hstop : ∀ (D : Nat) (c : Code) (pre : List α) (W : World), w.heap.size ≤ D → Sp pre → Ix c pre W → W.heap[D]? = some (.deferred (some [])) → c.wpIn F n P Q { a with defers := { target := .collected D, args := #[] } :: a.defers } W) :
 (Code.rangeFunc g ps assign body).wpIn F n P Q a w := by
 refine wpIn_rangeFunc ?_
 intro fn hfn
 rw [hro]
 let rec_ : LoopState → Option Code → Loop := fun st pe => { state := st, pending := pe, fn, tmps := a.tmps, params := ps, assign, body, defers := w.heap.size }
 obtain ⟨L, hL⟩ : ∃ L, L = w.heap.size + 1 := ⟨_, rfl⟩
 obtain ⟨W1, hW1⟩ : ∃ W1, (w.alloc (.deferred (some []))).alloc (.loop (rec_ .ready none)) = W1 := ⟨_, rfl⟩
 have hz1 : W1.heap.size = w.heap.size + 2 := by rw [← hW1]; simp
 have hL1 : W1.heap[L]? = some (.loop (rec_ .ready none)) := by
  have := World.alloc_heap_new (w.alloc (.deferred (some []))) (.loop (rec_ .ready none))
  rw [World.size_alloc, hW1, ← hL] at this; exact this
 have hD1 : W1.heap[w.heap.size]? = some (.deferred (some [])) := by
  rw [← hW1]; exact (Below.heap_alloc _ _ _ (by simp)).trans (World.alloc_heap_new w _)
 have hb1 : Below w.heap.size w W1 := by rw [← hW1]; exact ((Below.refl _ w).alloc (Nat.le_refl _) _).alloc (by simp) _
 have hI1 : I [] W1 := by rw [← hW1]; exact hI.alloc _ (hI.alloc _ h0)
 refine ⟨L, [{ target := .collected w.heap.size, args := #[] }], W1, { target := .fn (.func gf) lb, args := #[.func (.yield L) #[] #[]] }, W1, gf,
  #[.func (.yield L) #[] #[]] ++ lb, W1, ?_, ?_, ?_, ?_, fun _ => h1, ?_⟩
 ·rw [← hW1, hL]; exact run_enterLoop_outer _ _ _ _ _
 ·simp only [resolve, hg]
  simp [go_sem]
 ·intro f' hf'; simp [Target.leads] at hf'; subst hf'; exact hFg
 ·simp [invoke, go_sem, eg]
 ·have steady : ∀ (J : List α → World → Prop) (st : LoopState) (c : Option Code), OwnFrom w.heap.size J → (∀ pre W a v, J pre W → own a.block → J pre (W.setCell a v)) →
   Steady own (fun pre W => J pre W ∧ W.heap[L]? = some (.loop (rec_ st c)) ∧ W.heap[w.heap.size]? = some (.deferred (some []))) := by
   intro J st c hJ hJo
   refine ⟨fun pre W W' ⟨hj, hl, hd⟩ hb => ⟨hJ pre W W' none hj (grownBy_of_below hb) (fun r e => by cases e), ?_, ?_⟩, fun pre W ad v ⟨hj, hl, hd⟩ ho => ⟨hJo pre W ad v hj ho, ?_, ?_⟩⟩
   ·rw [hb.block L (Array.getElem?_eq_some_iff.1 hl).1]; exact hl
   ·rw [hb.block _ (Array.getElem?_eq_some_iff.1 hd).1]; exact hd
   ·rw [Below.heap_setCell _ _ _ _ (by have := hown _ ho; omega)]; exact hl
   ·rw [Below.heap_setCell _ _ _ _ (by have := hown _ ho; omega)]; exact hd
  have hcall := hit L (fun pre W => I pre W ∧ W.heap[L]? = some (.loop (rec_ .ready none)) ∧ W.heap[w.heap.size]? = some (.deferred (some [])))
   (fun pre W => ∃ c, Ix c pre W ∧ W.heap[L]? = some (.loop (rec_ .done (some c))) ∧ W.heap[w.heap.size]? = some (.deferred (some [])))
   W1 hb1 (steady I .ready none hI hIo)
   ⟨fun pre W W' ⟨c, h⟩ hb => ⟨c, (steady (Ix c) .done (some c) (hIx c) (hIxo c)).1 pre W W' h hb⟩, fun pre W ad v ⟨c, h⟩ ho => ⟨c, (steady (Ix c) .done (some c) (hIx c) (hIxo c)).2 pre W ad v h ho⟩⟩
   ?_ ⟨hI1, hL1, hD1⟩
  ·refine hcall.mono ?_
   rintro e W2 ⟨⟨v, rfl⟩, (⟨xs, hS, hi, hl, hk⟩ | ⟨pre, hSp, c, hi, hl, hk⟩)⟩
   ·exact ⟨none, _, run_endLoop (P := P) hl (by simp [rec_]), hdone _ xs _ (Nat.le_refl _) hS (hI.putObj _ hi (by omega) hl rfl) ((World.putObj_heap_other (by omega)).trans hk)⟩
   ·exact ⟨some c, _, run_endLoop (P := P) hl (by simp [rec_]), hstop _ c pre _ (Nat.le_refl _) hSp ((hIx c).putObj _ hi (by omega) hl rfl) ((World.putObj_heap_other (by omega)).trans hk)⟩
  ·rintro pre x W ⟨hi, hl, hk⟩ hpr
   have hlt : L < W.heap.size := (Array.getElem?_eq_some_iff.1 hl).1
   refine ⟨fn, _, assign, body, run_yield (P := P) (args := encs x) hl (hps x), roundIn_of_wpIn hfn ?_⟩
   refine hassign _ pre x W _ hi hpr (by omega) (fun a' W2 hko0 hb2 hax => ?_)
   have hl1 := hko0.same _ _ hl rfl
   have hk1 := hko0.same _ _ hk rfl
   have hi2 : I pre W2 := hI pre W W2 none hi (grownBy_of_below hb2) (fun r e => by cases e)
   have hsz2 := hb2.size
   obtain ⟨W3, hW3⟩ : ∃ W3, W2.putObj L (.loop { rec_ .ready none with state := .busy }) = W3 := ⟨_, rfl⟩
   have hz3 : W3.heap.size = W2.heap.size := by rw [← hW3]; simp
   have hi3 : I pre W3 := by rw [← hW3]; exact hI.putObj _ hi2 (by omega) hl1 rfl
   have hl2 : W3.heap[L]? = some (.loop { rec_ .ready none with state := .busy }) := by rw [← hW3]; exact World.putObj_heap_same (by omega)
   have hk2 : W3.heap[w.heap.size]? = some (.deferred (some [])) := by rw [← hW3]; exact (World.putObj_heap_other (by omega)).trans hk1
   have hw3 : Keep w.heap.size free W W3 := by rw [← hW3]; exact ((Keep.refl _ _ W).below hb2 (by omega)).putObj (by omega) _
   refine ⟨W3, by rw [← hW3]; exact run_beginRound hl1 rfl, ?_⟩
   refine wpIn_mono (hbody _ pre x a' W3 hi3 hpr (by omega) (by rw [← hW3]; exact hAx x a' W2 L _ _ hax hl1 rfl)) ?_
   have fin : ∀ (jump : Option Code) (W4 : World), KeepsOthers W3 W4 →
    (Instr.endRound L jump).run P W4 = .ok (.bool jump.isNone) (W4.putObj L (.loop (rec_ (if jump.isNone then .ready else .done) jump))) ∧
    (∃ o, W4.heap[L]? = some o ∧ o.isCells = false) ∧
    (W4.putObj L (.loop (rec_ (if jump.isNone then .ready else .done) jump))).heap[L]? = some (.loop (rec_ (if jump.isNone then .ready else .done) jump)) ∧
    (W4.putObj L (.loop (rec_ (if jump.isNone then .ready else .done) jump))).heap[w.heap.size]? = some (.deferred (some [])) := fun jump W4 hk4 => by
    have hl4 := hk4.same _ _ hl2 rfl
    have hd4 := hk4.same _ _ hk2 rfl
    exact ⟨run_endRound (P := P) jump hl4, ⟨_, hl4, rfl⟩, World.putObj_heap_same (Array.getElem?_eq_some_iff.1 hl4).1, (World.putObj_heap_other (by omega)).trans hd4⟩
   rintro e a3 W4 hp
   cases e with
   | normal =>
     obtain ⟨hk4, hkp4, hi4⟩ := hp
     obtain ⟨hr, ⟨o, hl4, ho4⟩, hl5, hd5⟩ := fin none W4 hk4
     exact ⟨_, _, hr, .inl ⟨rfl, ⟨hI.putObj _ hi4 (by omega) hl4 ho4, hl5, hd5⟩, (hw3.trans hkp4).putObj (by omega) _⟩⟩
   | ret =>
     obtain ⟨hk4, hi4⟩ := hp
     obtain ⟨hr, ⟨o, hl4, ho4⟩, hl5, hd5⟩ := fin (some .ret) W4 hk4
     exact ⟨_, _, hr, .inr ⟨rfl, .ret, (hIx _).putObj _ hi4 (by omega) hl4 ho4, hl5, hd5⟩⟩
   | exit id =>
     obtain ⟨hk4, hi4⟩ := hp
     obtain ⟨hr, ⟨o, hl4, ho4⟩, hl5, hd5⟩ := fin (some (.exit id)) W4 hk4
     exact ⟨_, _, hr, .inr ⟨rfl, .exit id, (hIx _).putObj _ hi4 (by omega) hl4 ho4, hl5, hd5⟩⟩
   | goto t =>
     obtain ⟨hk4, hi4⟩ := hp
     obtain ⟨hr, ⟨o, hl4, ho4⟩, hl5, hd5⟩ := fin (some (.goto t)) W4 hk4
     exact ⟨_, _, hr, .inr ⟨rfl, .goto t, (hIx _).putObj _ hi4 (by omega) hl4 ho4, hl5, hd5⟩⟩
   | panic ch => exact hp.elim
   | outgrown => exact hp.elim
end
structure Sl where
 a : Option Addr
 n : Nat
 c : Nat
 deriving Inhabited
def Sl.v (s : Sl) : Value := .slice s.a s.n s.c
def SlR {α : Type} (w : World) (P : Nat → Prop) (sz : Nat) (en : α → List Value) (s : Sl) (xs : List α) : Prop :=
 s.n = xs.length ∧ s.n ≤ s.c ∧ s.c ≤ maxLen ∧ (s.a = none → s.c = 0) ∧ Reads w w.heap.size s.a sz en xs ∧ (0 < xs.length → ∀ a, s.a = some a → P a.block)
def Kp (P : Nat → Prop) (w w' : World) : Prop := w.heap.size ≤ w'.heap.size ∧ ∀ b, P b → b < w.heap.size → w'.heap[b]? = w.heap[b]?
theorem Kp.of_below {P : Nat → Prop} {w w' : World} (h : Below w.heap.size w w') : Kp P w w' := ⟨h.size, fun b _ hb => h.block b hb⟩
theorem Kp.of_below' {P : Nat → Prop} {w w' : World} {B : Nat} (h : Below B w w') (hB : ∀ b, P b → b < B) : Kp P w w' := ⟨h.size, fun b hp hb => h.block b (hB b hp)⟩
theorem Kp.of_grown {P : Nat → Prop} {w w' : World} {g : Nat} (h : w.grownBy w' (some g)) (hg : ¬ P g) : Kp P w w' := ⟨h.size, fun b hb hl => h.block b hl (fun e => hg (by injection e with e; rw [e] at hb; exact hb))⟩
theorem Kp.trans {P : Nat → Prop} {w w' w2 : World} (h : Kp P w w') (k : Kp P w' w2) : Kp P w w2 := ⟨Nat.le_trans h.1 k.1, fun b hb hl => (k.2 b hb (by have := h.1; omega)).trans (h.2 b hb hl)⟩
section
variable {α : Type} {w w' : World} {P Q : Nat → Prop} {sz : Nat} {en : α → List Value} {s : Sl} {xs : List α}
theorem SlR.keep (h : SlR w P sz en s xs) (hk : Kp P w w') : SlR w' P sz en s xs := by
 refine ⟨h.1, h.2.1, h.2.2.1, h.2.2.2.1, fun hn => ?_, h.2.2.2.2.2⟩
 obtain ⟨b, off, e, hlt, hc⟩ := h.2.2.2.2.1 hn
 have hP := h.2.2.2.2.2 hn _ e
 exact ⟨b, off, e, Nat.lt_of_lt_of_le hlt hk.1, fun i x j v hi hj => (World.cell?_of_block (a := ⟨b, _, none⟩) (hk.2 b hP hlt)).trans (hc i x j v hi hj)⟩
theorem SlR.step (h : SlR w P sz en s xs) (hb : Below w.heap.size w w') : SlR w' P sz en s xs := h.keep (Kp.of_below hb)
theorem SlR.mono (h : SlR w P sz en s xs) (hq : ∀ b, P b → Q b) : SlR w Q sz en s xs := ⟨h.1, h.2.1, h.2.2.1, h.2.2.2.1, h.2.2.2.2.1, fun hn a e => hq _ (h.2.2.2.2.2 hn a e)⟩
theorem SlR.reads (h : SlR w P sz en s xs) : Reads w w.heap.size s.a sz en xs := h.2.2.2.2.1
theorem SlR.nil_ (w : World) (P : Nat → Prop) (sz : Nat) (en : α → List Value) : SlR w P sz en ⟨none, 0, 0⟩ [] := ⟨rfl, Nat.le_refl _, by simp, fun _ => rfl, Reads.nil_, fun h => by simp at h⟩
theorem SlR.of_owns {base : Nat} {e : TypeId} {A : Option Addr} {n c : Nat} (hen : ∀ y, (en y).length = sz) (h : Owns w base e sz en (.slice A n c) xs) : SlR w (fun b => base ≤ b) sz en ⟨A, n, c⟩ xs := by
 have hr := h.reads hen
 rcases h.form with ⟨hv, rfl⟩ | ⟨g, cap, hv, hg, _, hm, hl⟩
 ·cases hv; exact SlR.nil_ _ _ _ _
 ·cases hv; exact ⟨rfl, hl, hm, (fun h => by cases h), hr, fun _ a e => by cases e; exact hg⟩
end
end Go.Proofs.YtalmbigebjbaoaaGreatDoor
