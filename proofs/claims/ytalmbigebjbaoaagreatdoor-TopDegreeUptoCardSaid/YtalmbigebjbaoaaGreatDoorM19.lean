/- TopDegree, what its proof leans on: the texts Rnd, Seq3, AudA. -/
import Derived.Test.YtalmbigebjbaoaaGreatDoorM02
import Derived.StillTailTactics
import Derived.Deep.RegionHeldLaw
import Derived.Test.YtalmbigebjbaoaaGreatDoorM10
import Derived.Test.YtalmbigebjbaoaaGreatDoorM12
import Derived.Defers
import Derived.Recover
import Derived.RangeFuncLeaves
namespace Go.Proofs.YtalmbigebjbaoaaGreatDoor
open Go.RowKit
set_option linter.unusedSimpArgs false
set_option linter.unusedVariables false
theorem callsIn_round {P : Program} {l n : Nat} {f : FuncId} {args : Array Value} {w : World} {R : Ending → World → Prop} (h : Calls P f args w R) : CallsIn (Fence.wide.inRound l) n P f args w R :=
 (callsIn_wide (n := n)).2 h
theorem rowsIn_round {P : Program} {l n : Nat} {row : String} {args : Array Value} {w : World} {R : Value → World → Prop} (h : Rows P row args w R) : RowsIn (Fence.wide.inRound l) n P row args w R :=
 fun c cs _ => let ⟨v, w', r, s⟩ := h c cs; ⟨v, w', r, (stepsIn_wide (P := P)).2 s⟩
theorem upon_round {P : Program} {l n : Nat} {o : Oper} {a : Act} {K : Act → World → Prop} {Q : Exit → Act → World → Prop} {r : Result Next} (h : o.upon P a K Q r) : o.uponIn (Fence.wide.inRound l) n P a K Q r := by
 cases r with
 | ok x w' =>
   cases x <;> simp only [Oper.upon, Oper.uponIn] at h ⊢ <;>
    first
     | exact h
     | exact h.elim
     | exact ⟨fun hd => by simp [Fence.wide] at hd, callsIn_round h⟩
     | exact ⟨fun hd => by simp [Fence.wide] at hd, rowsIn_round h⟩
 | halt x w' => cases x <;> simp only [Oper.upon, Oper.uponIn] at h ⊢ <;> exact h
def noDefer (ops : Array Oper) : Bool := ops.all fun o => match o.op with | .defer _ => false | _ => true
theorem noDefer_at {ops : Array Oper} (h : noDefer ops = true) {i : Nat} {o : Oper} (hi : ops[i]? = some o) : ∀ c, o.op ≠ .defer c := by
 intro c e
 unfold noDefer at h
 rw [Array.all_eq_true] at h
 obtain ⟨hl, rfl⟩ := Array.getElem?_eq_some_iff.1 hi
 have := h i hl
 rw [e] at this
 cases this
theorem ops_round {P : Program} {l n : Nat} {ops : Array Oper} {Q : Exit → Act → World → Prop} (hd : noDefer ops = true) (hq : ¬ LetsOut Q) : ∀ (is : List Nat) (a : Act) (w : World), wpOps P ops Q is a w → wpOpsIn (Fence.wide.inRound l) n P ops Q is a w
 | [], a, w, h => h
 | i :: is, a, w, h => by
   simp only [wpOps, wpOpsIn] at h ⊢
   cases ho : ops[i]? with
   | none => simp only [ho] at h ⊢; exact ops_round hd hq is a w h
   | some o =>
     simp only [ho] at h ⊢
     by_cases hw : Region.wanted o (yielded ops a.tmps) = true
     ·simp only [hw, if_true] at h ⊢
      rcases h with h | h
      ·unfold Oper.wpIn
       rw [Oper.semAt_eq _ _ _ (noDefer_at hd ho)]
       exact ⟨fun _ _ => trivial, upon_round (Oper.wp_mono (fun a w h => ops_round hd hq is a w h) h)⟩
      ·exact absurd h.2 hq
     ·simp only [hw, if_false, Bool.false_eq_true] at h ⊢
      exact ⟨fun _ _ => trivial, ops_round hd hq is _ w h⟩
theorem region_round {P : Program} {l n id : Nat} {ops : Array Oper} {Q : Exit → Act → World → Prop} {a : Act} {w : World} (hm : P.follows .mixedOrders = true) (hd : noDefer ops = true) (hq : ¬ LetsOut Q)
 (h : wpAny P .any ops Q ops.size (Array.replicate ops.size false) a { w with drawn := w.drawn + 1 }) : (Code.region id ops true).wpIn (Fence.wide.inRound l) n P Q a w :=
 wpIn_region_draw fun t => by
  simp only [Region.schedule, hm, Bool.true_or, if_true]
  exact ops_round hd hq _ _ _ (wpAny_sound ops.size t _ a _ h)
theorem region_round_held {P : Program} {l n id : Nat} {ops : Array Oper} {Q : Exit → Act → World → Prop} {a : Act} {w : World} {S : World → Prop} (hm : P.follows .mixedOrders = true) (hd : noDefer ops = true) (hq : ¬ LetsOut Q) (hS : S w.drew)
 (h : S w.drew → wpAnyH P .any ops Q S ops.size (Array.replicate ops.size false) a w.drew) : (Code.region id ops true).wpIn (Fence.wide.inRound l) n P Q a w :=
 region_round hm hd hq (wpAny_of_held _ _ _ _ (h hS))
theorem wpListIn_append_reads {α : Type} {F : Fence} {n : Nat} {P : Program} (w : World) {en : α → List Value} {sz : Nat} {ops : Array Oper} {rest : List Oper} {o : Oper} {a : Act} {Q : Exit → Act → World → Prop} (hgd : o.guard = none) (s x : Operand) (t : TypeId)
 (ho : o.op = .call { callee := .builtin .append, args := #[s, x], argTypes := #[t, t] }) (hen : ∀ y, (en y).length = sz) (h1 : ∀ y, ∀ u ∈ en y, u.oneCell' = true)
 (base : Nat) (e : TypeId) (i : TypeInfo) (z : Value) (bytes : Nat) (ht : P.underlying t = some (.slice e)) (hi : P.info? e = some i) (hz : i.zero = some z)
 (hsize : i.size = sz) (hby : i.bytes = bytes) (hzs : z.cells.size = sz) (hsz : 0 < sz)
 (v : Value) (ys : List α) (hs : a.eval s = v) (hown : Owns w base e sz en v ys) (B : Nat) (A : Option Addr) (c : Nat) (xs : List α) (hx : a.eval x = .slice A xs.length c) (hr : Reads w B A sz en xs) (hnil : A = none → c = 0)
 (h63 : ys.length + xs.length ≤ maxLen) (hbytes : (ys.length + xs.length) * bytes ≤ 140737488355328) (hbase : base ≤ w.heap.size)
 (h : ∀ v' w', Owns w' base e sz en v' (ys ++ xs) → w.grownBy w' v.ownBlock → (v'.ownBlock = v.ownBlock ∨ v'.ownBlock = some w.heap.size) → wpListIn F n P ops Q rest (a.put o.dst v') w') :
 wpListIn F n P ops Q (o :: rest) a w := by
 refine wpListIn_plain hgd fun K hK => ?_
 obtain ⟨v', w', hrun, h2, h3, h4, h5⟩ := run_append_reads (P := P) w hen h1 base t o.type e i z bytes ht hi hz hsize hby hzs hsz v ys hown B A c xs hr hnil h63 hbytes hbase
 unfold Oper.wpIn
 refine ⟨?_, ?_⟩
 ·simp [Oper.about, ho, resolve, Target.leads, Sem.run_pure]
 ·rw [Oper.semAt_plain F _ _ (by rw [ho]; intro c hc'; cases hc')]
  simp [execOp, ho, resolve, invoke, builtin, hs, hx, hrun, Result.andThen]
  exact hK _ _ (h v' w' h2 h3 h4)
theorem step_append_reads {α : Type} {P : Program} {w : World} {en : α → List Value} {sz : Nat} {ops : Array Oper} {o : Oper} {a : Act} {K : Act → World → Prop} {Q : Exit → Act → World → Prop} {E : Prop} (hgd : o.guard = none) (s x : Operand) (t : TypeId)
 (ho : o.op = .call { callee := .builtin .append, args := #[s, x], argTypes := #[t, t] }) (hen : ∀ y, (en y).length = sz) (h1 : ∀ y, ∀ u ∈ en y, u.oneCell' = true)
 (base : Nat) (e : TypeId) (i : TypeInfo) (z : Value) (bytes : Nat) (ht : P.underlying t = some (.slice e)) (hi : P.info? e = some i) (hz : i.zero = some z)
 (hsize : i.size = sz) (hby : i.bytes = bytes) (hzs : z.cells.size = sz) (hsz : 0 < sz)
 (v : Value) (ys : List α) (hs : a.eval s = v) (hown : Owns w base e sz en v ys) (B : Nat) (A : Option Addr) (c : Nat) (xs : List α) (hx : a.eval x = .slice A xs.length c) (hr : Reads w B A sz en xs) (hnil : A = none → c = 0)
 (h63 : ys.length + xs.length ≤ maxLen) (hbytes : (ys.length + xs.length) * bytes ≤ 140737488355328) (hbase : base ≤ w.heap.size)
 (h : ∀ v' w', Owns w' base e sz en v' (ys ++ xs) → w.grownBy w' v.ownBlock → (v'.ownBlock = v.ownBlock ∨ v'.ownBlock = some w.heap.size) → K (a.put o.dst v') w') :
 if Region.wanted o (yielded ops a.tmps) = true then Oper.wp P o a w K Q else E := by
 have hw : Region.wanted o (yielded ops a.tmps) = true := by simp [Region.wanted, hgd]
 rw [if_pos hw]
 obtain ⟨v', w', hrun, h2, h3, h4, h5⟩ := run_append_reads (P := P) w hen h1 base t o.type e i z bytes ht hi hz hsize hby hzs hsz v ys hown B A c xs hr hnil h63 hbytes hbase
 unfold Oper.wp execOp
 simp only [ho, resolve, invoke, builtin, Sem.run_bind, Sem.run_pure, Result.andThen_ok, List.map_toArray, List.map_cons, List.map_nil, hs, hx, hrun]
 exact h _ _ h2 h3 h4
def KeepT (B : Nat) (T : TypeId) (free : Nat → Prop) (W W' : World) : Prop :=
 W.heap.size ≤ W'.heap.size ∧ ∀ b, b < W.heap.size → ¬ free b → ¬ (B ≤ b ∧ b < B + 2) → ¬ (B ≤ b ∧ ∃ cs fz, W.heap[b]? = some (.cells cs T fz)) → W'.heap[b]? = W.heap[b]?
section
variable {B : Nat} {T : TypeId} {free : Nat → Prop} {X Y Z : World}
theorem KeepT.refl (B : Nat) (T : TypeId) (free : Nat → Prop) (X : World) : KeepT B T free X X := ⟨Nat.le_refl _, fun _ _ _ _ _ => rfl⟩
theorem KeepT.trans (h : KeepT B T free X Y) (k : KeepT B T free Y Z) : KeepT B T free X Z := ⟨Nat.le_trans h.1 k.1, fun b hb hf hn ht => by
 have e := h.2 b hb hf hn ht
 exact (k.2 b (by have := h.1; omega) hf hn (by rw [e]; exact ht)).trans e⟩
theorem KeepT.of_below (hb : Below X.heap.size X Y) : KeepT B T free X Y := ⟨hb.size, fun b hlt _ _ _ => hb.block b hlt⟩
theorem KeepT.below (h : KeepT B T free X Y) (hb : Below Y.heap.size Y Z) : KeepT B T free X Z := h.trans (KeepT.of_below hb)
theorem KeepT.setCell (h : KeepT B T free X Y) {a : Addr} (ha : free a.block) (v : Value) : KeepT B T free X (Y.setCell a v) :=
 h.trans ⟨by simp [World.setCell], fun b hb hf _ _ => Below.heap_setCell _ _ _ _ (fun e => by subst e; exact hf ha)⟩
theorem KeepT.putObj (X : World) {l : Nat} (hl : B ≤ l ∧ l < B + 2) (o : Obj) : KeepT B T free X (X.putObj l o) :=
 ⟨by simp, fun b hb _ hn _ => World.putObj_heap_other (fun e => hn (by omega))⟩
theorem KeepT.grown (h : KeepT B T free X Y) {row : Option Nat} (hg : Y.grownBy Z row) (hr : ∀ g, row = some g → free g ∨ (B ≤ g ∧ ∃ cs fz, Y.heap[g]? = some (.cells cs T fz))) : KeepT B T free X Z :=
 h.trans ⟨hg.size, fun b hb hf hn ht => hg.block b hb (fun e => by
  rcases hr b e.symm with h | h
  ·exact hf h
  ·exact ht h)⟩
end
section
variable {F : Fence} {n : Nat} {P : Program}
theorem wpIn_seqK {α : Type} {g : Operand} {ps : Array Tmp} {assign body : Code} {Q : Exit → Act → World → Prop} {a : Act} {w : World}
 (hro : F.round = none) (h1 : 1 ≤ n) {gf : Nat} {lb : Array Value} (hg : a.eval g = .func (.func gf) #[] lb) (hFg : F.fn gf) (eg : ∀ args w, (callFunc gf args).run P w = .ok (.enter gf args) w)
 {encs : α → Array Value} {own : Nat → Prop} {Kp : World → World → Prop} (hkb : ∀ X Y, w.heap.size ≤ X.heap.size → Below X.heap.size X Y → Kp X Y) (hkt : ∀ X Y Z, Kp X Y → Kp Y Z → Kp X Z) (hkp : ∀ X l o, w.heap.size ≤ l → l < w.heap.size + 2 → Kp X (X.putObj l o)) (hown : ∀ b, own b → b < w.heap.size) {S Sp Pr : List α → Prop}
 (hit : Iter2 F (n - 1) P gf lb encs own Kp S Sp Pr w) (hps : ∀ x, (encs x).size = ps.size)
 (I : List α → World → Prop) (Ix : Code → List α → World → Prop) (hI : OwnFrom w.heap.size I) (hIx : ∀ c, OwnFrom w.heap.size (Ix c))
 (hIo : ∀ pre W a v, I pre W → own a.block → I pre (W.setCell a v)) (hIxo : ∀ c pre W a v, Ix c pre W → own a.block → Ix c pre (W.setCell a v))
 (h0 : I [] w) (Ax : α → Act → World → Prop) (hAx : ∀ x a' W L o o', Ax x a' W → W.heap[L]? = some o → o.isCells = false → Ax x a' (W.putObj L o'))
 (hassign : ∀ (l : Nat) (pre : List α) (x : α) (W : World) (K : Act → World → Prop), I pre W → Pr (pre ++ [x]) → w.heap.size ≤ W.heap.size →
   (∀ a' W', KeepsOthers W W' → Below W.heap.size W W' → Ax x a' W' → K a' W') →
   assign.wpIn (F.inRound l) (n - 1 - 1) P (Exit.then K (fun _ _ _ => False)) { tmps := (ps.zip (encs x)).foldl (fun t (p, v) => t.setIfInBounds p v) a.tmps, defers := [] } W)
 (hbody : ∀ (l : Nat) (pre : List α) (x : α) (a' : Act) (W : World), I pre W → Pr (pre ++ [x]) → w.heap.size + 2 ≤ W.heap.size → Ax x a' W → body.wpIn (F.inRound l) (n - 1 - 1) P (roundPost Kp I Ix (pre ++ [x]) W) a' W)
 (hdone : ∀ (D : Nat) (xs : List α) (W : World), w.heap.size ≤ D → S xs → I xs W → W.heap[D]? = some (.deferred (some [])) → Q .normal { a with defers := { target := .collected D, args := #[] } :: a.defers } W)
 (hstop : ∀ (D : Nat) (c : Code) (pre : List α) (W : World), w.heap.size ≤ D → Sp pre → Ix c pre W → W.heap[D]? = some (.deferred (some [])) → c.wpIn F n P Q { a with defers := { target := .collected D, args := #[] } :: a.defers } W) :
 (Code.rangeFunc g ps assign body).wpIn F n P Q a w := by
 refine wpIn_rangeFunc ?_
 intro fn hfn
 rw [hro]
 let rec_ : LoopState → Option Code → Loop := fun st pe => { state := st, pending := pe, fn, tmps := a.tmps, params := ps, assign, body, defers := w.heap.size }
 obtain ⟨L, hL⟩ : ∃ L, L = w.heap.size + 1 := ⟨_, rfl⟩
 obtain ⟨W1, hW1⟩ : ∃ W1, (w.alloc (.deferred (some []))).alloc (.loop (rec_ .ready none)) = W1 := ⟨_, rfl⟩
 have hz1 : W1.heap.size = w.heap.size + 2 := by rw [← hW1]; simp
 have hL1 : W1.heap[L]? = some (.loop (rec_ .ready none)) := by
  have := World.alloc_heap_new (w.alloc (.deferred (some []))) (.loop (rec_ .ready none))
  rw [World.size_alloc, hW1, ← hL] at this; exact this
 have hD1 : W1.heap[w.heap.size]? = some (.deferred (some [])) := by
  rw [← hW1]; exact (Below.heap_alloc _ _ _ (by simp)).trans (World.alloc_heap_new w _)
 have hb1 : Below w.heap.size w W1 := by rw [← hW1]; exact ((Below.refl _ w).alloc (Nat.le_refl _) _).alloc (by simp) _
 have hI1 : I [] W1 := by rw [← hW1]; exact hI.alloc _ (hI.alloc _ h0)
 refine ⟨L, [{ target := .collected w.heap.size, args := #[] }], W1, { target := .fn (.func gf) lb, args := #[.func (.yield L) #[] #[]] }, W1, gf,
  #[.func (.yield L) #[] #[]] ++ lb, W1, ?_, ?_, ?_, ?_, fun _ => h1, ?_⟩
 ·rw [← hW1, hL]; exact run_enterLoop_outer _ _ _ _ _
 ·simp only [resolve, hg]
  simp [go_sem]
 ·intro f' hf'; simp [Target.leads] at hf'; subst hf'; exact hFg
 ·simp [invoke, go_sem, eg]
 ·have steady : ∀ (J : List α → World → Prop) (st : LoopState) (c : Option Code), OwnFrom w.heap.size J → (∀ pre W a v, J pre W → own a.block → J pre (W.setCell a v)) →
   Steady own (fun pre W => J pre W ∧ W.heap[L]? = some (.loop (rec_ st c)) ∧ W.heap[w.heap.size]? = some (.deferred (some []))) := by
   intro J st c hJ hJo
   refine ⟨fun pre W W' ⟨hj, hl, hd⟩ hb => ⟨hJ pre W W' none hj (grownBy_of_below hb) (fun r e => by cases e), ?_, ?_⟩, fun pre W ad v ⟨hj, hl, hd⟩ ho => ⟨hJo pre W ad v hj ho, ?_, ?_⟩⟩
   ·rw [hb.block L (Array.getElem?_eq_some_iff.1 hl).1]; exact hl
   ·rw [hb.block _ (Array.getElem?_eq_some_iff.1 hd).1]; exact hd
   ·rw [Below.heap_setCell _ _ _ _ (by have := hown _ ho; omega)]; exact hl
   ·rw [Below.heap_setCell _ _ _ _ (by have := hown _ ho; omega)]; exact hd
  have hcall := hit L (fun pre W => I pre W ∧ W.heap[L]? = some (.loop (rec_ .ready none)) ∧ W.heap[w.heap.size]? = some (.deferred (some [])))
   (fun pre W => ∃ c, Ix c pre W ∧ W.heap[L]? = some (.loop (rec_ .done (some c))) ∧ W.heap[w.heap.size]? = some (.deferred (some [])))
   W1 hb1 (by omega) (steady I .ready none hI hIo)
   ⟨fun pre W W' ⟨c, h⟩ hb => ⟨c, (steady (Ix c) .done (some c) (hIx c) (hIxo c)).1 pre W W' h hb⟩, fun pre W ad v ⟨c, h⟩ ho => ⟨c, (steady (Ix c) .done (some c) (hIx c) (hIxo c)).2 pre W ad v h ho⟩⟩
   ?_ ⟨hI1, hL1, hD1⟩
  ·refine hcall.mono ?_
   rintro e W2 ⟨⟨v, rfl⟩, (⟨xs, hS, hi, hl, hk⟩ | ⟨pre, hSp, c, hi, hl, hk⟩)⟩
   ·exact ⟨none, _, run_endLoop (P := P) hl (by simp [rec_]), hdone _ xs _ (Nat.le_refl _) hS (hI.putObj _ hi (by omega) hl rfl) ((World.putObj_heap_other (by omega)).trans hk)⟩
   ·exact ⟨some c, _, run_endLoop (P := P) hl (by simp [rec_]), hstop _ c pre _ (Nat.le_refl _) hSp ((hIx c).putObj _ hi (by omega) hl rfl) ((World.putObj_heap_other (by omega)).trans hk)⟩
  ·rintro pre x W ⟨hi, hl, hk⟩ hpr
   have hlt : L < W.heap.size := (Array.getElem?_eq_some_iff.1 hl).1
   refine ⟨fn, _, assign, body, run_yield (P := P) (args := encs x) hl (hps x), roundIn_of_wpIn hfn ?_⟩
   refine hassign _ pre x W _ hi hpr (by omega) (fun a' W2 hko0 hb2 hax => ?_)
   have hl1 := hko0.same _ _ hl rfl
   have hk1 := hko0.same _ _ hk rfl
   have hi2 : I pre W2 := hI pre W W2 none hi (grownBy_of_below hb2) (fun r e => by cases e)
   have hsz2 := hb2.size
   obtain ⟨W3, hW3⟩ : ∃ W3, W2.putObj L (.loop { rec_ .ready none with state := .busy }) = W3 := ⟨_, rfl⟩
   have hz3 : W3.heap.size = W2.heap.size := by rw [← hW3]; simp
   have hi3 : I pre W3 := by rw [← hW3]; exact hI.putObj _ hi2 (by omega) hl1 rfl
   have hl2 : W3.heap[L]? = some (.loop { rec_ .ready none with state := .busy }) := by rw [← hW3]; exact World.putObj_heap_same (by omega)
   have hk2 : W3.heap[w.heap.size]? = some (.deferred (some [])) := by rw [← hW3]; exact (World.putObj_heap_other (by omega)).trans hk1
   have hw3 : Kp W W3 := by rw [← hW3]; exact hkt _ _ _ (hkb W W2 (by omega) hb2) (hkp W2 L _ (by omega) (by omega))
   refine ⟨W3, by rw [← hW3]; exact run_beginRound hl1 rfl, ?_⟩
   refine wpIn_mono (hbody _ pre x a' W3 hi3 hpr (by omega) (by rw [← hW3]; exact hAx x a' W2 L _ _ hax hl1 rfl)) ?_
   have fin : ∀ (jump : Option Code) (W4 : World), KeepsOthers W3 W4 →
    (Instr.endRound L jump).run P W4 = .ok (.bool jump.isNone) (W4.putObj L (.loop (rec_ (if jump.isNone then .ready else .done) jump))) ∧
    (∃ o, W4.heap[L]? = some o ∧ o.isCells = false) ∧
    (W4.putObj L (.loop (rec_ (if jump.isNone then .ready else .done) jump))).heap[L]? = some (.loop (rec_ (if jump.isNone then .ready else .done) jump)) ∧
    (W4.putObj L (.loop (rec_ (if jump.isNone then .ready else .done) jump))).heap[w.heap.size]? = some (.deferred (some [])) := fun jump W4 hk4 => by
    have hl4 := hk4.same _ _ hl2 rfl
    have hd4 := hk4.same _ _ hk2 rfl
    exact ⟨run_endRound (P := P) jump hl4, ⟨_, hl4, rfl⟩, World.putObj_heap_same (Array.getElem?_eq_some_iff.1 hl4).1, (World.putObj_heap_other (by omega)).trans hd4⟩
   rintro e a3 W4 hp
   cases e with
   | normal =>
     obtain ⟨hk4, hkp4, hi4⟩ := hp
     obtain ⟨hr, ⟨o, hl4, ho4⟩, hl5, hd5⟩ := fin none W4 hk4
     exact ⟨_, _, hr, .inl ⟨rfl, ⟨hI.putObj _ hi4 (by omega) hl4 ho4, hl5, hd5⟩, hkt _ _ _ (hkt _ _ _ hw3 hkp4) (hkp W4 L _ (by omega) (by omega))⟩⟩
   | ret =>
     obtain ⟨hk4, hi4⟩ := hp
     obtain ⟨hr, ⟨o, hl4, ho4⟩, hl5, hd5⟩ := fin (some .ret) W4 hk4
     exact ⟨_, _, hr, .inr ⟨rfl, .ret, (hIx _).putObj _ hi4 (by omega) hl4 ho4, hl5, hd5⟩⟩
   | exit id =>
     obtain ⟨hk4, hi4⟩ := hp
     obtain ⟨hr, ⟨o, hl4, ho4⟩, hl5, hd5⟩ := fin (some (.exit id)) W4 hk4
     exact ⟨_, _, hr, .inr ⟨rfl, .exit id, (hIx _).putObj _ hi4 (by omega) hl4 ho4, hl5, hd5⟩⟩
   | goto t =>
     obtain ⟨hk4, hi4⟩ := hp
     obtain ⟨hr, ⟨o, hl4, ho4⟩, hl5, hd5⟩ := fin (some (.goto t)) W4 hk4
     exact ⟨_, _, hr, .inr ⟨rfl, .goto t, (hIx _).putObj _ hi4 (by omega) hl4 ho4, hl5, hd5⟩⟩
   | panic ch => exact hp.elim
   | outgrown => exact hp.elim
theorem wpIn_seqT {α : Type} {g : Operand} {ps : Array Tmp} {assign body : Code} {Q : Exit → Act → World → Prop} {a : Act} {w : World}
 (hro : F.round = none) (h1 : 1 ≤ n) {gf : Nat} {lb : Array Value} (hg : a.eval g = .func (.func gf) #[] lb) (hFg : F.fn gf) (eg : ∀ args w, (callFunc gf args).run P w = .ok (.enter gf args) w)
 {encs : α → Array Value} {own : Nat → Prop} {Kp : World → World → Prop} (hkb : ∀ X Y, w.heap.size ≤ X.heap.size → Below X.heap.size X Y → Kp X Y) (hkt : ∀ X Y Z, Kp X Y → Kp Y Z → Kp X Z) (hkp : ∀ X l o, w.heap.size ≤ l → l < w.heap.size + 2 → Kp X (X.putObj l o)) (hown : ∀ b, own b → b < w.heap.size) {S Sp Pr : List α → Prop}
 (hit : Iter2 F (n - 1) P gf lb encs own Kp S Sp Pr w) (hps : ∀ x, (encs x).size = ps.size)
 (I : List α → World → Prop) (Ix : Code → List α → World → Prop) (hI : OwnFrom w.heap.size I) (hIx : ∀ c, OwnFrom w.heap.size (Ix c))
 (hIo : ∀ pre W a v, I pre W → own a.block → I pre (W.setCell a v)) (hIxo : ∀ c pre W a v, Ix c pre W → own a.block → Ix c pre (W.setCell a v))
 (h0 : I [] w) (G : α → Act)
 (hassign : ∀ (l : Nat) (pre : List α) (x : α) (W : World) (K : Act → World → Prop), I pre W → Pr (pre ++ [x]) → w.heap.size ≤ W.heap.size →
   (∀ W', KeepsOthers W W' → Below W.heap.size W W' → K (G x) W') →
   assign.wpIn (F.inRound l) (n - 1 - 1) P (Exit.then K (fun _ _ _ => False)) { tmps := (ps.zip (encs x)).foldl (fun t (p, v) => t.setIfInBounds p v) a.tmps, defers := [] } W)
 (hbody : ∀ (l : Nat) (pre : List α) (x : α) (W : World), I pre W → Pr (pre ++ [x]) → w.heap.size + 2 ≤ W.heap.size → body.wpIn (F.inRound l) (n - 1 - 1) P (roundPost Kp I Ix (pre ++ [x]) W) (G x) W)
 (hdone : ∀ (D : Nat) (xs : List α) (W : World), w.heap.size ≤ D → S xs → I xs W → W.heap[D]? = some (.deferred (some [])) → Q .normal { a with defers := { target := .collected D, args := #[] } :: a.defers } W)
 (hstop : ∀ (D : Nat) (c : Code) (pre : List α) (W : World), w.heap.size ≤ D → Sp pre → Ix c pre W → W.heap[D]? = some (.deferred (some [])) → c.wpIn F n P Q { a with defers := { target := .collected D, args := #[] } :: a.defers } W) :
 (Code.rangeFunc g ps assign body).wpIn F n P Q a w :=
 wpIn_seqK hro h1 hg hFg eg hkb hkt hkp hown hit hps I Ix hI hIx hIo hIxo h0 (fun x a' _ => a' = G x) (fun _ _ _ _ _ _ h _ _ => h)
  (fun l pre x W K hi hp hz hK => hassign l pre x W K hi hp hz (fun W' a b => hK _ _ a b rfl))
  (fun l pre x a' W hi hp hz e => by subst e; exact hbody l pre x W hi hp hz) hdone hstop
end
end Go.Proofs.YtalmbigebjbaoaaGreatDoor
namespace Go.Proofs.YtalmbigebjbaoaaGreatDoor
open Go.RowKit Go.Shelf
set_option linter.unusedSimpArgs false
set_option linter.unusedVariables false
def failE (e : Int) : List PanicEntry := [{ v := .iface 125 (.agg #[.int .i64 e]), recovered := false }]
theorem demand_ok (e : Int) (w : World) :
 Calls Tryz.prog 50 #[.bool true, .int .i64 e] w fun r w' => r = .returned (.tuple #[]) ∧ w = w' := by
 go_enter Tryz.func50, Tryz.ntmps50
 go_wp2_with fail
 go_end0
 exact ⟨rfl, rfl⟩
theorem demand_no (e : Int) (w : World) :
 Calls Tryz.prog 50 #[.bool false, .int .i64 e] w fun r w' => r = .panicked (failE e) ∧ w = w' := by
 go_enter Tryz.func50, Tryz.ntmps50
 go_wp2_with fail
 exact ⟨rfl, rfl, rfl⟩
theorem try_ok (w : World) :
 Calls Tryz.prog 22 #[.int .i64 0] w fun r w' => r = .returned (.tuple #[]) ∧ w = w' := by
 go_enter Tryz.func22, Tryz.ntmps22
 go_wp2_with fail
 refine (demand_ok 0 w).mono ?_
 rintro e w1 ⟨rfl, rfl⟩
 go_wp2_with fail
 go_end0
 exact ⟨rfl, rfl⟩
theorem try_no (e : Int) (he : e ≠ 0) (w : World) :
 Calls Tryz.prog 22 #[.int .i64 e] w fun r w' => r = .panicked (failE e) ∧ w = w' := by
 have e1 : (e == 0) = false := by simpa using he
 go_enter Tryz.func22, Tryz.ntmps22
 go_wp2_with fail
 refine (demand_no e w).mono ?_
 rintro r w1 ⟨rfl, rfl⟩
 exact ⟨rfl, rfl, rfl⟩
theorem caught_nil (b : Nat) (w : World) :
 Calls Tryz.prog 20 #[.nilIface, .pointer (some ⟨b, 0, none⟩)] w fun r w' => r = .returned (.tuple #[]) ∧ w = w' := by
 go_enter Tryz.func20, Tryz.ntmps20
 go_wp2_with fail
 go_end0
 exact ⟨rfl, rfl⟩
set_option maxRecDepth 100000 in
theorem caught_fail (e : Int) (b : Nat) (v : Value) (w : World) (h0 : Bx w b [v]) :
 Calls Tryz.prog 20 #[.iface 125 (.agg #[.int .i64 e]), .pointer (some ⟨b, 0, none⟩)] w fun r w' => r = .returned (.tuple #[]) ∧ w' = (w.setCell ⟨b, 0, none⟩ (.int .i64 e)).alloc (.cells #[.int .i64 e] 125) := by
 have c0 := h0.1 0 _ rfl
 have f0 := h0.2.1 0
 have z0 := h0.2.2
 have hta : ∀ (x : Value) (W : World), (Instr.typeAssert (.iface 125 x) 20 125 true).run Tryz.prog W = .ok (.tuple #[x, .bool true]) W := fun _ _ => by kernel_rfl
 go_enter Tryz.func20, Tryz.ntmps20
 go_wp2_with fail
 go_end0
 exact ⟨rfl, rfl⟩
theorem callsDIn_of_wpS {P : Program} {n : Nat} {f : FuncId} {fn : Func} {c : Code} {args : Array Value} {u : FrameMode} {w : World} {R : Ending → FrameMode → World → Prop}
 (hf : P.funcs[f]? = some fn) (hb : fn.body = some c)
 (h : ∀ (c₀ : Frame) (cs : List Frame), c₀.mode = u → c.wpS P (bodyPostS P fn c₀ cs R) { tmps := args ++ Array.replicate (fn.ntmps - args.size) undef, defers := [] } (c₀ :: cs) w) :
 CallsDIn Fence.wide n P f args u w R := by
 refine ⟨trivial, fun c₀ cs hu _ => ?_⟩
 obtain ⟨b, hbd⟩ : ∃ b : Frame, b = { (default : Frame) with fn := f, kind := .deferred } := ⟨_, rfl⟩
 have hk : b.kind = .deferred := by rw [hbd]
 have hfn : b.fn = f := by rw [hbd]
 have henter : Frame.enter P f args .deferred = b.at { tmps := args ++ Array.replicate (fn.ntmps - args.size) undef, defers := [] } [.code c] := by
  simp [Frame.enter, Frame.at, hf, hb, hbd]
 obtain ⟨e, a', cs', w', hq, harr⟩ := h c₀ cs hu b [] hk (by rw [hbd]; rfl)
 rw [← henter] at harr
 cases e with
 | normal =>
   obtain ⟨hd, u', rfl, v, hr, hR⟩ := hq
   exact ⟨.returned v, u', w', _, hR, comesIn_wide.2 (Steps.trans harr (.one step_end)), hk, hfn, rfl, hd, fn, by rw [← hf]; exact congrArg (fun i => P.funcs[i]?) hfn, hr⟩
 | ret =>
   obtain ⟨hd, u', rfl, v, hr, hR⟩ := hq
   obtain ⟨todo, hs⟩ := harr
   exact ⟨.returned v, u', w', _, hR, comesIn_wide.2 hs, hk, hfn, rfl, hd, fn, by rw [← hf]; exact congrArg (fun i => P.funcs[i]?) hfn, hr⟩
 | panic chain =>
   obtain ⟨hd, u', rfl, hR⟩ := hq
   obtain ⟨todo, hs⟩ := harr
   exact ⟨.panicked chain, u', w', _, hR, comesIn_wide.2 hs, hk, hfn, rfl, hd, fn, by rw [← hf]; exact congrArg (fun i => P.funcs[i]?) hfn⟩
 | exit id => exact hq.elim
 | goto l => exact hq.elim
 | outgrown =>
   obtain ⟨u', hR⟩ := hq
   exact ⟨.outgrown, u', w', b, hR, comesIn_wide.2 (harr.resolve_left (by simp [hbd])), hk, hfn, trivial⟩
theorem deferred_idle (n b : Nat) (w : World) :
 CallsDIn Fence.wide n Tryz.prog 45 #[.pointer (some ⟨b, 0, none⟩)] .returning w fun e u' w' => e = .returned (.tuple #[]) ∧ u' = .returning ∧ w' = w := by
 refine callsDIn_of_wpS Tryz.func45 rfl fun c₀ cs hu => ?_
 apply wpS_region
 simp [wpOpsS, go_sem, recoverD, hu, Tryz.ntmps45, Exit.thenS]
 refine (caught_nil b w).mono ?_
 rintro e w1 ⟨rfl, rfl⟩
 exact ⟨rfl, .returning, by rw [← hu], .tuple #[], results_none rfl _ _ _, rfl, rfl, rfl⟩
theorem deferred_caught (n b : Nat) (e : Int) (v : Value) (w : World) (h0 : Bx w b [v]) :
 CallsDIn Fence.wide n Tryz.prog 45 #[.pointer (some ⟨b, 0, none⟩)] (.panicking (failE e)) w fun r u' w' => r = .returned (.tuple #[]) ∧ settle u' = .returning ∧ w' = (w.setCell ⟨b, 0, none⟩ (.int .i64 e)).alloc (.cells #[.int .i64 e] 125) := by
 refine callsDIn_of_wpS Tryz.func45 rfl fun c₀ cs hu => ?_
 unfold failE at hu
 apply wpS_region
 simp [wpOpsS, go_sem, recoverD, hu, Tryz.ntmps45, Exit.thenS]
 refine (caught_fail e b v w h0).mono ?_
 rintro r w1 ⟨rfl, rfl⟩
 exact ⟨rfl, _, rfl, .tuple #[], results_none rfl _ _ _, rfl, rfl, rfl⟩
end Go.Proofs.YtalmbigebjbaoaaGreatDoor
