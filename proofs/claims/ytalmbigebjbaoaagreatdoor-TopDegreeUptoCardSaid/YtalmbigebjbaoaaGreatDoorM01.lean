/- TopDegree, what its proof leans on: the texts Lib, MapLib, Open. -/
import Derived.WalkKit
import Derived.WalkSpells
import Derived.WalkLawsBesides
import Derived.Lib.Hide
import Derived.Deep.Draws
import Derived.StillTailTactics
import Derived.Maps.Own
import Derived.ProofKit
import Derived.OpenShut
import Derived.Deep.Slices
import Derived.Lib.SmallJoins
namespace Go.Proofs.YtalmbigebjbaoaaGreatDoor
open Go.RowKit
def Reads {α : Type} (w : World) (B : Nat) (A : Option Addr) (sz : Nat) (enc : α → List Value) (xs : List α) : Prop :=
 0 < xs.length → ∃ b off, A = some ⟨b, off, none⟩ ∧ b < B ∧ ∀ i x j v, xs[i]? = some x → (enc x)[j]? = some v → w.cell? ⟨b, off + i * sz + j, none⟩ = some v
section
variable {α : Type} {w w' : World} {B B' sz k : Nat} {A : Option Addr} {enc : α → List Value} {xs : List α}
theorem Reads.nil_ : Reads w B A sz enc [] := fun h => absurd h (by simp)
theorem Reads.below (h : Reads w B A sz enc xs) (hb : Below B w w') : Reads w' B A sz enc xs := fun hn => by
 obtain ⟨b, off, e, hlt, hc⟩ := h hn
 exact ⟨b, off, e, hlt, fun i x j v hi hj => (hb.cell (p := ⟨b, _, none⟩) hlt).trans (hc i x j v hi hj)⟩
theorem Reads.more (h : Reads w B A sz enc xs) (hB : B ≤ B') : Reads w B' A sz enc xs := fun hn => by
 obtain ⟨b, off, e, hlt, hc⟩ := h hn
 exact ⟨b, off, e, by omega, hc⟩
theorem Reads.alloc (h : Reads w B A sz enc xs) (hB : B ≤ w.heap.size) (o : Obj) : Reads (w.alloc o) B A sz enc xs := h.below ((Below.refl _ _).alloc hB o)
theorem Reads.drew (h : Reads w B A sz enc xs) : Reads w.drew B A sz enc xs := h
theorem Reads.at_ (h : Reads w B A sz enc xs) (hk : k < xs.length) :
 ∃ b off x, A = some ⟨b, off, none⟩ ∧ b < B ∧ xs[k]? = some x ∧ ∀ j v, (enc x)[j]? = some v → w.cell? ⟨b, off + k * sz + j, none⟩ = some v := by
 obtain ⟨b, off, e, hlt, hc⟩ := h (by omega)
 exact ⟨b, off, xs[k], e, hlt, List.getElem?_eq_getElem hk, fun j v hj => hc k _ j v (List.getElem?_eq_getElem hk) hj⟩
end
theorem bcell {W w1 : World} (hb : Below W.heap.size W w1) : (∀ b o, b < W.heap.size → w1.cell? ⟨b, o, none⟩ = W.cell? ⟨b, o, none⟩) ∧ (∀ b o, b < W.heap.size → w1.frozen? ⟨b, o, none⟩ = W.frozen? ⟨b, o, none⟩) :=
 ⟨fun b o h => hb.cell (p := ⟨b, o, none⟩) h, fun b o h => hb.frozen (p := ⟨b, o, none⟩) h⟩
theorem below_new {w w' : World} {cs : Array Value} {t : TypeId} (h : Below (w.heap.size + 1) (w.alloc (.cells cs t)) w') :
 Below w.heap.size w w' ∧ (∀ i, w'.cell? ⟨w.heap.size, i, none⟩ = cs[i]?) ∧ (∀ i, w'.frozen? ⟨w.heap.size, i, none⟩ = false) ∧ w.heap.size < w'.heap.size ∧ w.heap.size ≤ w'.heap.size := by
 have hs := h.size
 have e : w'.heap[w.heap.size]? = some (.cells cs t (0, 0)) := (h.block _ (by omega)).trans (heap_alloc_new w _)
 refine ⟨((Below.refl _ w).alloc (Nat.le_refl _) _).trans (h.mono (by omega)), fun i => ?_, fun i => ?_, ?_, Nat.le_trans (by simp) h.size⟩
 ·simp [World.cell?, e]
 ·simp [World.frozen?, e]
 ·simp at hs; omega
theorem reads_new {α : Type} (w : World) (sz : Nat) (enc : α → List Value) (xs : List α) (cs : Array Value) (t : TypeId) (h : ∀ i x j v, xs[i]? = some x → (enc x)[j]? = some v → cs[i * sz + j]? = some v) :
 Reads (w.alloc (.cells cs t)) (w.heap.size + 1) (some ⟨w.heap.size, 0, none⟩) sz enc xs := fun _ =>
 ⟨w.heap.size, 0, rfl, by omega, fun i x j v hi hj => by
   have := h i x j v hi hj
   simp [go_sem]
   simpa using this⟩
theorem reads_mk {α : Type} (w : World) (g sz : Nat) (hg : g = w.heap.size) (enc : α → List Value) (xs : List α) (cs : Array Value) (t : TypeId) (h : ∀ i x j v, xs[i]? = some x → (enc x)[j]? = some v → cs[i * sz + j]? = some v) :
 Reads (w.alloc (.cells cs t)) (g + 1) (some ⟨g, 0, none⟩) sz enc xs := by
 subst hg
 exact reads_new w sz enc xs cs t h
def intE (n : Int) : List Value := [.int .i64 n]
theorem reads_ints (w : World) (g : Nat) (hg : g = w.heap.size) (l : List Int) (cs : Array Value) (t : TypeId) (hcs : cs.toList = l.map (Value.int .i64)) :
 Reads (w.alloc (.cells cs t)) (g + 1) (some ⟨g, 0, none⟩) 1 intE l :=
 reads_mk w g 1 hg intE l cs t fun i x j v hi hj => by
  cases j with
  | zero =>
    simp [intE] at hj
    subst hj
    rw [← Array.getElem?_toList, hcs]
    simp [hi]
  | succ j => simp [intE] at hj
theorem reads_one {α : Type} (w : World) (enc : α → List Value) (x : α) (cs : Array Value) (t : TypeId) (hcs : cs.toList = enc x) (sz g : Nat) (hg : g = w.heap.size) :
 Reads (w.alloc (.cells cs t)) (g + 1) (some ⟨g, 0, none⟩) sz enc [x] := by
 subst hg
 exact reads_new w sz enc [x] cs t fun i y j v hi hj => by
  cases i with
  | zero => simp at hi; subst hi; rw [← hcs] at hj; simpa using hj
  | succ i => simp at hi
theorem below_drewN {B : Nat} {a w : World} (h : Below B a w) (n : Nat) : Below B a (w.drewN n) := ⟨h.os, h.tape, h.output, h.size, h.block⟩
theorem below_at {w w' : World} {cs : Array Value} {t : TypeId} {B : Nat} (g : Nat) (hg : g = w.heap.size) (h : Below B (w.alloc (.cells cs t)) w') (hB : g < B) :
 (∀ i, w'.cell? ⟨g, i, none⟩ = cs[i]?) ∧ (∀ i, w'.frozen? ⟨g, i, none⟩ = false) ∧ g < w'.heap.size := by
 subst hg
 obtain ⟨_, h1, h2, h3, _⟩ := below_new (h.mono (B' := w.heap.size + 1) (by omega))
 exact ⟨h1, h2, h3⟩
theorem wp_region_tail {P : Program} {id : Nat} {Q : Exit → Act → World → Prop} {a : Act} {w : World} {l : List Oper} (n : Nat) (hm : P.follows .mixedOrders = true) (hB : Region.lexTailB .any l.toArray n = true)
 (h : wpStill P l.toArray w.drew (fun a' => wpList P l.toArray Q (l.drop n) a' w.drew) (l.take n) a) : (Code.region id l.toArray true).wp P Q a w := wp_region_still_tail n hm hB h
theorem run_slice_from {P : Program} {t e : TypeId} {i : TypeInfo} (ht : P.underlying t = some (.slice e)) (hi : P.info? e = some i) (A : Option Addr) (n c : Nat) (k : IntKind) (lo : Int) (h0 : 0 ≤ lo) (h1 : lo ≤ n) (W : World) :
 (Instr.slice t (.slice A n c) (some (.int k lo)) none none).run P W = .ok (.slice (if c = lo.toNat then A else A.map (·.add (lo.toNat * i.size))) (n - lo.toNat) (c - lo.toNat)) W := by
 have hb := fun code => run_sliceBound (P := P) (w := W) k lo n code h0 h1
 simp [Instr.slice, run_underlying ht, Instr.sliceBounds, hb, sizeOf, typeInfo, hi]
theorem run_slice_to {P : Program} {t e : TypeId} {i : TypeInfo} (ht : P.underlying t = some (.slice e)) (hi : P.info? e = some i) (A : Option Addr) (n c : Nat) (k : IntKind) (hh : Int) (h0 : 0 ≤ hh) (h1 : hh ≤ c) (W : World) :
 (Instr.slice t (.slice A n c) none (some (.int k hh)) none).run P W = .ok (.slice A hh.toNat c) W := by
 have hb := fun code => run_sliceBound (P := P) (w := W) k hh c code h0 h1
 simp [Instr.slice, run_underlying ht, Instr.sliceBounds, hb, sizeOf, typeInfo, hi, Addr.add]
theorem ret_int {k : IntKind} {a b : Int} (h : a = b) : Ending.returned (.int k a) = .returned (.int k b) := by rw [h]
theorem ret_bool {a b : Bool} (h : a = b) : Ending.returned (.bool a) = .returned (.bool b) := by rw [h]
section
variable {α : Type} {xs : List α} {p : α → Bool} {k : Nat}
theorem any_false (h : ∀ j (hj : j < xs.length), p xs[j] = false) : xs.any p = false := by
 rw [List.any_eq_false]
 intro x hx
 obtain ⟨j, hj, rfl⟩ := List.getElem_of_mem hx
 simp [h j hj]
theorem any_true {x : α} (hk : xs[k]? = some x) (hx : p x = true) : xs.any p = true := List.any_eq_true.2 ⟨x, List.mem_of_getElem? hk, hx⟩
theorem step_no {x : α} (h : ∀ j (hj : j < xs.length), j < k → p xs[j] = false) (hk : xs[k]? = some x) (hx : p x = false) : ∀ j (hj : j < xs.length), j < k + 1 → p xs[j] = false := by
 intro j hj hlt
 rcases Nat.lt_or_ge j k with h1 | h1
 ·exact h j hj h1
 ·obtain rfl : j = k := by omega
  rw [List.getElem?_eq_getElem hj] at hk
  injection hk with hk
  rw [hk, hx]
end
def MapIs (w : World) (r : Nat) (l : List (Int × Value)) : Prop :=
 ∃ es clock, w.heap[r]? = some (.map es clock) ∧ es.toList.map (fun e => (e.key, e.val)) = l.map (fun p => (Value.int .i64 p.1, p.2))
def updL (k : Int) (v : Value) : List (Int × Value) → List (Int × Value)
 | [] => [(k, v)]
 | p :: r => if p.1 = k then (k, v) :: r else p :: updL k v r
def lookL (k : Int) : List (Int × Value) → Option Value
 | [] => none
 | p :: r => if p.1 = k then some p.2 else lookL k r
theorem lookL_upd (k : Int) (v : Value) : ∀ l, lookL k (updL k v l) = some v
 | [] => by simp [updL, lookL]
 | p :: r => by
   unfold updL
   split
   ·simp [lookL]
   ·rename_i h; simp [lookL, h, lookL_upd k v r]
theorem lookL_upd_ne {k k' : Int} (hk : k' ≠ k) (v : Value) : ∀ l, lookL k' (updL k v l) = lookL k' l
 | [] => by simp [updL, lookL, Ne.symm hk]
 | p :: r => by
   unfold updL
   split
   ·rename_i h; subst h; simp [lookL, Ne.symm hk]
   ·simp [lookL, lookL_upd_ne hk v r]
theorem MapIs.lt {w : World} {r : Nat} {l : List (Int × Value)} (h : MapIs w r l) : r < w.heap.size := by
 obtain ⟨es, c, hb, _⟩ := h
 exact (Array.getElem?_eq_some_iff.1 hb).1
theorem MapIs.below {w w' : World} {B r : Nat} {l : List (Int × Value)} (h : MapIs w r l) (hb : Below B w w') (hr : r < B) : MapIs w' r l := by
 obtain ⟨es, c, h1, h2⟩ := h
 exact ⟨es, c, (hb.block r hr).trans h1, h2⟩
theorem MapIs.alloc {w : World} {r : Nat} {l : List (Int × Value)} (h : MapIs w r l) (o : Obj) : MapIs (w.alloc o) r l := h.below ((Below.refl w.heap.size w).alloc (Nat.le_refl _) o) h.lt
theorem MapIs.drew {w : World} {r : Nat} {l : List (Int × Value)} (h : MapIs w r l) : MapIs w.drew r l := h
theorem MapIs.new (w : World) (c : Nat) : MapIs (w.alloc (.map #[] c)) w.heap.size [] := ⟨#[], c, heap_alloc_new w _, rfl⟩
theorem findNow_ints (k : Int) : ∀ (es : List MapEntry) (l : List (Int × Value)) (i : Nat), es.map (fun e => (e.key, e.val)) = l.map (fun p => (Value.int .i64 p.1, p.2)) →
 (∃ j v, Instr.findNow (.int .i64) (.int .i64 k) es i = some (some (i + j, v)) ∧ lookL k l = some v ∧ j < es.length ∧ (es[j]?).map (·.key) = some (.int .i64 k) ∧
   (∀ u, ((es.modify j fun e => { e with key := .int .i64 k, val := u }).map fun e => (e.key, e.val)) = (updL k u l).map (fun p => (Value.int .i64 p.1, p.2)))) ∨
 (Instr.findNow (.int .i64) (.int .i64 k) es i = some none ∧ lookL k l = none ∧ ∀ u, updL k u l = l ++ [(k, u)])
 | [], [], i, _ => .inr ⟨rfl, rfl, fun _ => rfl⟩
 | [], _ :: _, i, h => by simp at h
 | _ :: _, [], i, h => by simp at h
 | e :: es, p :: l, i, h => by
   simp only [List.map_cons, List.cons.injEq, Prod.mk.injEq] at h
   obtain ⟨⟨hk, hv⟩, ht⟩ := h
   by_cases hp : p.1 = k
   ·refine .inl ⟨0, e.val, ?_, ?_, by simp, by simp [hk, hp], fun u => ?_⟩
    ·simp [Instr.findNow, hk, Instr.sameNow, hp]
    ·simp [lookL, hp, hv]
    ·simp [updL, hp, ht]
   ·have hs : Instr.findNow (.int .i64) (.int .i64 k) (e :: es) i = Instr.findNow (.int .i64) (.int .i64 k) es (i + 1) := by
     have hq : (k == p.1) = false := by simpa using fun h => hp h.symm
     simp [Instr.findNow, hk, Instr.sameNow, hq]
    rcases findNow_ints k es l (i + 1) ht with ⟨j, v, h1, h2, h3, h4, h5⟩ | ⟨h1, h2, h3⟩
    ·refine .inl ⟨j + 1, v, ?_, ?_, by simp; omega, by simpa using h4, fun u => ?_⟩
     ·rw [hs, h1]; congr 3; omega
     ·simp [lookL, hp, h2]
     ·simp [updL, hp, hk, hv]; simpa using h5 u
    ·refine .inr ⟨by rw [hs, h1], by simp [lookL, hp, h2], fun u => ?_⟩
     simp [updL, hp, h3]
theorem run_checkKey_int {P : Program} {kt : TypeId} (hk : P.underlying kt = some (.int .i64)) (b : Bool) (k : Int) (w : World) : (Instr.checkKey b 10000 kt (.int .i64 k)).run P w = .ok () w :=
 MapKept.run_checkKey (k := .int .i64 k) hk (by simp [MapKept.IsKey]) b 9999
theorem run_lookup_ints {P : Program} {w : World} {t kt et : TypeId} {r : Nat} {l : List (Int × Value)} (hm : P.underlying t = some (.map kt et)) (hk : P.underlying kt = some (.int .i64))
 (h : MapIs w r l) {z : Value} (hz : (zeroValue et).run P w = .ok z w) (k : Int) :
 (Instr.lookup t (.map (some r)) (.int .i64 k) false).run P w = .ok ((lookL k l).getD z) w ∧
 (Instr.lookup t (.map (some r)) (.int .i64 k) true).run P w = .ok (.tuple #[(lookL k l).getD z, .bool (lookL k l).isSome]) w := by
 obtain ⟨es, c, hb, he⟩ := h
 rcases findNow_ints k es.toList l 0 he with ⟨j, v, h1, h2, _⟩ | ⟨h1, h2, _⟩
 ·constructor <;> simp [Instr.lookup, run_underlying hm, MapKept.run_getObj_map hb, run_checkKey_int hk, MapKept.run_findKey hk h1, h2]
 ·constructor <;> simp [Instr.lookup, run_underlying hm, MapKept.run_getObj_map hb, run_checkKey_int hk, MapKept.run_findKey hk h1, h2, hz]
theorem grown_put {w : World} {r : Nat} (o : Obj) : w.grownBy { w with heap := w.heap.setIfInBounds r o } (some r) := by
 refine ⟨rfl, rfl, rfl, by simp, fun i hi hne => ?_⟩
 have : r ≠ i := fun e => hne (by rw [e])
 simp [this]
theorem run_mapUpdate_ints {P : Program} {w : World} {t kt et : TypeId} {r : Nat} {l : List (Int × Value)} (hm : P.underlying t = some (.map kt et)) (hk : P.underlying kt = some (.int .i64))
 (h : MapIs w r l) (k : Int) (v : Value) :
 ∃ w', (Instr.mapUpdate t (.map (some r)) (.int .i64 k) v).run P w = .ok () w' ∧ MapIs w' r (updL k v l) ∧ w.grownBy w' (some r) ∧ w'.heap.size = w.heap.size := by
 obtain ⟨es, c, hb, he⟩ := h
 have hlt : r < w.heap.size := (Array.getElem?_eq_some_iff.1 hb).1
 rcases findNow_ints k es.toList l 0 he with ⟨j, u, h1, _, hj, hkey, h5⟩ | ⟨h1, _, h3⟩
 ·have hkk : (es[j]?).map (·.key) = some (.int .i64 k) := by simpa using hkey
  refine ⟨{ w with heap := w.heap.setIfInBounds r (.map (es.modify j fun e => { e with key := .int .i64 k, val := v }) c) }, ?_, ⟨es.modify j fun e => { e with key := .int .i64 k, val := v }, c, by simp [hlt], ?_⟩, grown_put _, by simp⟩
  ·simp [Instr.mapUpdate, run_underlying hm, MapKept.run_getObj_map hb, run_checkKey_int hk, MapKept.run_findKey hk h1, hkk, Instr.keyThatStays, Instr.sameBits, MapKept.run_setObj_map _ hb]
  ·have := h5 v
   simpa [Array.toList_modify] using this
 ·refine ⟨{ w with heap := w.heap.setIfInBounds r (.map (es.push { key := .int .i64 k, val := v, born := c }) (c + 1)) }, ?_, ⟨es.push { key := .int .i64 k, val := v, born := c }, c + 1, by simp [hlt], ?_⟩, grown_put _, by simp⟩
  ·simp [Instr.mapUpdate, run_underlying hm, MapKept.run_getObj_map hb, run_checkKey_int hk, MapKept.run_findKey hk h1, MapKept.run_setObj_map _ hb]
  ·simp [h3, he]
end Go.Proofs.YtalmbigebjbaoaaGreatDoor
namespace Go.Proofs.YtalmbigebjbaoaaGreatDoor
open Go.RowKit Go.WideShapes Go.ChangeShapes Go.Deep
section
variable {H : Type} {enc : TypeId × Value → H} {P : Program} {w : World} {base : Nat} {spare : Nat → Bool} {held : Bool}
theorem cell_lt {w : World} {b o : Nat} {v : Value} (h : w.cell? ⟨b, o, none⟩ = some v) : b < w.heap.size := by
 rcases Nat.lt_or_ge b w.heap.size with h1 | h1
 ·exact h1
 ·simp [World.cell?, Array.getElem?_eq_none h1] at h
theorem open_reads {α : Type} [Inhabited α] {en : α → List Value} {Q : α → Prop} {t e : TypeId} {sz : Nat} {v : Value} {d : DataW H} {ps : List MemPlace} (ht : P.underlying t = some (.slice e)) (hsz : P.cellsOf e = sz) (hpos : 0 < sz)
 (hel : ∀ fuel cs x, DataW.trod enc P w base spare held fuel e cs = some x → ∃ y : α, en y = cs ∧ Q y)
 (hok : ∃ a l c, v = .slice a l c) (h : DataW.Trod enc P w base spare held t v d ps) :
 ∃ A c xs, v = .slice A xs.length c ∧ xs.length ≤ c ∧ c ≤ maxLen ∧ Reads w w.heap.size A sz en xs ∧ (∀ y ∈ xs, Q y) ∧ (A = none → xs = [] ∧ c = 0) := by
 obtain ⟨fuel, hf⟩ := h
 obtain ⟨a0, l0, c0, rfl⟩ := hok
 rcases open_slice ht (by simpa [Value.cells] using hf) with ⟨hcs, _⟩ | ⟨a, len, cap, m, n, D, Pl, hcs, _, hl, hm, hmm, _, hi⟩
 ·simp at hcs
  obtain ⟨rfl, rfl, rfl⟩ := hcs
  exact ⟨none, 0, [], by simp, by simp, by simp, Reads.nil_, by simp, fun _ => ⟨rfl, rfl⟩⟩
 ·simp at hcs
  obtain ⟨rfl, rfl, rfl⟩ := hcs
  have hlm : l0 ≤ m := by rw [hmm]; split <;> omega
  have key : ∀ i, i < l0 → ∃ y : α, Q y ∧ ∀ j u, (en y)[j]? = some u → w.cell? (a.add (i * sz + j)) = some u := fun i hil => by
   obtain ⟨cs', h1, h2⟩ := hi i (by omega)
   obtain ⟨y, rfl, hq⟩ := hel _ _ _ h2
   obtain ⟨_, hlen, hc⟩ := World.cells?_some h1
   refine ⟨y, hq, fun j u hj => ?_⟩
   have hjl : j < (en y).length := (List.getElem?_eq_some_iff.1 hj).1
   have := hc j (by omega)
   rw [Go.Deep.add_add, hj, hsz] at this
   exact this
  obtain ⟨f, hfn⟩ := choose_lt (α := α) (p := fun i y => Q y ∧ ∀ j u, (en y)[j]? = some u → w.cell? (a.add (i * sz + j)) = some u) key
  refine ⟨some a, c0, (List.range l0).map f, by simp, by simpa using hl, hm, fun hpos' => ?_, ?_, fun h => by cases h⟩
  ·have h0 : 0 < l0 := by simpa using hpos'
   obtain ⟨cs', h1, _⟩ := hi 0 (by omega)
   obtain ⟨_, hlen, hc⟩ := World.cells?_some h1
   have hc0 := hc 0 (by omega)
   rw [List.getElem?_eq_getElem (by omega)] at hc0
   obtain ⟨b, off, spot⟩ := a
   have hspot : spot = none := by simpa [Addr.add] using World.cell?_spot hc0
   subst hspot
   have hlt : b < w.heap.size := by
    rw [add_plain, add_plain] at hc0
    exact cell_lt hc0
   refine ⟨b, off, rfl, hlt, fun i x j u hi' hj => ?_⟩
   have hil : i < l0 := by
    have := (List.getElem?_eq_some_iff.1 hi').1
    simpa using this
   have hx : f i = x := by simpa [hil] using hi'
   have := (hfn i hil).2 j u (by rw [hx]; exact hj)
   rw [add_plain] at this
   rw [← this, Nat.add_assoc]
  ·intro y hy
   obtain ⟨i, hi', rfl⟩ := List.mem_map.1 hy
   exact (hfn i (by simpa using hi')).1
theorem arg_stays (hl : laidOutB P = true) {t : TypeId} (hr : P.readableRec t = true) (hrow : t < P.types.size) {W W' : World} {v : Value} {d : DataW H} {ps : List MemPlace} {sp : Nat → Bool}
 (h : DataW.Trod enc P W 0 (fun _ => true) true t v d ps) (hb : Below W.heap.size W W') (hlt : ∀ x ∈ ps, x.block < W.heap.size) (hsp : ∀ x ∈ ps, sp x.block = true) :
 DataW.Trod enc P W' 0 sp true t v d ps :=
 WideElems.Trod_stays hl hr hrow h (fun x hx => hb.same (hlt x hx)) (fun x hx => hsp x hx)
theorem args_stay (hl : laidOutB P = true) {W W' : World} {sp : Nat → Bool} (hb : Below W.heap.size W W') :
 ∀ (ts : List TypeId) (vs : List Value) (ds : List (DataW H)) (ps : List MemPlace), (∀ t ∈ ts, P.readableRec t = true ∧ t < P.types.size) →
   DataW.TrodAll enc P W 0 (fun _ => true) true ts vs ds ps → (∀ x ∈ ps, x.block < W.heap.size) → (∀ x ∈ ps, sp x.block = true) → DataW.TrodAll enc P W' 0 sp true ts vs ds ps
 | [], [], [], ps, _, h, _, _ => h
 | t :: ts, v :: vs, d :: ds, ps, hts, h, hlt, hsp => by
   obtain ⟨p, q, h1, h2, rfl⟩ := h
   exact ⟨p, q, arg_stays hl (hts t (by simp)).1 (hts t (by simp)).2 h1 hb (fun x hx => hlt x (by simp [hx])) (fun x hx => hsp x (by simp [hx])),
    args_stay hl hb ts vs ds q (fun t' ht' => hts t' (by simp [ht'])) h2 (fun x hx => hlt x (by simp [hx])) (fun x hx => hsp x (by simp [hx])), rfl⟩
 | [], _ :: _, _, _, _, h, _, _ => h.elim
 | [], [], _ :: _, _, _, h, _, _ => h.elim
 | _ :: _, [], _, _, _, h, _, _ => h.elim
 | _ :: _, _ :: _, [], _, _, h, _, _ => h.elim
theorem law_post (hl : laidOutB P = true) {f : Func} {s : ChangeSpec} {W W' : World} {args : Array Value} {ds gs : List (DataW H)} {before : List MemPlace} {bt : TypeId}
 (hbt : P.underlying bt = some .bool) (hres : f.resultTypes = #[bt]) (hts : ∀ t ∈ f.params.toList, P.readableRec t = true ∧ t < P.types.size) (hgs : s.vars = [])
 (hW : DataW.Whole enc P f.params.toList s.vars false W args.toList ds gs before) (h1 : (s.fn H (ds ++ gs)).results = [.lit (.bool true)]) (h2 : (s.fn H (ds ++ gs)).args = ds) (h3 : (s.fn H (ds ++ gs)).vars = [])
 (hb : Below W.heap.size W W') : s.post enc P f false true false false W args (.bool true) W' := by
 have hlt : ∀ p ∈ before, p.block < W.heap.size := fun p hp => hW.lt p hp
 have hW0 := hW
 obtain ⟨p, q, hA, hV, hbe, hz, hn⟩ := hW
 rw [hgs] at hV
 obtain ⟨hgs0, hq⟩ := trodVars_none hV
 have hb0 : before = p := by rw [hbe, hq, List.append_nil]
 refine ⟨ds, gs, before, [], before, [], hW0, ?_, ?_, ?_, World.keptBut_mono (fun p hp => ⟨hp, Or.inr (by simpa using hp)⟩) (hb.frame (· ∈ before)), fun h => by cases h⟩
 ·rw [h1, hres]
  exact trodAll_mk1 (shut_bool hbt true)
 ·rw [h2]
  refine args_stay hl hb _ _ _ _ hts (by rw [hb0]; exact hA) hlt ?_
  intro x hx
  simpa using hlt x hx
 ·rw [h3, hgs]
  rfl
end
end Go.Proofs.YtalmbigebjbaoaaGreatDoor
