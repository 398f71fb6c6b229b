/- Maps with int keys that a call makes: what a store and a look-up do, as plain equations of their runs. -/
import Derived.Test.YtgimpbcdgfkdmaaLib
import Derived.Maps.Own
namespace Go.Proofs.Ytgimpbcdgfkdmaa
open Go.RowKit

/-- block r is a map; its entries, in their order, are l -/
def MapIs (w : World) (r : Nat) (l : List (Int × Value)) : Prop :=
  ∃ es clock, w.heap[r]? = some (.map es clock) ∧ es.toList.map (fun e => (e.key, e.val)) = l.map (fun p => (Value.int .i64 p.1, p.2))

def updL (k : Int) (v : Value) : List (Int × Value) → List (Int × Value)
  | [] => [(k, v)]
  | p :: r => if p.1 = k then (k, v) :: r else p :: updL k v r
def lookL (k : Int) : List (Int × Value) → Option Value
  | [] => none
  | p :: r => if p.1 = k then some p.2 else lookL k r

theorem lookL_upd (k : Int) (v : Value) : ∀ l, lookL k (updL k v l) = some v
  | [] => by simp [updL, lookL]
  | p :: r => by
    unfold updL
    split
    · simp [lookL]
    · rename_i h; simp [lookL, h, lookL_upd k v r]
theorem lookL_upd_ne {k k' : Int} (hk : k' ≠ k) (v : Value) : ∀ l, lookL k' (updL k v l) = lookL k' l
  | [] => by simp [updL, lookL, Ne.symm hk]
  | p :: r => by
    unfold updL
    split
    · rename_i h; subst h; simp [lookL, Ne.symm hk]
    · simp [lookL, lookL_upd_ne hk v r]

theorem MapIs.lt {w : World} {r : Nat} {l : List (Int × Value)} (h : MapIs w r l) : r < w.heap.size := by
  obtain ⟨es, c, hb, _⟩ := h
  exact (Array.getElem?_eq_some_iff.1 hb).1
theorem MapIs.below {w w' : World} {B r : Nat} {l : List (Int × Value)} (h : MapIs w r l) (hb : Below B w w') (hr : r < B) : MapIs w' r l := by
  obtain ⟨es, c, h1, h2⟩ := h
  exact ⟨es, c, (hb.block r hr).trans h1, h2⟩
theorem MapIs.alloc {w : World} {r : Nat} {l : List (Int × Value)} (h : MapIs w r l) (o : Obj) : MapIs (w.alloc o) r l := h.below ((Below.refl w.heap.size w).alloc (Nat.le_refl _) o) h.lt
theorem MapIs.setCell {w : World} {r : Nat} {l : List (Int × Value)} (h : MapIs w r l) {p : Addr} (hp : p.block ≠ r) (u : Value) : MapIs (w.setCell p u) r l := by
  obtain ⟨es, c, h1, h2⟩ := h
  exact ⟨es, c, (Below.heap_setCell w p u r (Ne.symm hp)).trans h1, h2⟩
theorem MapIs.drewN {w : World} {r : Nat} {l : List (Int × Value)} (h : MapIs w r l) (n : Nat) : MapIs (w.drewN n) r l := h
theorem MapIs.drew {w : World} {r : Nat} {l : List (Int × Value)} (h : MapIs w r l) : MapIs w.drew r l := h
theorem MapIs.new (w : World) (c : Nat) : MapIs (w.alloc (.map #[] c)) w.heap.size [] := ⟨#[], c, heap_alloc_new w _, rfl⟩

theorem findNow_ints (k : Int) : ∀ (es : List MapEntry) (l : List (Int × Value)) (i : Nat), es.map (fun e => (e.key, e.val)) = l.map (fun p => (Value.int .i64 p.1, p.2)) →
    (∃ j v, Instr.findNow (.int .i64) (.int .i64 k) es i = some (some (i + j, v)) ∧ lookL k l = some v ∧ j < es.length ∧ (es[j]?).map (·.key) = some (.int .i64 k) ∧
      (∀ u, ((es.modify j fun e => { e with key := .int .i64 k, val := u }).map fun e => (e.key, e.val)) = (updL k u l).map (fun p => (Value.int .i64 p.1, p.2)))) ∨
    (Instr.findNow (.int .i64) (.int .i64 k) es i = some none ∧ lookL k l = none ∧ ∀ u, updL k u l = l ++ [(k, u)])
  | [], [], i, _ => .inr ⟨rfl, rfl, fun _ => rfl⟩
  | [], _ :: _, i, h => by simp at h
  | _ :: _, [], i, h => by simp at h
  | e :: es, p :: l, i, h => by
    simp only [List.map_cons, List.cons.injEq, Prod.mk.injEq] at h
    obtain ⟨⟨hk, hv⟩, ht⟩ := h
    by_cases hp : p.1 = k
    · refine .inl ⟨0, e.val, ?_, ?_, by simp, by simp [hk, hp], fun u => ?_⟩
      · simp [Instr.findNow, hk, Instr.sameNow, hp]
      · simp [lookL, hp, hv]
      · simp [updL, hp, ht]
    · have hs : Instr.findNow (.int .i64) (.int .i64 k) (e :: es) i = Instr.findNow (.int .i64) (.int .i64 k) es (i + 1) := by
        have hq : (k == p.1) = false := by simpa using fun h => hp h.symm
        simp [Instr.findNow, hk, Instr.sameNow, hq]
      rcases findNow_ints k es l (i + 1) ht with ⟨j, v, h1, h2, h3, h4, h5⟩ | ⟨h1, h2, h3⟩
      · refine .inl ⟨j + 1, v, ?_, ?_, by simp; omega, by simpa using h4, fun u => ?_⟩
        · rw [hs, h1]; congr 3; omega
        · simp [lookL, hp, h2]
        · simp [updL, hp, hk, hv]; simpa using h5 u
      · refine .inr ⟨by rw [hs, h1], by simp [lookL, hp, h2], fun u => ?_⟩
        simp [updL, hp, h3]

theorem run_checkKey_int {P : Program} {kt : TypeId} (hk : P.underlying kt = some (.int .i64)) (b : Bool) (k : Int) (w : World) : (Instr.checkKey b 10000 kt (.int .i64 k)).run P w = .ok () w :=
  MapKept.run_checkKey (k := .int .i64 k) hk (by simp [MapKept.IsKey]) b 9999

theorem run_lookup_ints {P : Program} {w : World} {t kt et : TypeId} {r : Nat} {l : List (Int × Value)} (hm : P.underlying t = some (.map kt et)) (hk : P.underlying kt = some (.int .i64))
    (h : MapIs w r l) {z : Value} (hz : (zeroValue et).run P w = .ok z w) (k : Int) :
    (Instr.lookup t (.map (some r)) (.int .i64 k) false).run P w = .ok ((lookL k l).getD z) w ∧
    (Instr.lookup t (.map (some r)) (.int .i64 k) true).run P w = .ok (.tuple #[(lookL k l).getD z, .bool (lookL k l).isSome]) w := by
  obtain ⟨es, c, hb, he⟩ := h
  rcases findNow_ints k es.toList l 0 he with ⟨j, v, h1, h2, _⟩ | ⟨h1, h2, _⟩
  · constructor <;> simp [Instr.lookup, run_underlying hm, MapKept.run_getObj_map hb, run_checkKey_int hk, MapKept.run_findKey hk h1, h2]
  · constructor <;> simp [Instr.lookup, run_underlying hm, MapKept.run_getObj_map hb, run_checkKey_int hk, MapKept.run_findKey hk h1, h2, hz]

theorem grown_put {w : World} {r : Nat} (o : Obj) : w.grownBy { w with heap := w.heap.setIfInBounds r o } (some r) := by
  refine ⟨rfl, rfl, rfl, by simp, fun i hi hne => ?_⟩
  have : r ≠ i := fun e => hne (by rw [e])
  simp [this]

theorem run_mapUpdate_ints {P : Program} {w : World} {t kt et : TypeId} {r : Nat} {l : List (Int × Value)} (hm : P.underlying t = some (.map kt et)) (hk : P.underlying kt = some (.int .i64))
    (h : MapIs w r l) (k : Int) (v : Value) :
    ∃ w', (Instr.mapUpdate t (.map (some r)) (.int .i64 k) v).run P w = .ok () w' ∧ MapIs w' r (updL k v l) ∧ w.grownBy w' (some r) ∧ w'.heap.size = w.heap.size := by
  obtain ⟨es, c, hb, he⟩ := h
  have hlt : r < w.heap.size := (Array.getElem?_eq_some_iff.1 hb).1
  rcases findNow_ints k es.toList l 0 he with ⟨j, u, h1, _, hj, hkey, h5⟩ | ⟨h1, _, h3⟩
  · have hkk : (es[j]?).map (·.key) = some (.int .i64 k) := by simpa using hkey
    refine ⟨{ w with heap := w.heap.setIfInBounds r (.map (es.modify j fun e => { e with key := .int .i64 k, val := v }) c) }, ?_, ⟨es.modify j fun e => { e with key := .int .i64 k, val := v }, c, by simp [hlt], ?_⟩, grown_put _, by simp⟩
    · simp [Instr.mapUpdate, run_underlying hm, MapKept.run_getObj_map hb, run_checkKey_int hk, MapKept.run_findKey hk h1, hkk, Instr.keyThatStays, Instr.sameBits, MapKept.run_setObj_map _ hb]
    · have := h5 v
      simpa [Array.toList_modify] using this
  · refine ⟨{ w with heap := w.heap.setIfInBounds r (.map (es.push { key := .int .i64 k, val := v, born := c }) (c + 1)) }, ?_, ⟨es.push { key := .int .i64 k, val := v, born := c }, c + 1, by simp [hlt], ?_⟩, grown_put _, by simp⟩
    · simp [Instr.mapUpdate, run_underlying hm, MapKept.run_getObj_map hb, run_checkKey_int hk, MapKept.run_findKey hk h1, MapKept.run_setObj_map _ hb]
    · simp [h3, he]
end Go.Proofs.Ytgimpbcdgfkdmaa
