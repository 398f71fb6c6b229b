/- Words for memory, and plain small lemmas, that the walks of this seat share. -/
import Derived.WalkKit
import Derived.WalkSpells
import Derived.WalkLawsBesides
import Derived.Lib.Hide
import Derived.Deep.Draws
import Derived.StillTailTactics
namespace Go.Proofs.Ytgbkhmoplocmkaa
open Go.RowKit

/-- a slice whose elements, of sz cells each, read as a list; it lies in a block under B -/
def Reads {α : Type} (w : World) (B : Nat) (A : Option Addr) (sz : Nat) (enc : α → List Value) (xs : List α) : Prop :=
  0 < xs.length → ∃ b off, A = some ⟨b, off, none⟩ ∧ b < B ∧ ∀ i x j v, xs[i]? = some x → (enc x)[j]? = some v → w.cell? ⟨b, off + i * sz + j, none⟩ = some v

section
variable {α : Type} {w w' : World} {B B' sz k : Nat} {A : Option Addr} {enc : α → List Value} {xs : List α}
theorem Reads.nil_ : Reads w B A sz enc [] := fun h => absurd h (by simp)
theorem Reads.below (h : Reads w B A sz enc xs) (hb : Below B w w') : Reads w' B A sz enc xs := fun hn => by
  obtain ⟨b, off, e, hlt, hc⟩ := h hn
  exact ⟨b, off, e, hlt, fun i x j v hi hj => (hb.cell (p := ⟨b, _, none⟩) hlt).trans (hc i x j v hi hj)⟩
theorem Reads.more (h : Reads w B A sz enc xs) (hB : B ≤ B') : Reads w B' A sz enc xs := fun hn => by
  obtain ⟨b, off, e, hlt, hc⟩ := h hn
  exact ⟨b, off, e, by omega, hc⟩
theorem Reads.alloc (h : Reads w B A sz enc xs) (hB : B ≤ w.heap.size) (o : Obj) : Reads (w.alloc o) B A sz enc xs := h.below ((Below.refl _ _).alloc hB o)
theorem Reads.drew (h : Reads w B A sz enc xs) : Reads w.drew B A sz enc xs := h
theorem Reads.drewN (h : Reads w B A sz enc xs) (n : Nat) : Reads (w.drewN n) B A sz enc xs := h
theorem Reads.at_ (h : Reads w B A sz enc xs) (hk : k < xs.length) :
    ∃ b off x, A = some ⟨b, off, none⟩ ∧ b < B ∧ xs[k]? = some x ∧ ∀ j v, (enc x)[j]? = some v → w.cell? ⟨b, off + k * sz + j, none⟩ = some v := by
  obtain ⟨b, off, e, hlt, hc⟩ := h (by omega)
  exact ⟨b, off, xs[k], e, hlt, List.getElem?_eq_getElem hk, fun j v hj => hc k _ j v (List.getElem?_eq_getElem hk) hj⟩
end

theorem bcell {W w1 : World} (hb : Below W.heap.size W w1) : (∀ b o, b < W.heap.size → w1.cell? ⟨b, o, none⟩ = W.cell? ⟨b, o, none⟩) ∧ (∀ b o, b < W.heap.size → w1.frozen? ⟨b, o, none⟩ = W.frozen? ⟨b, o, none⟩) :=
  ⟨fun b o h => hb.cell (p := ⟨b, o, none⟩) h, fun b o h => hb.frozen (p := ⟨b, o, none⟩) h⟩

/-- behind one new block: what lies below, and the block -/
theorem below_new {w w' : World} {cs : Array Value} {t : TypeId} (h : Below (w.heap.size + 1) (w.alloc (.cells cs t)) w') :
    Below w.heap.size w w' ∧ (∀ i, w'.cell? ⟨w.heap.size, i, none⟩ = cs[i]?) ∧ (∀ i, w'.frozen? ⟨w.heap.size, i, none⟩ = false) ∧ w.heap.size < w'.heap.size ∧ w.heap.size ≤ w'.heap.size := by
  have hs := h.size
  have e : w'.heap[w.heap.size]? = some (.cells cs t (0, 0)) := (h.block _ (by omega)).trans (heap_alloc_new w _)
  refine ⟨((Below.refl _ w).alloc (Nat.le_refl _) _).trans (h.mono (by omega)), fun i => ?_, fun i => ?_, ?_, Nat.le_trans (by simp) h.size⟩
  · simp [World.cell?, e]
  · simp [World.frozen?, e]
  · simp at hs; omega

theorem reads_new {α : Type} (w : World) (sz : Nat) (enc : α → List Value) (xs : List α) (cs : Array Value) (t : TypeId) (h : ∀ i x j v, xs[i]? = some x → (enc x)[j]? = some v → cs[i * sz + j]? = some v) :
    Reads (w.alloc (.cells cs t)) (w.heap.size + 1) (some ⟨w.heap.size, 0, none⟩) sz enc xs := fun _ =>
  ⟨w.heap.size, 0, rfl, by omega, fun i x j v hi hj => by
    have := h i x j v hi hj
    simp [go_sem]
    simpa using this⟩
theorem reads_mk {α : Type} (w : World) (g sz : Nat) (hg : g = w.heap.size) (enc : α → List Value) (xs : List α) (cs : Array Value) (t : TypeId) (h : ∀ i x j v, xs[i]? = some x → (enc x)[j]? = some v → cs[i * sz + j]? = some v) :
    Reads (w.alloc (.cells cs t)) (g + 1) (some ⟨g, 0, none⟩) sz enc xs := by
  subst hg
  exact reads_new w sz enc xs cs t h
def intE (n : Int) : List Value := [.int .i64 n]
theorem reads_ints (w : World) (g : Nat) (hg : g = w.heap.size) (l : List Int) (cs : Array Value) (t : TypeId) (hcs : cs.toList = l.map (Value.int .i64)) :
    Reads (w.alloc (.cells cs t)) (g + 1) (some ⟨g, 0, none⟩) 1 intE l :=
  reads_mk w g 1 hg intE l cs t fun i x j v hi hj => by
    cases j with
    | zero =>
      simp [intE] at hj
      subst hj
      rw [← Array.getElem?_toList, hcs]
      simp [hi]
    | succ j => simp [intE] at hj
/-- one new element, alone in a new block -/
theorem reads_one {α : Type} (w : World) (enc : α → List Value) (x : α) (cs : Array Value) (t : TypeId) (hcs : cs.toList = enc x) (sz g : Nat) (hg : g = w.heap.size) :
    Reads (w.alloc (.cells cs t)) (g + 1) (some ⟨g, 0, none⟩) sz enc [x] := by
  subst hg
  exact reads_new w sz enc [x] cs t fun i y j v hi hj => by
    cases i with
    | zero => simp at hi; subst hi; rw [← hcs] at hj; simpa using hj
    | succ i => simp at hi

theorem below_drewN {B : Nat} {a w : World} (h : Below B a w) (n : Nat) : Below B a (w.drewN n) := ⟨h.os, h.tape, h.output, h.size, h.block⟩

theorem cell_alloc_new3 (w : World) (a b c : Value) (t : TypeId) : (w.alloc (.cells #[a, b, c] t)).cell? ⟨w.heap.size, 0, none⟩ = some a ∧ (w.alloc (.cells #[a, b, c] t)).cell? ⟨w.heap.size, 1, none⟩ = some b ∧ (w.alloc (.cells #[a, b, c] t)).cell? ⟨w.heap.size, 2, none⟩ = some c := by
  exact ⟨by simp [go_sem], by simp [go_sem], by simp [go_sem]⟩

/-- the same, the block by its number -/
theorem below_at {w w' : World} {cs : Array Value} {t : TypeId} {B : Nat} (g : Nat) (hg : g = w.heap.size) (h : Below B (w.alloc (.cells cs t)) w') (hB : g < B) :
    (∀ i, w'.cell? ⟨g, i, none⟩ = cs[i]?) ∧ (∀ i, w'.frozen? ⟨g, i, none⟩ = false) ∧ g < w'.heap.size := by
  subst hg
  obtain ⟨_, h1, h2, h3, _⟩ := below_new (h.mono (B' := w.heap.size + 1) (by omega))
  exact ⟨h1, h2, h3⟩

/-- a region whose first n operations only read, the others coming in one forced order -/
theorem wp_region_tail {P : Program} {id : Nat} {Q : Exit → Act → World → Prop} {a : Act} {w : World} {l : List Oper} (n : Nat) (hm : P.follows .mixedOrders = true) (hB : Region.lexTailB .any l.toArray n = true)
    (h : wpStill P l.toArray w.drew (fun a' => wpList P l.toArray Q (l.drop n) a' w.drew) (l.take n) a) : (Code.region id l.toArray true).wp P Q a w := wp_region_still_tail n hm hB h

/-- x[lo:] of a slice -/
theorem run_slice_from {P : Program} {t e : TypeId} {i : TypeInfo} (ht : P.underlying t = some (.slice e)) (hi : P.info? e = some i) (A : Option Addr) (n c : Nat) (k : IntKind) (lo : Int) (h0 : 0 ≤ lo) (h1 : lo ≤ n) (W : World) :
    (Instr.slice t (.slice A n c) (some (.int k lo)) none none).run P W = .ok (.slice (if c = lo.toNat then A else A.map (·.add (lo.toNat * i.size))) (n - lo.toNat) (c - lo.toNat)) W := by
  have hb := fun code => run_sliceBound (P := P) (w := W) k lo n code h0 h1
  simp [Instr.slice, run_underlying ht, Instr.sliceBounds, hb, sizeOf, typeInfo, hi]
/-- x[:hi] of a slice -/
theorem run_slice_to {P : Program} {t e : TypeId} {i : TypeInfo} (ht : P.underlying t = some (.slice e)) (hi : P.info? e = some i) (A : Option Addr) (n c : Nat) (k : IntKind) (hh : Int) (h0 : 0 ≤ hh) (h1 : hh ≤ c) (W : World) :
    (Instr.slice t (.slice A n c) none (some (.int k hh)) none).run P W = .ok (.slice A hh.toNat c) W := by
  have hb := fun code => run_sliceBound (P := P) (w := W) k hh c code h0 h1
  simp [Instr.slice, run_underlying ht, Instr.sliceBounds, hb, sizeOf, typeInfo, hi, Addr.add]
theorem Reads.drop {α : Type} {w : World} {B sz c k : Nat} {A : Option Addr} {enc : α → List Value} {xs : List α} (h : Reads w B A sz enc xs) (hk : k ≤ xs.length) (hc : xs.length ≤ c) :
    Reads w B (if c = k then A else A.map (·.add (k * sz))) sz enc (xs.drop k) := fun hn => by
  rw [List.length_drop] at hn
  obtain ⟨b, off, e, hlt, hcell⟩ := h (by omega)
  subst e
  rw [if_neg (by omega)]
  refine ⟨b, off + k * sz, by simp [Go.WideShapes.add_plain], hlt, fun i x j v hi hj => ?_⟩
  rw [List.getElem?_drop] at hi
  have := hcell (k + i) x j v hi hj
  rw [Nat.add_mul] at this
  rw [← this]
  congr 2
  omega
theorem Reads.take {α : Type} {w : World} {B sz k : Nat} {A : Option Addr} {enc : α → List Value} {xs : List α} (h : Reads w B A sz enc xs) : Reads w B A sz enc (xs.take k) := fun hn => by
  rw [List.length_take] at hn
  obtain ⟨b, off, e, hlt, hcell⟩ := h (by omega)
  exact ⟨b, off, e, hlt, fun i x j v hi hj => hcell i x j v (by rw [List.getElem?_take] at hi; split at hi <;> simp_all) hj⟩

theorem ret_int {k : IntKind} {a b : Int} (h : a = b) : Ending.returned (.int k a) = .returned (.int k b) := by rw [h]
theorem ret_bool {a b : Bool} (h : a = b) : Ending.returned (.bool a) = .returned (.bool b) := by rw [h]

section
variable {α : Type} {xs : List α} {p : α → Bool} {k : Nat}
theorem find_none (h : ∀ j (hj : j < xs.length), p xs[j] = false) : xs.find? p = none := by
  rw [List.find?_eq_none]
  intro x hx
  obtain ⟨j, hj, rfl⟩ := List.getElem_of_mem hx
  simp [h j hj]
theorem any_false (h : ∀ j (hj : j < xs.length), p xs[j] = false) : xs.any p = false := by
  rw [List.any_eq_false]
  intro x hx
  obtain ⟨j, hj, rfl⟩ := List.getElem_of_mem hx
  simp [h j hj]
theorem find_some {x : α} (h : ∀ j (hj : j < xs.length), j < k → p xs[j] = false) (hk : xs[k]? = some x) (hx : p x = true) : xs.find? p = some x := by
  induction xs generalizing k with
  | nil => simp at hk
  | cons y ys ih =>
    cases k with
    | zero => simp at hk; subst hk; simp [hx]
    | succ k =>
      have h0 : p y = false := h 0 (by simp) (by omega)
      simp only [List.find?_cons, h0]
      exact ih (k := k) (fun j hj hlt => h (j + 1) (by simp; omega) (by omega)) (by simpa using hk)
theorem any_true {x : α} (hk : xs[k]? = some x) (hx : p x = true) : xs.any p = true := List.any_eq_true.2 ⟨x, List.mem_of_getElem? hk, hx⟩
theorem step_no {x : α} (h : ∀ j (hj : j < xs.length), j < k → p xs[j] = false) (hk : xs[k]? = some x) (hx : p x = false) : ∀ j (hj : j < xs.length), j < k + 1 → p xs[j] = false := by
  intro j hj hlt
  rcases Nat.lt_or_ge j k with h1 | h1
  · exact h j hj h1
  · obtain rfl : j = k := by omega
    rw [List.getElem?_eq_getElem hj] at hk
    injection hk with hk
    rw [hk, hx]
end
end Go.Proofs.Ytgbkhmoplocmkaa
