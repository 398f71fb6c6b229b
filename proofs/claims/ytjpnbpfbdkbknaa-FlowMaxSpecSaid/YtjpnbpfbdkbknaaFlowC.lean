/- A network in memory; capacity, end, push, usable. -/
import Derived.Test.YtjpnbpfbdkbknaaFlowB
import Derived.Test.YtjpnbpfbdkbknaaAppLib
import Derived.Laws.Rows
namespace Go.Proofs.Ytjpnbpfbdkbknaa
open Go.RowKit Go.Shelf
set_option linter.unusedSimpArgs false
set_option linter.unusedVariables false

/-- a slice's header -/
structure Sl where
  a : Option Addr
  n : Nat
  c : Nat
  deriving Inhabited
def Sl.v (s : Sl) : Value := .slice s.a s.n s.c
/-- a header that reads as a list; it lies in a block of the set P -/
def SlR {α : Type} (w : World) (P : Nat → Prop) (sz : Nat) (en : α → List Value) (s : Sl) (xs : List α) : Prop :=
  s.n = xs.length ∧ s.n ≤ s.c ∧ s.c ≤ maxLen ∧ (s.a = none → s.c = 0) ∧ Reads w w.heap.size s.a sz en xs ∧ (0 < xs.length → ∀ a, s.a = some a → P a.block)
/-- the blocks of P are as they were -/
def Kp (P : Nat → Prop) (w w' : World) : Prop := w.heap.size ≤ w'.heap.size ∧ ∀ b, P b → b < w.heap.size → w'.heap[b]? = w.heap[b]?
theorem Kp.of_below {P : Nat → Prop} {w w' : World} (h : Below w.heap.size w w') : Kp P w w' := ⟨h.size, fun b _ hb => h.block b hb⟩
theorem Kp.of_below' {P : Nat → Prop} {w w' : World} {B : Nat} (h : Below B w w') (hB : ∀ b, P b → b < B) : Kp P w w' := ⟨h.size, fun b hp hb => h.block b (hB b hp)⟩
theorem Kp.of_grown {P : Nat → Prop} {w w' : World} {g : Nat} (h : w.grownBy w' (some g)) (hg : ¬ P g) : Kp P w w' := ⟨h.size, fun b hb hl => h.block b hl (fun e => hg (by injection e with e; rw [e] at hb; exact hb))⟩
theorem Kp.refl (P : Nat → Prop) (w : World) : Kp P w w := ⟨Nat.le_refl _, fun _ _ _ => rfl⟩
theorem Kp.trans {P : Nat → Prop} {w w' w2 : World} (h : Kp P w w') (k : Kp P w' w2) : Kp P w w2 := ⟨Nat.le_trans h.1 k.1, fun b hb hl => (k.2 b hb (by have := h.1; omega)).trans (h.2 b hb hl)⟩
section
variable {α : Type} {w w' : World} {P Q : Nat → Prop} {sz : Nat} {en : α → List Value} {s : Sl} {xs : List α}
theorem SlR.keep (h : SlR w P sz en s xs) (hk : Kp P w w') : SlR w' P sz en s xs := by
  refine ⟨h.1, h.2.1, h.2.2.1, h.2.2.2.1, fun hn => ?_, h.2.2.2.2.2⟩
  obtain ⟨b, off, e, hlt, hc⟩ := h.2.2.2.2.1 hn
  have hP := h.2.2.2.2.2 hn _ e
  exact ⟨b, off, e, Nat.lt_of_lt_of_le hlt hk.1, fun i x j v hi hj => (World.cell?_of_block (a := ⟨b, _, none⟩) (hk.2 b hP hlt)).trans (hc i x j v hi hj)⟩
theorem SlR.step (h : SlR w P sz en s xs) (hb : Below w.heap.size w w') : SlR w' P sz en s xs := h.keep (Kp.of_below hb)
theorem SlR.mono (h : SlR w P sz en s xs) (hq : ∀ b, P b → Q b) : SlR w Q sz en s xs := ⟨h.1, h.2.1, h.2.2.1, h.2.2.2.1, h.2.2.2.2.1, fun hn a e => hq _ (h.2.2.2.2.2 hn a e)⟩
theorem SlR.reads (h : SlR w P sz en s xs) : Reads w w.heap.size s.a sz en xs := h.2.2.2.2.1
theorem SlR.nil_ (w : World) (P : Nat → Prop) (sz : Nat) (en : α → List Value) : SlR w P sz en ⟨none, 0, 0⟩ [] := ⟨rfl, Nat.le_refl _, by simp, fun _ => rfl, Reads.nil_, fun h => by simp at h⟩
theorem SlR.of_owns {base : Nat} {e : TypeId} {A : Option Addr} {n c : Nat} (hen : ∀ y, (en y).length = sz) (h : Owns w base e sz en (.slice A n c) xs) : SlR w (fun b => base ≤ b) sz en ⟨A, n, c⟩ xs := by
  have hr := h.reads hen
  rcases h.form with ⟨hv, rfl⟩ | ⟨g, cap, hv, hg, _, hm, hl⟩
  · cases hv; exact SlR.nil_ _ _ _ _
  · cases hv; exact ⟨rfl, hl, hm, (fun h => by cases h), hr, fun _ a e => by cases e; exact hg⟩
end
def natE (n : Nat) : List Value := [.int .i64 n]

/-- the flows, in their block -/
def FlAt (w : World) (F : Nat) (xs : List Int) : Prop := w.heap[F]? = some (.cells (xs.map (Value.int .i64)).toArray 3 (0, 0))
theorem FlAt.step {w w' : World} {F : Nat} {xs : List Int} (h : FlAt w F xs) (hb : Below w.heap.size w w') : FlAt w' F xs := (hb.block F (Array.getElem?_eq_some_iff.1 h).1).trans h
theorem FlAt.lt {w : World} {F : Nat} {xs : List Int} (h : FlAt w F xs) : F < w.heap.size := (Array.getElem?_eq_some_iff.1 h).1
theorem FlAt.cell {w : World} {F : Nat} {xs : List Int} (h : FlAt w F xs) {i : Nat} (hi : i < xs.length) : w.cell? ⟨F, i, none⟩ = some (.int .i64 (xs.getD i 0)) := by
  unfold FlAt at h
  simp [World.cell?, h, List.getD_eq_getElem?_getD, List.getElem?_eq_getElem hi]
theorem FlAt.free {w : World} {F : Nat} {xs : List Int} (h : FlAt w F xs) (i : Nat) : w.frozen? ⟨F, i, none⟩ = false := by
  unfold FlAt at h
  simp [World.frozen?, h]

/-- a network: its box B, its edges, where the flows lie, and which residual edges begin at each node -/
def Net (w : World) (P : Nat → Prop) (B F : Nat) (n : Nat) (l : List Ed) (adj : List (List Nat)) : Prop :=
  ∃ A c g, w.cell? ⟨B, 0, none⟩ = some (.slice A l.length c) ∧ w.cell? ⟨B, 1, none⟩ = some (.slice (some ⟨F, 0, none⟩) l.length l.length) ∧ w.cell? ⟨B, 2, none⟩ = some (.slice (some ⟨g, 0, none⟩) n n) ∧
    P B ∧ P g ∧ B < w.heap.size ∧ g < w.heap.size ∧ SlR w P 3 Ed.enc ⟨A, l.length, c⟩ l ∧
    ∃ hs : List Sl, hs.length = n ∧ adj.length = n ∧ (∀ (k : Nat) (h : Sl), hs[k]? = some h → w.cell? ⟨g, k, none⟩ = some (.slice h.a h.n h.c)) ∧ ∀ (k : Nat) (h : Sl) (ls : List Nat), hs[k]? = some h → adj[k]? = some ls → SlR w P 1 natE h ls
theorem Net.keep {w w' : World} {P : Nat → Prop} {B F n : Nat} {l : List Ed} {adj : List (List Nat)} (h : Net w P B F n l adj) (hk : Kp P w w') : Net w' P B F n l adj := by
  obtain ⟨A, c, g, h0, h1, h2, h3, h4, h5, h6, h7, hs, h8, h9, h10, h11⟩ := h
  refine ⟨A, c, g, ?_, ?_, ?_, h3, h4, Nat.lt_of_lt_of_le h5 hk.1, Nat.lt_of_lt_of_le h6 hk.1, h7.keep hk, hs, h8, h9, fun k h e => ?_, fun k h ls e1 e2 => (h11 k h ls e1 e2).keep hk⟩
  · exact (World.cell?_of_block (a := ⟨B, 0, none⟩) (hk.2 B h3 h5)).trans h0
  · exact (World.cell?_of_block (a := ⟨B, 1, none⟩) (hk.2 B h3 h5)).trans h1
  · exact (World.cell?_of_block (a := ⟨B, 2, none⟩) (hk.2 B h3 h5)).trans h2
  · exact (World.cell?_of_block (a := ⟨g, k, none⟩) (hk.2 g h4 h6)).trans (h10 k h e)
theorem Net.step {w w' : World} {P : Nat → Prop} {B F n : Nat} {l : List Ed} {adj : List (List Nat)} (h : Net w P B F n l adj) (hb : Below w.heap.size w w') : Net w' P B F n l adj := h.keep (Kp.of_below hb)

/-- what a step reads of the network -/
theorem Net.flowCell {w : World} {P : Nat → Prop} {B F n : Nat} {l : List Ed} {adj : List (List Nat)} (h : Net w P B F n l adj) : ∃ A c, w.cell? ⟨B, 0, none⟩ = some (.slice A l.length c) ∧ w.cell? ⟨B, 1, none⟩ = some (.slice (some ⟨F, 0, none⟩) l.length l.length) ∧ B < w.heap.size ∧ Reads w w.heap.size A 3 Ed.enc l := by
  obtain ⟨A, c, g, h0, h1, h2, h3, h4, h5, h6, h7, _⟩ := h
  exact ⟨A, c, h0, h1, h5, h7.reads⟩
theorem getD_some {α : Type} {xs : List α} {i : Nat} {x d : α} (h : xs[i]? = some x) : xs.getD i d = x := by simp [List.getD_eq_getElem?_getD, h]

set_option maxHeartbeats 2000000 in
theorem capacity_any {P : Nat → Prop} {B F n : Nat} {l : List Ed} {adj : List (List Nat)} {xs : List Int} (r : Nat) (w : World) (h : Net w P B F n l adj) (hf : FlAt w F xs) (hb : Bd l xs) (hm : ∀ e ∈ l, e.m ≤ 1073741824) (hr : r < 2 * l.length) (hr2 : r < 200000) :
    Calls Try.prog 34 #[.pointer (some ⟨B, 0, none⟩), .int .i64 r] w fun e w' => e = .returned (.int .i64 (capR l xs r)) ∧ Below w.heap.size w w' := by
  obtain ⟨A, c, k0, k1, hB, hR⟩ := h.flowCell
  obtain ⟨i, hi⟩ : ∃ i, i = r / 2 := ⟨_, rfl⟩
  have hil : i < l.length := by omega
  have hq : (r : Int) / 2 = (i : Int) := by omega
  obtain ⟨hxl, hbd⟩ := (bd_iff l xs).1 hb
  obtain ⟨bb, off, x, rfl, hbb, hxk, hc⟩ := hR.at_ hil
  have c2 := hc 2 _ rfl
  have f0 := hf.cell (i := i) (by omega)
  have f1 := hf.lt
  obtain ⟨z, hz⟩ : ∃ z, z = xs.getD i 0 := ⟨_, rfl⟩
  have hx : l.getD i default = x := getD_some hxk
  have hbz := hbd i hil
  rw [← hz, hx] at hbz
  rw [← hz] at f0
  have hxm := hm x (List.mem_of_getElem? hxk)
  have hE : capR l xs r = if r % 2 = 0 then x.m - z else z := by unfold capR; rw [← hi, hx, hz]
  have HE := Lib.hid hE
  obtain ⟨z0, z1⟩ := hbz
  clear hE hc hR hbd hb hf h hm hx hz
  rcases Nat.mod_two_eq_zero_or_one r with hp | hp
  · have hp1 : (r : Int) % 2 = 0 := by omega
    have HP := Lib.hid hp
    clear hp hi
    go_enter Try.func34, Try.ntmps34
    go_wp2_with fail
    go_quiet (fail)
    go_wp2_with fail
    go_ret
    exact ⟨by rw [HE.out, if_pos HP.out]; rfl, below_drewN (Below.refl _ _) _⟩
  · have hp1 : (r : Int) % 2 = 1 := by omega
    have HP := Lib.hid hp
    clear hp hi
    go_enter Try.func34, Try.ntmps34
    go_wp2_with fail
    go_ret
    exact ⟨by rw [HE.out, if_neg (by rw [HP.out]; decide)]; rfl, Below.refl _ _⟩
theorem end_any {P : Nat → Prop} {B F n : Nat} {l : List Ed} {adj : List (List Nat)} (r : Nat) (w : World) (h : Net w P B F n l adj) (hr : r < 2 * l.length) (hr2 : r < 200000) :
    Calls Try.prog 32 #[.pointer (some ⟨B, 0, none⟩), .int .i64 r] w fun e w' => e = .returned (.int .i64 (endR l r)) ∧ Below w.heap.size w w' := by
  obtain ⟨A, c, k0, k1, hB, hR⟩ := h.flowCell
  obtain ⟨i, hi⟩ : ∃ i, i = r / 2 := ⟨_, rfl⟩
  have hil : i < l.length := by omega
  have hq : (r : Int) / 2 = (i : Int) := by omega
  obtain ⟨bb, off, x, rfl, hbb, hxk, hc⟩ := hR.at_ hil
  have c0 := hc 0 _ rfl
  have c1 := hc 1 _ rfl
  simp only [Nat.add_zero] at c0
  have hx : l.getD i default = x := getD_some hxk
  have hE : endR l r = if r % 2 = 0 then x.t else x.f := by unfold endR; rw [← hi, hx]
  have HE := Lib.hid hE
  clear hE hc hR h hx k1
  rcases Nat.mod_two_eq_zero_or_one r with hp | hp
  · have hp1 : (r : Int) % 2 = 0 := by omega
    have HP := Lib.hid hp
    clear hp hi
    go_enter Try.func32, Try.ntmps32
    go_wp2_with fail
    go_ret
    exact ⟨by rw [HE.out, if_pos HP.out]; rfl, Below.refl _ _⟩
  · have hp1 : (r : Int) % 2 = 1 := by omega
    have HP := Lib.hid hp
    clear hp hi
    go_enter Try.func32, Try.ntmps32
    go_wp2_with fail
    go_ret
    exact ⟨by rw [HE.out, if_neg (by rw [HP.out]; decide)]; rfl, Below.refl _ _⟩
/-- what push leaves -/
theorem push_any {P : Nat → Prop} {B F n : Nat} {l : List Ed} {adj : List (List Nat)} {xs : List Int} (r : Nat) (k : Int) (w : World) (h : Net w P B F n l adj) (hf : FlAt w F xs) (hxl : xs.length = l.length) (hr : r < 2 * l.length) (hr2 : r < 200000)
    (hz : -4611686018427387904 ≤ xs.getD (r / 2) 0 ∧ xs.getD (r / 2) 0 ≤ 4611686018427387904) (hk : -4611686018427387000 ≤ k ∧ k ≤ 4611686018427387000) :
    Calls Try.prog 36 #[.pointer (some ⟨B, 0, none⟩), .int .i64 r, .int .i64 k] w fun e w' => e = .returned (.tuple #[]) ∧ w' = w.setCell ⟨F, r / 2, none⟩ (.int .i64 ((pushR xs k r).getD (r / 2) 0)) := by
  obtain ⟨A, c, k0, k1, hB, hR⟩ := h.flowCell
  obtain ⟨i, hi⟩ : ∃ i, i = r / 2 := ⟨_, rfl⟩
  have hil : i < l.length := by omega
  have hq : (r : Int) / 2 = (i : Int) := by omega
  have f0 := hf.cell (i := i) (by omega)
  have f1 := hf.lt
  have f2 := hf.free i
  rw [← hi] at hz ⊢
  have hE : (pushR xs k r).getD i 0 = xs.getD i 0 + if r % 2 = 0 then k else -k := by unfold pushR; rw [← hi, getD_set _ _ _ _ (by omega), if_pos rfl]
  rw [hE]
  obtain ⟨z, hz'⟩ : ∃ z, z = xs.getD i 0 := ⟨_, rfl⟩
  rw [← hz'] at hz f0 ⊢
  obtain ⟨z0, z1⟩ := hz
  obtain ⟨g0, g1⟩ := hk
  clear hE hR hf h hz' k0
  rcases Nat.mod_two_eq_zero_or_one r with hp | hp
  · have hp1 : (r : Int) % 2 = 0 := by omega
    rw [if_pos hp]
    clear hp hi
    go_enter Try.func36, Try.ntmps36
    go_wp2_with fail
    exact bodyPost_end (v := .tuple #[]) (by simp [results, Try.results36, go_sem]) rfl ⟨rfl, rfl⟩
  · have hp1 : (r : Int) % 2 = 1 := by omega
    rw [if_neg (by omega)]
    clear hp hi
    go_enter Try.func36, Try.ntmps36
    go_wp2_with fail
    exact bodyPost_end (v := .tuple #[]) (by simp [results, Try.results36, go_sem]) rfl ⟨rfl, rfl⟩
theorem FlAt.set {w : World} {F : Nat} {xs : List Int} (h : FlAt w F xs) (i : Nat) (v : Int) : FlAt (w.setCell ⟨F, i, none⟩ (.int .i64 v)) F (xs.set i v) := by
  unfold FlAt at *
  rw [heap_setCell_same w F i _ _ _ h]
  congr 2
  apply Array.ext'
  simp [List.map_set]
theorem push_row (xs : List Int) (k : Int) (r : Nat) (h : r / 2 < xs.length) : xs.set (r / 2) ((pushR xs k r).getD (r / 2) 0) = pushR xs k r := by
  unfold pushR
  rw [getD_set _ _ _ _ h, if_pos rfl]

theorem usable_any (B : Nat) (v : Int) (w : World) :
    Calls Try.prog 41 #[.pointer (some ⟨B, 0, none⟩), .int .i64 v] w fun e w' =>
      e = .returned (.func (.func 43) #[] #[.pointer (some ⟨w.heap.size, 0, none⟩), .pointer (some ⟨w.heap.size + 1, 0, none⟩)]) ∧
      w' = (w.alloc (.cells #[.pointer (some ⟨B, 0, none⟩)] 49)).alloc (.cells #[.int .i64 v] 3) := by
  go_enter Try.func41, Try.ntmps41
  go_wp2_with fail
  go_ret
  exact ⟨rfl, rfl⟩
end Go.Proofs.Ytjpnbpfbdkbknaa
