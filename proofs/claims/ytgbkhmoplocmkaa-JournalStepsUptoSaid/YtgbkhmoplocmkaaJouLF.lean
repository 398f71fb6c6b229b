/- What lies in memory in the drawn regions of JournalSteps: boxes may be made at any time. -/
import Derived.Test.YtgbkhmoplocmkaaJouLB
import Derived.Test.YtgbkhmoplocmkaaJouG
import Derived.Test.YtgbkhmoplocmkaaJouK
namespace Go.Proofs.Ytgbkhmoplocmkaa
open Go.RowKit Go.Shelf
set_option linter.unusedSimpArgs false
set_option linter.unusedVariables false
set_option maxRecDepth 20000

/-- the blocks that are none of L -/
def PL (L : List Nat) : Nat → Prop := fun b => ∀ x ∈ L, b ≠ x
/-- a world behind W0; the boxes of L were made since -/
structure StS (W0 : World) (L : List Nat) (W : World) : Prop where
  bw : Below W0.heap.size W0 W
  hi : ∀ x ∈ L, W0.heap.size ≤ x ∧ x < W.heap.size
section
variable {W0 W W' : World} {L : List Nat} {s : Sl} {sv pv : Sl} {d : Dk} {rs : List (List Int)}
theorem StS.first (W0 : World) : StS W0 [] W0.drew := ⟨(Below.refl _ W0).drew, by simp⟩
theorem StS.base (h : StS W0 L W) (hs : Se W0 everyB s rs) : Se W (PL L) s rs := (hs.mono2 (fun b _ hl x hx e => by have := (h.hi x hx).1; omega)).step h.bw
theorem StS.baseD (h : StS W0 L W) (hs : Di W0 everyB sv pv d) : Di W (PL L) sv pv d := (hs.mono2 (fun b _ hl x hx e => by have := (h.hi x hx).1; omega)).step h.bw
theorem StS.call (h : StS W0 L W) (hb : Below W.heap.size W W') : StS W0 L W' := ⟨h.bw.trans (hb.mono h.bw.size), fun x hx => ⟨(h.hi x hx).1, Nat.lt_of_lt_of_le (h.hi x hx).2 hb.size⟩⟩
theorem StS.alloc (h : StS W0 L W) (o : Obj) : StS W0 (W.heap.size :: L) (W.alloc o) := ⟨h.bw.alloc h.bw.size _, fun x hx => by
  rcases List.mem_cons.1 hx with rfl | h1
  · exact ⟨h.bw.size, by simp⟩
  · exact ⟨(h.hi x h1).1, by have := (h.hi x h1).2; simp; omega⟩⟩
theorem StS.nw (h : StS W0 L W) {b : Nat} (hb : Nw (PL L) W b) : PL L b := hb.elim id (fun h1 x hx e => by have := (h.hi x hx).2; omega)
theorem Se.boxed (h : Se W (PL L) s rs) (o : Obj) : Se (W.alloc o) (PL (W.heap.size :: L)) s rs := (h.mono2 (fun b hb hl x hx e => by
  rcases List.mem_cons.1 hx with rfl | h1
  · omega
  · exact hb x h1 e)).step ((Below.refl _ _).alloc (Nat.le_refl _) _)
theorem Di.boxed (h : Di W (PL L) sv pv d) (o : Obj) : Di (W.alloc o) (PL (W.heap.size :: L)) sv pv d := ⟨h.1.boxed o, (h.2.mono2 (fun b hb hl x hx e => by
  rcases List.mem_cons.1 hx with rfl | h1
  · omega
  · exact hb x h1 e)).step ((Below.refl _ _).alloc (Nat.le_refl _) _)⟩
/-- the results laid into their boxes -/
theorem StS.stored (h : StS W0 L W) {b3 b4 : Nat} (h3 : b3 ∈ L) (h4 : b4 ∈ L) (hne : b3 ≠ b4) {u0 u1 u2 : Value} {x0 x1 x2 x3 : Value} (n3 : Box3 W b3 u0 u1 u2) (n4 : Box4 W b4 x0 x1 x2 x3) (v0 v1 v2 y0 y1 y2 y3 : Value) {r : Sl} {sv pv : Sl} {d : Dk} {rs : List (List Int)} (hr : Se W (PL L) r rs) (hd : Di W (PL L) sv pv d) :
    Box3 (put4 (put3 W b3 v0 v1 v2) b4 y0 y1 y2 y3) b3 v0 v1 v2 ∧ Box4 (put4 (put3 W b3 v0 v1 v2) b4 y0 y1 y2 y3) b4 y0 y1 y2 y3 ∧ Se (put4 (put3 W b3 v0 v1 v2) b4 y0 y1 y2 y3) everyB r rs ∧ Di (put4 (put3 W b3 v0 v1 v2) b4 y0 y1 y2 y3) everyB sv pv d ∧ Below W0.heap.size W0 (put4 (put3 W b3 v0 v1 v2) b4 y0 y1 y2 y3) := by
  have g3 := put3_keep W b3 v0 v1 v2
  have g4 := put4_keep (W := put3 W b3 v0 v1 v2) (b := b4) y0 y1 y2 y3
  have k3 : Kp (PL L) W (put3 W b3 v0 v1 v2) := Kp.of_grown g3 (fun h => h b3 h3 rfl)
  have k4 : Kp (PL L) (put3 W b3 v0 v1 v2) (put4 (put3 W b3 v0 v1 v2) b4 y0 y1 y2 y3) := Kp.of_grown g4 (fun h => h b4 h4 rfl)
  exact ⟨(n3.put _ _ _).far g4 (by simp only [ne_eq, Option.some.injEq]; exact fun e => hne e.symm), (n4.far g3 (by simp only [ne_eq, Option.some.injEq]; exact hne)).put _ _ _ _, ((hr.keep k3).keep k4).mono (fun _ _ => trivial), ((hd.keep k3).keep k4).mono (fun _ _ => trivial), put4_below (put3_below h.bw (h.hi b3 h3).1 _ _ _) (h.hi b4 h4).1 _ _ _ _⟩
end
end Go.Proofs.Ytgbkhmoplocmkaa
