/- Disks in memory: bytes, sectors, writes that wait; what the functions of the chapter compute, as plain functions. -/
import Derived.Test.YtgbkhmoplocmkaaAppLib
import Derived.Test.YtgbkhmoplocmkaaRows
import Derived.Test.YtgbkhmoplocmkaaQuiet
import Derived.Test.YtgbkhmoplocmkaaSeq
import Derived.Handy
import Derived.Laws.EntriesVeiled
namespace Go.Proofs.Ytgbkhmoplocmkaa
open Go.RowKit
set_option linter.unusedSimpArgs false
set_option linter.unusedVariables false
set_option maxRecDepth 20000

/-- a slice's header -/
structure Sl where
  a : Option Addr
  n : Nat
  c : Nat
  deriving Inhabited
def Sl.v (s : Sl) : Value := .slice s.a s.n s.c
def slE (s : Sl) : List Value := [.slice s.a s.n s.c]
def byteE (n : Int) : List Value := [.int .u8 n]
def wrE (p : Int × Sl) : List Value := [.int .i64 p.1, .slice p.2.a p.2.n p.2.c]
theorem slE_len (s : Sl) : (slE s).length = 1 := rfl
theorem byteE_len (s : Int) : (byteE s).length = 1 := rfl
theorem wrE_len (s : Int × Sl) : (wrE s).length = 2 := rfl
theorem slE_one (s : Sl) : ∀ u ∈ slE s, u.oneCell' = true := by intro u hu; simp [slE] at hu; subst hu; rfl
theorem byteE_one (s : Int) : ∀ u ∈ byteE s, u.oneCell' = true := by intro u hu; simp [byteE] at hu; subst hu; rfl
theorem wrE_one (s : Int × Sl) : ∀ u ∈ wrE s, u.oneCell' = true := by intro u hu; simp [wrE] at hu; rcases hu with rfl | rfl <;> rfl

/-- a header that reads as a list; it lies in a block of the set P -/
def SlR {α : Type} (w : World) (P : Nat → Prop) (sz : Nat) (en : α → List Value) (s : Sl) (xs : List α) : Prop :=
  s.n = xs.length ∧ s.n ≤ s.c ∧ s.c ≤ maxLen ∧ (s.a = none → s.c = 0) ∧ Reads w w.heap.size s.a sz en xs ∧ (0 < xs.length → ∀ a, s.a = some a → P a.block)
/-- bytes -/
def By (w : World) (P : Nat → Prop) (s : Sl) (bs : List Int) : Prop := SlR w P 1 byteE s bs ∧ ∀ b ∈ bs, 0 ≤ b ∧ b < 256
/-- sectors -/
def Se (w : World) (P : Nat → Prop) (s : Sl) (ss : List (List Int)) : Prop :=
  ∃ vs : List Sl, SlR w P 1 slE s vs ∧ vs.length = ss.length ∧ ∀ (i : Nat) (v : Sl) (bs : List Int), vs[i]? = some v → ss[i]? = some bs → By w P v bs
/-- writes -/
def Pe (w : World) (P : Nat → Prop) (s : Sl) (ps : List (Int × List Int)) : Prop :=
  ∃ vs : List (Int × Sl), SlR w P 2 wrE s vs ∧ vs.length = ps.length ∧ ∀ (i : Nat) (v : Int × Sl) (p : Int × List Int), vs[i]? = some v → ps[i]? = some p → v.1 = p.1 ∧ By w P v.2 p.2
/-- the blocks of P, and the new ones -/
def Nw (P : Nat → Prop) (w : World) : Nat → Prop := fun b => P b ∨ w.heap.size ≤ b
/-- the blocks of P are as they were -/
def Kp (P : Nat → Prop) (w w' : World) : Prop := w.heap.size ≤ w'.heap.size ∧ ∀ b, P b → b < w.heap.size → w'.heap[b]? = w.heap[b]?
theorem Kp.of_below {P : Nat → Prop} {w w' : World} (h : Below w.heap.size w w') : Kp P w w' := ⟨h.size, fun b _ hb => h.block b hb⟩
theorem Kp.of_grown {P : Nat → Prop} {w w' : World} {g : Nat} (h : w.grownBy w' (some g)) (hg : ¬ P g) : Kp P w w' := ⟨h.size, fun b hb hl => h.block b hl (fun e => hg (by injection e with e; rw [e] at hb; exact hb))⟩

section
variable {α : Type} {w w' : World} {P Q : Nat → Prop} {sz : Nat} {en : α → List Value} {s : Sl} {xs : List α} {bs : List Int} {ss : List (List Int)} {ps : List (Int × List Int)}
theorem SlR.keep (h : SlR w P sz en s xs) (hk : Kp P w w') : SlR w' P sz en s xs := by
  refine ⟨h.1, h.2.1, h.2.2.1, h.2.2.2.1, fun hn => ?_, h.2.2.2.2.2⟩
  obtain ⟨b, off, e, hlt, hc⟩ := h.2.2.2.2.1 hn
  have hP := h.2.2.2.2.2 hn _ e
  exact ⟨b, off, e, Nat.lt_of_lt_of_le hlt hk.1, fun i x j v hi hj => (World.cell?_of_block (a := ⟨b, _, none⟩) (hk.2 b hP hlt)).trans (hc i x j v hi hj)⟩
theorem SlR.step (h : SlR w P sz en s xs) (hb : Below w.heap.size w w') : SlR w' P sz en s xs := h.keep (Kp.of_below hb)
theorem SlR.mono (h : SlR w P sz en s xs) (hq : ∀ b, P b → Q b) : SlR w Q sz en s xs := ⟨h.1, h.2.1, h.2.2.1, h.2.2.2.1, h.2.2.2.2.1, fun hn a e => hq _ (h.2.2.2.2.2 hn a e)⟩
theorem SlR.reads (h : SlR w P sz en s xs) : Reads w w.heap.size s.a sz en xs := h.2.2.2.2.1
theorem SlR.nil_ (w : World) (P : Nat → Prop) (sz : Nat) (en : α → List Value) : SlR w P sz en ⟨none, 0, 0⟩ [] := ⟨rfl, Nat.le_refl _, by simp, fun _ => rfl, Reads.nil_, fun h => by simp at h⟩
theorem SlR.of_owns {base : Nat} {e : TypeId} {A : Option Addr} {n c : Nat} (hen : ∀ y, (en y).length = sz) (h : Owns w base e sz en (.slice A n c) xs) : SlR w (fun b => base ≤ b) sz en ⟨A, n, c⟩ xs := by
  have hr := h.reads hen
  rcases h.form with ⟨hv, rfl⟩ | ⟨g, cap, hv, hg, _, hm, hl⟩
  · cases hv; exact SlR.nil_ _ _ _ _
  · cases hv; exact ⟨rfl, hl, hm, (fun h => by cases h), hr, fun _ a e => by cases e; exact hg⟩
theorem By.keep (h : By w P s bs) (hk : Kp P w w') : By w' P s bs := ⟨h.1.keep hk, h.2⟩
theorem By.step (h : By w P s bs) (hb : Below w.heap.size w w') : By w' P s bs := h.keep (Kp.of_below hb)
theorem By.mono (h : By w P s bs) (hq : ∀ b, P b → Q b) : By w Q s bs := ⟨h.1.mono hq, h.2⟩
theorem By.nil_ (w : World) (P : Nat → Prop) : By w P ⟨none, 0, 0⟩ [] := ⟨SlR.nil_ _ _ _ _, by simp⟩
theorem Se.keep (h : Se w P s ss) (hk : Kp P w w') : Se w' P s ss := by
  obtain ⟨vs, h1, h2, h3⟩ := h
  exact ⟨vs, h1.keep hk, h2, fun i v bs a b => (h3 i v bs a b).keep hk⟩
theorem Se.step (h : Se w P s ss) (hb : Below w.heap.size w w') : Se w' P s ss := h.keep (Kp.of_below hb)
theorem Se.mono (h : Se w P s ss) (hq : ∀ b, P b → Q b) : Se w Q s ss := by
  obtain ⟨vs, h1, h2, h3⟩ := h
  exact ⟨vs, h1.mono hq, h2, fun i v bs a b => (h3 i v bs a b).mono hq⟩
theorem Se.nil_ (w : World) (P : Nat → Prop) : Se w P ⟨none, 0, 0⟩ [] := ⟨[], SlR.nil_ _ _ _ _, rfl, by simp⟩
theorem Pe.keep (h : Pe w P s ps) (hk : Kp P w w') : Pe w' P s ps := by
  obtain ⟨vs, h1, h2, h3⟩ := h
  exact ⟨vs, h1.keep hk, h2, fun i v p a b => ⟨(h3 i v p a b).1, (h3 i v p a b).2.keep hk⟩⟩
theorem Pe.step (h : Pe w P s ps) (hb : Below w.heap.size w w') : Pe w' P s ps := h.keep (Kp.of_below hb)
theorem Pe.mono (h : Pe w P s ps) (hq : ∀ b, P b → Q b) : Pe w Q s ps := by
  obtain ⟨vs, h1, h2, h3⟩ := h
  exact ⟨vs, h1.mono hq, h2, fun i v p a b => ⟨(h3 i v p a b).1, (h3 i v p a b).2.mono hq⟩⟩
theorem Pe.nil_ (w : World) (P : Nat → Prop) : Pe w P ⟨none, 0, 0⟩ [] := ⟨[], SlR.nil_ _ _ _ _, rfl, by simp⟩
theorem Se.len (h : Se w P s ss) : s.n = ss.length := by obtain ⟨vs, h1, h2, _⟩ := h; rw [h1.1, h2]
theorem Pe.len (h : Pe w P s ps) : s.n = ps.length := by obtain ⟨vs, h1, h2, _⟩ := h; rw [h1.1, h2]
/-- the cell of a sector's header -/
theorem Se.at_ (h : Se w P s ss) {i : Nat} (hi : i < ss.length) : ∃ b off v bs, s.a = some ⟨b, off, none⟩ ∧ b < w.heap.size ∧ ss[i]? = some bs ∧ By w P v bs ∧ w.cell? ⟨b, off + i, none⟩ = some (.slice v.a v.n v.c) := by
  obtain ⟨vs, h1, h2, h3⟩ := h
  obtain ⟨b, off, x, ha, hb, hx, hc⟩ := h1.reads.at_ (k := i) (by omega)
  have := hc 0 _ rfl
  simp only [Nat.mul_one, Nat.add_zero] at this
  exact ⟨b, off, x, ss[i], ha, hb, List.getElem?_eq_getElem hi, h3 i x _ hx (List.getElem?_eq_getElem hi), this⟩
theorem Pe.at_ (h : Pe w P s ps) {i : Nat} (hi : i < ps.length) : ∃ b off v p, s.a = some ⟨b, off, none⟩ ∧ b < w.heap.size ∧ ps[i]? = some p ∧ By w P v p.2 ∧ w.cell? ⟨b, off + i * 2, none⟩ = some (.int .i64 p.1) ∧ w.cell? ⟨b, off + i * 2 + 1, none⟩ = some (.slice v.a v.n v.c) := by
  obtain ⟨vs, h1, h2, h3⟩ := h
  obtain ⟨b, off, x, ha, hb, hx, hc⟩ := h1.reads.at_ (k := i) (by omega)
  have c0 := hc 0 _ rfl
  have c1 := hc 1 _ rfl
  simp only [Nat.add_zero] at c0
  obtain ⟨e1, e2⟩ := h3 i x _ hx (List.getElem?_eq_getElem hi)
  rw [e1] at c0
  exact ⟨b, off, x.2, ps[i], ha, hb, List.getElem?_eq_getElem hi, e2, c0, c1⟩
end

/-- a disk -/
structure Dk where
  secs : List (List Int)
  pend : List (Int × List Int)
  left : Int
  stopped : Bool
  deriving DecidableEq
def dkV (sv pv : Sl) (d : Dk) : Value := .agg #[.slice sv.a sv.n sv.c, .slice pv.a pv.n pv.c, .int .i64 d.left, .bool d.stopped]
/-- a disk in memory -/
def Di (w : World) (P : Nat → Prop) (sv pv : Sl) (d : Dk) : Prop := Se w P sv d.secs ∧ Pe w P pv d.pend
section
variable {w w' : World} {P Q : Nat → Prop} {sv pv : Sl} {d : Dk}
theorem Di.keep (h : Di w P sv pv d) (hk : Kp P w w') : Di w' P sv pv d := ⟨h.1.keep hk, h.2.keep hk⟩
theorem Di.step (h : Di w P sv pv d) (hb : Below w.heap.size w w') : Di w' P sv pv d := ⟨h.1.step hb, h.2.step hb⟩
theorem Di.mono (h : Di w P sv pv d) (hq : ∀ b, P b → Q b) : Di w Q sv pv d := ⟨h.1.mono hq, h.2.mono hq⟩
end
def Dk.zero : Dk := ⟨[], [], 0, false⟩
theorem Di.zero (w : World) (P : Nat → Prop) : Di w P ⟨none, 0, 0⟩ ⟨none, 0, 0⟩ Dk.zero := ⟨Se.nil_ w P, Pe.nil_ w P⟩

def isSec (bs : List Int) : Bool := decide (bs.length = 128)
def badW (n : Nat) (p : Int × List Int) : Bool := decide (p.1 < 0) || (decide ((n : Int) ≤ p.1) || !isSec p.2)
def sizesOk (d : Dk) : Bool := decide (1 ≤ d.secs.length) && (decide (d.secs.length ≤ 4096) && (decide (d.pend.length ≤ 4096) && (decide (-1 ≤ d.left) && decide (d.left ≤ 65536))))
def validD (d : Dk) : Bool := sizesOk d && (!(d.pend.any (badW d.secs.length)) && !(d.secs.any (fun b => !isSec b)))
def checkD (d : Dk) : Int := if validD d then 0 else 450
def runsD (d : Dk) : Bool := validD d && !d.stopped
def hasD (d : Dk) (at_ : Int) : Bool := decide (0 ≤ at_) && decide (at_ < (d.secs.length : Int))
def zeroSec : List Int := List.replicate 128 0
def newD (n : Int) : Dk × Int := if 1 ≤ n ∧ n ≤ 4096 then (⟨List.replicate n.toNat zeroSec, [], -1, false⟩, 0) else (Dk.zero, 1)
/-- the last of the writes to a sector -/
def lastW (at_ : Int) : List (Int × List Int) → Option (List Int)
  | [] => none
  | p :: l => match lastW at_ l with
    | some b => some b
    | none => if p.1 = at_ then some p.2 else none
def sectorD (d : Dk) (at_ : Int) : List Int := (lastW at_ d.pend).getD (d.secs.getD at_.toNat [])
def readD (d : Dk) (at_ : Int) : List Int × Int := if runsD d && hasD d at_ then (sectorD d at_, 0) else ([], 450)
def padS (b : List Int) : List Int := b ++ List.replicate (128 - b.length) 0
def writeD (d : Dk) (at_ : Int) (b : List Int) : Dk × Int :=
  if runsD d && hasD d at_ then (if b.length ≤ 128 then (if d.pend.length = 4096 then (Dk.zero, 2) else (⟨d.secs, d.pend ++ [(at_, padS b)], d.left, d.stopped⟩, 0)) else (Dk.zero, 1)) else (Dk.zero, 450)
def performD (ss : List (List Int)) (l : List (Int × List Int)) : List (List Int) := l.foldl (fun s p => s.set p.1.toNat p.2) ss
def syncD (d : Dk) : Dk × Int :=
  if runsD d then
    if 0 ≤ d.left ∧ d.left < (d.pend.length : Int) then
      (⟨(performD d.secs (d.pend.take d.left.toNat)).set (d.pend.getD d.left.toNat (0, [])).1.toNat
          ((d.pend.getD d.left.toNat (0, [])).2.take 64 ++ ((performD d.secs (d.pend.take d.left.toNat)).getD (d.pend.getD d.left.toNat (0, [])).1.toNat []).drop 64), [], 0, true⟩, 450)
    else (⟨performD d.secs d.pend, [], if 0 ≤ d.left then d.left - (d.pend.length : Int) else d.left, false⟩, 0)
  else (Dk.zero, 450)
def stopD (d : Dk) (left : Int) : Dk × Int := if runsD d then (if 0 ≤ left ∧ left ≤ 65536 then (⟨d.secs, d.pend, left, d.stopped⟩, 0) else (Dk.zero, 1)) else (Dk.zero, 450)
def restartD (d : Dk) : Dk := ⟨d.secs, [], -1, false⟩
end Go.Proofs.Ytgbkhmoplocmkaa
