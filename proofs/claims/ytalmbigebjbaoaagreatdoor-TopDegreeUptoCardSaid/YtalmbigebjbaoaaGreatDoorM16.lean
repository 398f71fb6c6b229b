/- TopDegree, what its proof leans on: the texts FlowG. -/
import Derived.Test.YtalmbigebjbaoaaGreatDoorM15
import Derived.Deep.DeepCutAuto
import Derived.Deep.RegionLaw
import Derived.Deep.RegionHeld3
namespace Go.Proofs.YtalmbigebjbaoaaGreatDoor.Fl
open Go.RowKit Go.Shelf
set_option linter.unusedSimpArgs false
set_option linter.unusedVariables false
theorem Tryz.infoSl : (Tryz.prog.info? 64).map (fun i => (i.zero, i.size, i.bytes)) = some (some (.slice none 0 0), 1, 24) := by kernel_rfl
theorem step_append_reads {α : Type} {P : Program} {w : World} {en : α → List Value} {sz : Nat} {ops : Array Oper} {o : Oper} {a : Act} {K : Act → World → Prop} {Q : Exit → Act → World → Prop} {E : Prop} (hgd : o.guard = none) (s x : Operand) (t : TypeId)
 (ho : o.op = .call { callee := .builtin .append, args := #[s, x], argTypes := #[t, t] }) (hen : ∀ y, (en y).length = sz) (h1 : ∀ y, ∀ u ∈ en y, u.oneCell' = true)
 (base : Nat) (e : TypeId) (i : TypeInfo) (z : Value) (bytes : Nat) (ht : P.underlying t = some (.slice e)) (hi : P.info? e = some i) (hz : i.zero = some z)
 (hsize : i.size = sz) (hby : i.bytes = bytes) (hzs : z.cells.size = sz) (hsz : 0 < sz)
 (v : Value) (ys : List α) (hs : a.eval s = v) (hown : Owns w base e sz en v ys) (B : Nat) (A : Option Addr) (c : Nat) (xs : List α) (hx : a.eval x = .slice A xs.length c) (hr : Reads w B A sz en xs) (hnil : A = none → c = 0)
 (h63 : ys.length + xs.length ≤ maxLen) (hbytes : (ys.length + xs.length) * bytes ≤ 140737488355328) (hbase : base ≤ w.heap.size)
 (h : ∀ v' w', Owns w' base e sz en v' (ys ++ xs) → w.grownBy w' v.ownBlock → (v'.ownBlock = v.ownBlock ∨ v'.ownBlock = some w.heap.size) → K (a.put o.dst v') w') :
 if Region.wanted o (yielded ops a.tmps) = true then Oper.wp P o a w K Q else E := by
 have hw : Region.wanted o (yielded ops a.tmps) = true := by simp [Region.wanted, hgd]
 rw [if_pos hw]
 obtain ⟨v', w', hrun, h2, h3, h4, h5⟩ := run_append_reads (P := P) w hen h1 base t o.type e i z bytes ht hi hz hsize hby hzs hsz v ys hown B A c xs hr hnil h63 hbytes hbase
 unfold Oper.wp execOp
 simp only [ho, resolve, invoke, builtin, Sem.run_bind, Sem.run_pure, Result.andThen_ok, List.map_toArray, List.map_cons, List.map_nil, hs, hx, hrun]
 exact h _ _ h2 h3 h4
theorem grown_cell {w w' : World} {row : Option Nat} (h : w.grownBy w' row) {p : Addr} (hl : p.block < w.heap.size) (hn : some p.block ≠ row) : w'.cell? p = w.cell? p := World.cell?_of_block (h.block _ hl hn)
theorem grown_frozen {w w' : World} {row : Option Nat} (h : w.grownBy w' row) {p : Addr} (hl : p.block < w.heap.size) (hn : some p.block ≠ row) : w'.frozen? p = w.frozen? p := World.frozen?_of_block (h.block _ hl hn)
theorem natE_len (y : Nat) : (natE y).length = 1 := rfl
theorem natE_one (y : Nat) : ∀ u ∈ natE y, u.oneCell' = true := by intro u hu; simp [natE] at hu; subst hu; rfl
end Go.Proofs.YtalmbigebjbaoaaGreatDoor.Fl
namespace Go.Proofs.YtalmbigebjbaoaaGreatDoor
open Go.RowKit Go.Shelf
set_option linter.unusedSimpArgs false
set_option linter.unusedVariables false
theorem SlR.of_owns2 {α : Type} {w : World} {sz : Nat} {en : α → List Value} {xs : List α} {base : Nat} {e : TypeId} {s : Sl} (hen : ∀ y, (en y).length = sz) (h : Owns w base e sz en s.v xs) : SlR w (fun b => base ≤ b ∧ b < w.heap.size) sz en s xs := by
 obtain ⟨A, n, c⟩ := s
 have h' := SlR.of_owns hen h
 refine ⟨h'.1, h'.2.1, h'.2.2.1, h'.2.2.2.1, h'.2.2.2.2.1, fun hn a e => ⟨h'.2.2.2.2.2 hn a e, ?_⟩⟩
 exact h.lt a.block (by simp only at e; subst e; rfl)
end Go.Proofs.YtalmbigebjbaoaaGreatDoor
namespace Go.Proofs.YtalmbigebjbaoaaGreatDoor.Fl
open Go.RowKit Go.Shelf
set_option linter.unusedSimpArgs false
set_option linter.unusedVariables false
def AdjM (w : World) (base g n : Nat) (hs : List Sl) (adj : List (List Nat)) : Prop :=
 w.heap[g]? = some (.cells (hs.map Sl.v).toArray 64 (0, 0)) ∧ hs.length = n ∧ adj.length = n ∧
 (∀ (v : Nat) (h : Sl) (ls : List Nat), hs[v]? = some h → adj[v]? = some ls → Owns w base 3 1 natE h.v ls) ∧
 ∀ (u v : Nat) (h k : Sl) (b : Nat), u ≠ v → hs[u]? = some h → hs[v]? = some k → h.v.ownBlock = some b → k.v.ownBlock ≠ some b
section
variable {w w' : World} {base g n : Nat} {hs : List Sl} {adj : List (List Nat)}
theorem AdjM.below (h : AdjM w base g n hs adj) (hb : Below w.heap.size w w') : AdjM w' base g n hs adj :=
 ⟨(hb.block g (Array.getElem?_eq_some_iff.1 h.1).1).trans h.1, h.2.1, h.2.2.1, fun v k ls e1 e2 => (h.2.2.2.1 v k ls e1 e2).below hb (Nat.le_refl _), h.2.2.2.2⟩
theorem AdjM.cell (h : AdjM w base g n hs adj) {v : Nat} {k : Sl} (hv : hs[v]? = some k) : w.cell? ⟨g, v, none⟩ = some (.slice k.a k.n k.c) := by
 simp only [World.cell?, h.1]
 simp [hv, Sl.v]
theorem AdjM.free (h : AdjM w base g n hs adj) (v : Nat) : w.frozen? ⟨g, v, none⟩ = false := by simp [World.frozen?, h.1]
theorem AdjM.lt (h : AdjM w base g n hs adj) : g < w.heap.size := (Array.getElem?_eq_some_iff.1 h.1).1
theorem AdjM.start (w : World) (base g n : Nat) (hg : w.heap[g]? = some (.cells (List.replicate n (Value.slice none 0 0)).toArray 64 (0, 0))) : AdjM w base g n (List.replicate n ⟨none, 0, 0⟩) (List.replicate n []) := by
 refine ⟨by rw [hg]; simp [Sl.v], by simp, by simp, fun v h ls e1 e2 => ?_, fun u v h k b _ e1 e2 e3 => ?_⟩
 ·rw [List.getElem?_replicate] at e1 e2
  split at e1
  ·rw [if_pos (by assumption)] at e2
   injection e1 with e1
   injection e2 with e2
   subst e1 e2
   exact Owns.nil_ _ _ _ _ _
  ·cases e1
 ·rw [List.getElem?_replicate] at e1
  split at e1
  ·injection e1 with e1
   subst e1
   cases e3
  ·cases e1
theorem AdjM.next (h : AdjM w base g n hs adj) (hgb : g < base) (hbw : base ≤ w.heap.size) {v r : Nat} {k k' : Sl} {ls : List Nat} (hv : hs[v]? = some k) (ha : adj[v]? = some ls)
 (ho : Owns w' base 3 1 natE k'.v (ls ++ [r])) (hg : w.grownBy w' k.v.ownBlock) (hat : k'.v.ownBlock = k.v.ownBlock ∨ k'.v.ownBlock = some w.heap.size) :
 AdjM (w'.setCell ⟨g, v, none⟩ k'.v) base g n (hs.set v k') (adj.set v (ls ++ [r])) := by
 obtain ⟨h1, h2, h3, h4, h5⟩ := h
 have hvn : v < n := by rw [← h2]; exact (List.getElem?_eq_some_iff.1 hv).1
 have hgl := (Array.getElem?_eq_some_iff.1 h1).1
 have hkb := (h4 v k ls hv ha).base_le
 have h1' : w'.heap[g]? = some (.cells (hs.map Sl.v).toArray 64 (0, 0)) := (hg.block g hgl (fun e => by have := hkb g e.symm; omega)).trans h1
 have hset : (w'.setCell ⟨g, v, none⟩ k'.v).heap[g]? = some (.cells ((hs.set v k').map Sl.v).toArray 64 (0, 0)) := by
  rw [heap_setCell_same w' g v _ _ _ h1']
  congr 2
  apply Array.ext'
  simp [List.map_set]
 have hk' : ∀ b, k'.v.ownBlock = some b → base ≤ b := ho.base_le
 have keepO : ∀ (z : Sl) (ls' : List Nat), Owns w' base 3 1 natE z.v ls' → Owns (w'.setCell ⟨g, v, none⟩ k'.v) base 3 1 natE z.v ls' := fun z ls' hz => by
  refine hz.kept (row := some g) ⟨rfl, rfl, rfl, by simp [World.setCell], fun q hq hne => Below.heap_setCell _ _ _ _ (fun e => hne (by rw [e]))⟩ (fun b hb e => ?_)
  cases e
  have := hz.base_le _ hb
  omega
 refine ⟨hset, by simpa using h2, by simpa using h3, fun u z ls' e1 e2 => ?_, fun u1 u2 z1 z2 b hne e1 e2 e3 => ?_⟩
 ·by_cases hu : v = u
  ·subst hu
   rw [List.getElem?_set, if_pos rfl, if_pos (by omega)] at e1 e2
   injection e1 with e1
   injection e2 with e2
   subst e1 e2
   exact keepO _ _ ho
  ·rw [List.getElem?_set, if_neg hu] at e1 e2
   refine keepO _ _ ((h4 u z ls' e1 e2).kept hg (fun b hb e => ?_))
   exact h5 u v z k b (Ne.symm hu) e1 hv hb e
 ·rw [List.getElem?_set] at e1 e2
  by_cases q1 : v = u1
  ·subst q1
   rw [if_pos rfl, if_pos (by omega)] at e1
   injection e1 with e1
   subst e1
   rw [if_neg hne] at e2
   intro e4
   rcases hat with hat | hat
   ·rw [hat] at e3
    exact h5 v u2 k z2 b hne hv e2 e3 e4
   ·rw [hat] at e3
    injection e3 with e3
    have hu2 : u2 < n := by rw [← h2]; exact (List.getElem?_eq_some_iff.1 e2).1
    have := (h4 u2 z2 _ e2 (List.getElem?_eq_getElem (by omega))).lt b e4
    omega
  ·rw [if_neg q1] at e1
   by_cases q2 : v = u2
   ·subst q2
    rw [if_pos rfl, if_pos (by omega)] at e2
    injection e2 with e2
    subst e2
    intro e4
    rcases hat with hat | hat
    ·rw [hat] at e4
     exact h5 u1 v z1 k b hne e1 hv e3 e4
    ·rw [hat] at e4
     injection e4 with e4
     have hu1 : u1 < n := by rw [← h2]; exact (List.getElem?_eq_some_iff.1 e1).1
     have := (h4 u1 z1 _ e1 (List.getElem?_eq_getElem (by omega))).lt b e3
     omega
   ·rw [if_neg q2] at e2
    exact h5 u1 u2 z1 z2 b hne e1 e2 e3
end
def AdjTo (l : List Ed) (n k : Nat) (adj : List (List Nat)) : Prop := adj.length = n ∧ ∀ (v : Nat) (ls : List Nat), adj[v]? = some ls → ls.length ≤ k ∧ ∀ r, r ∈ ls ↔ r < k ∧ startR l r = (v : Int)
theorem AdjTo.zero (l : List Ed) (n : Nat) : AdjTo l n 0 (List.replicate n []) := ⟨by simp, fun v ls h => by
 rw [List.getElem?_replicate] at h
 split at h
 ·injection h with h; subst h; simp
 ·cases h⟩
theorem AdjTo.next {l : List Ed} {n k v : Nat} {adj : List (List Nat)} {ls : List Nat} (h : AdjTo l n k adj) (hv : adj[v]? = some ls) (hs : startR l k = (v : Int)) : AdjTo l n (k + 1) (adj.set v (ls ++ [k])) := by
 refine ⟨by simpa using h.1, fun u ls' e => ?_⟩
 have hvl := (List.getElem?_eq_some_iff.1 hv).1
 by_cases hu : v = u
 ·subst hu
  rw [List.getElem?_set, if_pos rfl, if_pos hvl] at e
  injection e with e
  subst e
  refine ⟨by have := (h.2 v ls hv).1; simp; omega, fun r => ?_⟩
  rw [List.mem_append, (h.2 v ls hv).2 r]
  constructor
  ·rintro (⟨h1, h2⟩ | h1)
   ·exact ⟨by omega, h2⟩
   ·simp at h1; subst h1; exact ⟨by omega, hs⟩
  ·rintro ⟨h1, h2⟩
   by_cases hr : r = k
   ·subst hr; exact .inr (by simp)
   ·exact .inl ⟨by omega, h2⟩
 ·rw [List.getElem?_set, if_neg hu] at e
  refine ⟨by have := (h.2 u ls' e).1; omega, fun r => ?_⟩
  rw [(h.2 u ls' e).2 r]
  constructor
  ·rintro ⟨h1, h2⟩; exact ⟨by omega, h2⟩
  ·rintro ⟨h1, h2⟩
   refine ⟨?_, h2⟩
   by_cases hr : r = k
   ·subst hr
    rw [hs] at h2
    omega
   ·omega
theorem AdjTo.ok {l : List Ed} {n : Nat} {adj : List (List Nat)} (h : AdjTo l n (2 * l.length) adj) : AdjOk l n adj := ⟨h.1, fun v ls e => (h.2 v ls e).2⟩
end Go.Proofs.YtalmbigebjbaoaaGreatDoor.Fl
namespace Go.Proofs.YtalmbigebjbaoaaGreatDoor
open Go.RowKit Go.Shelf
set_option linter.unusedSimpArgs false
set_option linter.unusedVariables false
theorem Owns.typed {α : Type} {w : World} {base sz : Nat} {e : TypeId} {en : α → List Value} {v : Value} {ys : List α} (h : Owns w base e sz en v ys) {b : Nat} (hb : v.ownBlock = some b) : ∃ cs, w.heap[b]? = some (.cells cs e (0, 0)) ∧ True := by
 rcases h.2 with ⟨rfl, _⟩ | ⟨g, cap, cur, rfl, h2, h3, h4⟩
 ·cases hb
 ·simp [Value.ownBlock] at hb
  subst hb
  exact ⟨_, h3, trivial⟩
end Go.Proofs.YtalmbigebjbaoaaGreatDoor
namespace Go.Proofs.YtalmbigebjbaoaaGreatDoor.Fl
open Go.RowKit Go.Shelf
set_option linter.unusedSimpArgs false
set_option linter.unusedVariables false
theorem addr_ne {b b' o o' : Nat} (h : b ≠ b' ∨ o ≠ o') : (⟨b, o, none⟩ : Addr) ≠ ⟨b', o', none⟩ := by
 intro e
 have h1 := congrArg Addr.block e
 have h2 := congrArg Addr.off e
 simp only at h1 h2
 omega
theorem set_far (W : World) (a b : Addr) (v : Value) (h : a ≠ b) : (W.setCell a v).cell? b = W.cell? b := by
 first | exact World.cell?_setCell_other _ _ _ _ h | exact World.cell?_setCell_other _ _ _ _ h.symm
def NN (w : World) (S g n B F xb : Nat) (box : Obj) (zs xs : Array Value) (l : List Ed) (k : Nat) (hs : List Sl) (adj : List (List Nat)) (W : World) : Prop :=
 AdjM W S g n hs adj ∧ AdjTo l n k adj ∧ W.heap[B]? = some box ∧ W.heap[F]? = some (.cells zs 3 (0, 0)) ∧ W.heap[xb]? = some (.cells xs 166 (0, 0)) ∧ Below w.heap.size w W ∧ S ≤ W.heap.size
theorem NN.next {w : World} {S g n B F xb : Nat} {box : Obj} {zs xs : Array Value} {l : List Ed} {k : Nat} {hs : List Sl} {adj : List (List Nat)} {W wa w5 : World} {v : Nat} {A : Option Addr} {m c : Nat} {ls : List Nat} {A5 : Option Addr} {m5 c5 : Nat} (hBF : B < S ∧ F < S ∧ B ≠ g ∧ F ≠ g ∧ w.heap.size ≤ g ∧ w.heap.size ≤ S) (h : NN w S g n B F xb box zs xs l k hs adj W) (hv : hs[v]? = some ⟨A, m, c⟩) (ha : adj[v]? = some ls) (hst : startR l k = (v : Int)) (hwa : Below W.heap.size W wa)
 (k1 : Owns w5 S 3 1 natE (.slice A5 m5 c5) (ls ++ [k])) (k2 : wa.grownBy w5 (Value.slice A m c).ownBlock) (k3 : (Value.slice A5 m5 c5).ownBlock = (Value.slice A m c).ownBlock ∨ (Value.slice A5 m5 c5).ownBlock = some wa.heap.size) (hgS : g < S) (hSz : S ≤ W.heap.size) :
 ∃ hs adj, NN w S g n B F xb box zs xs l (k + 1) hs adj (w5.setCell ⟨g, v, none⟩ (.slice A5 m5 c5)) := by
 obtain ⟨h1, h2, h3, h4, h5, h6, h7⟩ := h
 obtain ⟨e1, e2, e3, e4, e5, e6⟩ := hBF
 have ho := h1.2.2.2.1 v _ ls hv ha
 have hbl : ∀ b, (Value.slice A m c).ownBlock = some b → S ≤ b ∧ b < W.heap.size := fun b e => ⟨ho.base_le b e, ho.lt b e⟩
 have hx := (Array.getElem?_eq_some_iff.1 h5).1
 have hne : some xb ≠ (Value.slice A m c).ownBlock := fun e => by
  obtain ⟨o, q1, _⟩ := ho.typed e.symm
  rw [h5] at q1
  injection q1 with q1
  injection q1 with _ q1
  revert q1
  decide
 have hxg : xb ≠ g := fun e => by
  rw [e, h1.1] at h5
  injection h5 with q1
  injection q1 with _ q1
  revert q1
  decide
 have hgw := hwa.size
 have keep : ∀ b, b < W.heap.size → b ≠ g → some b ≠ (Value.slice A m c).ownBlock → (w5.setCell ⟨g, v, none⟩ (.slice A5 m5 c5)).heap[b]? = W.heap[b]? := fun b hb hg hr =>
  (Below.heap_setCell _ _ _ _ hg).trans ((k2.block b (by omega) hr).trans (hwa.block b hb))
 refine ⟨_, _, (h1.below hwa).next (k' := ⟨A5, m5, c5⟩) hgS (by omega) hv ha k1 k2 k3, h2.next ha hst, ?_, ?_, ?_, ?_, ?_⟩
 ·exact (keep B (by omega) e3 (fun e => by have := hbl B e.symm; omega)).trans h3
 ·exact (keep F (by omega) e4 (fun e => by have := hbl F e.symm; omega)).trans h4
 ·exact (keep xb hx hxg hne).trans h5
 ·exact ((h6.trans (hwa.mono h6.size)).grown k2 (by have := h6.size; omega) (fun b e => by have := hbl b e; omega)).setCell (by show w.heap.size ≤ g; omega) _
 ·have := k2.size
  rw [World.size_setCell]; omega
theorem made_ints (n : Nat) : madeCells (Value.int .i64 0).cells n = ((List.replicate n (0 : Int)).map (Value.int .i64)).toArray := by
 apply Array.ext
 ·simp [size_madeCells]
 ·intro i h1 h2
  simp [madeCells, Value.cells, Nat.mod_one]
theorem made_sls (n : Nat) : madeCells (Value.slice none 0 0).cells n = (List.replicate n (Value.slice none 0 0)).toArray := by
 apply Array.ext
 ·simp [size_madeCells]
 ·intro i h1 h2
  simp [madeCells, Value.cells, Nat.mod_one]
theorem three_new (w : World) (a b c : Array Value) (t u v : TypeId) : (((w.alloc (.cells a t)).alloc (.cells b u)).alloc (.cells c v)).heap[w.heap.size]? = some (.cells a t (0, 0)) ∧ (((w.alloc (.cells a t)).alloc (.cells b u)).alloc (.cells c v)).heap[w.heap.size + 1]? = some (.cells b u (0, 0)) ∧
 (((w.alloc (.cells a t)).alloc (.cells b u)).alloc (.cells c v)).heap[w.heap.size + 1 + 1]? = some (.cells c v (0, 0)) ∧ Below w.heap.size w (((w.alloc (.cells a t)).alloc (.cells b u)).alloc (.cells c v)) := by
 have h1 := heap_alloc_new w (.cells a t)
 have h2 := heap_alloc_new (w.alloc (.cells a t)) (.cells b u)
 have h3 := heap_alloc_new ((w.alloc (.cells a t)).alloc (.cells b u)) (.cells c v)
 simp only [World.size_alloc] at h2 h3
 exact ⟨(Below.heap_alloc _ _ _ (by simp; omega)).trans ((Below.heap_alloc _ _ _ (by simp)).trans h1), (Below.heap_alloc _ _ _ (by simp)).trans h2, h3, (((Below.refl _ w).alloc (Nat.le_refl _) _).alloc (by simp) _).alloc (by simp; omega) _⟩
set_option maxRecDepth 100000 in
set_option maxHeartbeats 8000000 in
theorem newNetwork_any (n : Nat) (l : List Ed) (A : Option Addr) (c : Nat) (w : World) (hx : Reads w w.heap.size A 3 Ed.enc l) (hlc : l.length ≤ c) (hc : c ≤ maxLen) (hnil : A = none → c = 0) (hn : n ≤ 4096) (hll : l.length ≤ 65536) (hin : InN n l) :
 Calls Tryz.prog 82 #[.int .i64 n, .slice A l.length c] w fun e w' => (∃ B F adj P, e = .returned (.pointer (some ⟨B, 0, none⟩)) ∧ Net w' P B F n l adj ∧ FlAt w' F (List.replicate l.length 0) ∧ AdjOk l n adj ∧ (∀ b, P b → b < w'.heap.size) ∧ w.heap.size ≤ F ∧ ¬ P F) ∧ Below w.heap.size w w' := by
 obtain ⟨i0, hinf, hz0, hz1, hz2⟩ := info_parts Tryz.infoInt
 obtain ⟨j0, hinf2, hy0, hy1, hy2⟩ := info_parts Tryz.infoSl
 have hmk1 := fun W => run_make (P := Tryz.prog) W 64 3 i0 (.int .i64 0) Tryz.underlying64 hinf hz0 .i64 .i64 (l.length : Int) (l.length : Int) (by omega) (by omega) (by rw [hz2]; omega) (by omega)
 have hmk2 := fun W => run_make (P := Tryz.prog) W 171 64 j0 (.slice none 0 0) Tryz.underlying171 hinf2 hy0 .i64 .i64 (n : Int) (n : Int) (by omega) (by omega) (by rw [hy2]; omega) (by omega)
 rw [hz1] at hmk1
 rw [hy1] at hmk2
 simp only [Int.toNat_natCast, Nat.mul_one, made_ints, made_sls] at hmk1 hmk2
 have HX := Lib.hid hx
 have HI := Lib.hid hinf
 have HC := Lib.hid (And.intro hlc (And.intro hc hnil))
 have HIN := Lib.hid hin
 obtain ⟨zs, hzs⟩ : ∃ zs, zs = ((List.replicate l.length (0 : Int)).map (Value.int .i64)).toArray := ⟨_, rfl⟩
 obtain ⟨ns, hns⟩ : ∃ ns, ns = (List.replicate n (Value.slice none 0 0)).toArray := ⟨_, rfl⟩
 rw [← hzs] at hmk1
 rw [← hns] at hmk2
 have HZS := Lib.hid hzs
 have HNS := Lib.hid hns
 clear hinf hinf2 hx hzs hns hlc hc hnil hin hy0 hy1 hy2
 go_enter Tryz.func82, Tryz.ntmps82
 go_upto_region 1 with fail
 go_cut [5] (fun v wx => ∃ F g B, v = .pointer (some ⟨B, 0, none⟩) ∧ wx.heap[F]? = some (.cells zs 3 (0, 0)) ∧ wx.heap[g]? = some (.cells ns 64 (0, 0)) ∧ wx.heap[B]? = some (.cells #[.slice A l.length c, .slice (some ⟨F, 0, none⟩) l.length l.length, .slice (some ⟨g, 0, none⟩) n n] 173 (0, 0)) ∧ w.heap.size ≤ F ∧ w.heap.size ≤ g ∧ w.heap.size ≤ B ∧ Below w.heap.size w wx)
 case first =>
  go_region
  ·obtain ⟨t1, t2, t3, t4⟩ := three_new w zs ns #[.slice A l.length c, .slice (some ⟨w.heap.size, 0, none⟩) l.length l.length, .slice (some ⟨w.heap.size + 1, 0, none⟩) n n] 3 64 173
   have HT := Lib.hid (And.intro t1 (And.intro t2 (And.intro t3 t4)))
   clear t1 t2 t3 t4
   go_wp2_with fail
   go_meet
   obtain ⟨t1, t2, t3, t4⟩ := HT.out
   exact ⟨w.heap.size, w.heap.size + 1, w.heap.size + 1 + 1, rfl, t1, t2, t3, by omega, by omega, by omega, t4.drew⟩
  ·obtain ⟨t1, t2, t3, t4⟩ := three_new w ns zs #[.slice A l.length c, .slice (some ⟨w.heap.size + 1, 0, none⟩) l.length l.length, .slice (some ⟨w.heap.size, 0, none⟩) n n] 64 3 173
   have HT := Lib.hid (And.intro t1 (And.intro t2 (And.intro t3 t4)))
   clear t1 t2 t3 t4
   go_wp2_with fail
   go_meet
   obtain ⟨t1, t2, t3, t4⟩ := HT.out
   exact ⟨w.heap.size + 1, w.heap.size, w.heap.size + 1 + 1, rfl, t2, t1, t3, by omega, by omega, by omega, t4.drew⟩
 case rest =>
  obtain ⟨F, g, B, rfl, f1, f2, f3, f4, f5, f6, f7⟩ := hcut
  obtain ⟨S, hS⟩ : ∃ S, S = wc.heap.size := ⟨_, rfl⟩
  have l1 := (Array.getElem?_eq_some_iff.1 f1).1
  have l2 := (Array.getElem?_eq_some_iff.1 f2).1
  have l3 := (Array.getElem?_eq_some_iff.1 f3).1
  have hFg : F ≠ g := fun e => by
   rw [e, f2, HNS.out, HZS.out] at f1
   injection f1 with f1
   injection f1 with f1 f1'
   revert f1'
   decide
  have hFB : B ≠ F := fun e => by
   rw [e, f1] at f3
   injection f3 with f3
   injection f3 with f3 f3'
   revert f3'
   decide
  have hM0 : AdjM wc S g n (List.replicate n ⟨none, 0, 0⟩) (List.replicate n []) := AdjM.start wc S g n (by rw [f2, HNS.out])
  have HM0 := Lib.hid hM0
  have HF1 := Lib.hid f1
  have HF3 := Lib.hid f3
  have HF7 := Lib.hid f7
  have hl63 : l.length ≤ 9223372036854775807 := by omega
  rw [← hS] at l1 l2 l3
  have hgB : g ≠ B := fun e => by
   rw [e, f3] at f2
   injection f2 with f2
   injection f2 with f2 f2'
   revert f2'
   decide
  have HGB := Lib.hid hgB
  have HSz := Lib.hid hS
  have HLL := Lib.hid (And.intro l1 (And.intro l2 (And.intro l3 (And.intro f4 (And.intro f5 (And.intro f6 (And.intro hFg hFB)))))))
  clear f1 f2 f3 f7 hM0 hS l1 l2 l3 f4 f5 f6 hFg hFB hmk1 hmk2
  go_wp2_with fail
  go_loopw [18] (fun i wr => ∃ k : Nat, k ≤ l.length ∧ i = .int .i64 k ∧ ∃ hs adj, AdjM wr S g n hs adj ∧ AdjTo l n (2 * k) adj ∧ wr.heap[B]? = some (.cells #[.slice A l.length c, .slice (some ⟨F, 0, none⟩) l.length l.length, .slice (some ⟨g, 0, none⟩) n n] 173 (0, 0)) ∧ wr.heap[F]? = some (.cells zs 3 (0, 0)) ∧ Below w.heap.size w wr ∧ S ≤ wr.heap.size)
   (fun i _ => l.length - (intOf i).toNat)
  case atStart => exact ⟨0, Nat.zero_le _, rfl, _, _, HM0.out, AdjTo.zero l n, HF3.out, HF1.out, HF7.out, by rw [HSz.out]; exact Nat.le_refl _⟩
  case round =>
   obtain ⟨k, hk, rfl, hs, adj, h1, h2, h3, h4, h5, h6⟩ := hrel
   by_cases hlt : k < l.length
   ·obtain ⟨bb, off, x, rfl, hbl, hxk, hc⟩ := (HX.out.below h5).at_ hlt
    have c0 := hc 0 _ rfl
    have c1 := hc 1 _ rfl
    have c2 := hc 2 _ rfl
    simp only [Nat.add_zero] at c0
    have hx4 := HIN.out x (List.mem_of_getElem? hxk)
    have hgd : l.getD k default = x := getD_some hxk
    obtain ⟨f, t, m⟩ := x
    simp only at hx4 c0 c1 c2
    obtain ⟨f, rfl⟩ : ∃ v : Nat, f = (v : Int) := ⟨f.toNat, by omega⟩
    obtain ⟨t, rfl⟩ : ∃ v : Nat, t = (v : Int) := ⟨t.toNat, by omega⟩
    have hfn : f < n := by omega
    have htn : t < n := by omega
    have hb2 : bb < wr.heap.size := by have := h5.size; omega
    have st0 : startR l (2 * k) = (f : Int) := by unfold startR; rw [if_pos (by omega), show 2 * k / 2 = k by omega, hgd]
    have st1 : startR l (2 * k + 1) = (t : Int) := by unfold startR; rw [if_neg (by omega), show (2 * k + 1) / 2 = k by omega, hgd]
    have HST := Lib.hid (And.intro st0 st1)
    have HE := Lib.hid (And.intro h1 (And.intro h2 (And.intro h3 (And.intro h4 (And.intro h5 h6)))))
    clear hc hxk hx4 hgd st0 st1 h1 h2 h3 h4 h5
    go_upto_region 5 with fail
    obtain ⟨W4, hW4⟩ : ∃ X, X = wr.alloc (.cells #[.int .i64 f, .int .i64 t, .int .i64 m] 166) := ⟨_, rfl⟩
    obtain ⟨xb, hxb⟩ : ∃ xb, xb = wr.heap.size := ⟨_, rfl⟩
    rw [← hW4, ← hxb]
    have HNX5 : Hid (∃ hs adj, NN w S g n B F xb (.cells #[.slice (some ⟨bb, off, none⟩) l.length c, .slice (some ⟨F, 0, none⟩) l.length l.length, .slice (some ⟨g, 0, none⟩) n n] 173 (0, 0)) zs #[.int .i64 f, .int .i64 t, .int .i64 m] l (2 * k) hs adj W4) := Lib.hid (by
     have b4 : Below wr.heap.size wr W4 := by rw [hW4]; exact (Below.refl _ _).alloc (Nat.le_refl _) _
     obtain ⟨h1, h2, h3, h4, h5, h6⟩ := HE.out
     exact ⟨hs, adj, h1.below b4, h2, (b4.block B (Array.getElem?_eq_some_iff.1 h3).1).trans h3, (b4.block F (Array.getElem?_eq_some_iff.1 h4).1).trans h4, by rw [hW4, hxb]; exact heap_alloc_new wr _, h5.trans (b4.mono h5.size), Nat.le_trans h6 b4.size⟩)
    have gSx : S ≤ xb := by omega
    have hw0 : IntKind.i64.wrap (2 * (k : Int)) = 2 * (k : Int) := IntWalk.i64_in _ (by omega)
    have hw1 : IntKind.i64.wrap (2 * (k : Int) + 1) = 2 * (k : Int) + 1 := IntWalk.i64_in _ (by omega)
    have HGS : Hid (g < S) := Lib.hid HLL.out.2.1
    have HBF : Hid (B < S ∧ F < S ∧ B ≠ g ∧ F ≠ g ∧ w.heap.size ≤ g ∧ w.heap.size ≤ S) := Lib.hid ⟨HLL.out.2.2.1, HLL.out.1, Ne.symm HGB.out, HLL.out.2.2.2.2.2.2.1, HLL.out.2.2.2.2.1, by have := HLL.out.2.2.2.2.1; have := HLL.out.2.1; omega⟩
    have hBS : B < S := HLL.out.2.2.1
    have hgx : g < S := HLL.out.2.1
    have hgB : g ≠ B := HGB.out
    clear hW4 HE c0 c1 c2 hbl hb2 hxb h6
    obtain ⟨hs, adj, hNN⟩ := HNX5.out
    have HNN := Lib.hid hNN
    obtain ⟨h1, h2, h3, h4, h5, h6, h7⟩ := hNN
    obtain ⟨hd, hhd⟩ : ∃ h, hs[f]? = some h := ⟨_, List.getElem?_eq_getElem (by rw [h1.2.1]; exact hfn)⟩
    obtain ⟨ls, hls⟩ : ∃ h, adj[f]? = some h := ⟨_, List.getElem?_eq_getElem (by rw [h1.2.2.1]; exact hfn)⟩
    have ho := h1.2.2.2.1 f hd ls hhd hls
    have hll : ls.length ≤ 131072 := by have := (h2.2 f ls hls).1; omega
    have p0 : W4.cell? ⟨B, 2, none⟩ = some (.slice (some ⟨g, 0, none⟩) n n) := by simp [World.cell?, h3]
    have p1 : W4.cell? ⟨xb, 0, none⟩ = some (.int .i64 f) := by simp [World.cell?, h5]
    have p2 := h1.cell hhd
    have p3 := h1.free f
    have z0 : B < W4.heap.size := (Array.getElem?_eq_some_iff.1 h3).1
    have z1 : xb < W4.heap.size := (Array.getElem?_eq_some_iff.1 h5).1
    have z2 : g < W4.heap.size := h1.lt
    obtain ⟨hA, hn0, hc⟩ := hd
    obtain ⟨_, _, ho2, hon, hom⟩ := ho.shape
    simp only [Sl.v, Value.slice.injEq] at ho2
    obtain ⟨rfl, rfl, rfl⟩ := ho2
    simp only at p2
    have hmax : 262144 ≤ maxLen := by decide
    have HAZ : Hid (S ≤ W4.heap.size) := Lib.hid h7
    have HOa : Owns (W4.drew.alloc (.cells #[.int .i64 (2 * (k : Int))] 3)) S 3 1 natE (.slice hA ls.length hc) ls := ho.alloc (w := W4.drew) _
    have HLa : Reads (W4.drew.alloc (.cells #[.int .i64 (2 * (k : Int))] 3)) W4.heap.size.succ (some ⟨W4.heap.size, 0, none⟩) 1 natE [2 * k] := reads_one W4.drew natE (2 * k) _ _ (by simp [natE]) 1 _ rfl
    have a0 : (W4.drew.alloc (.cells #[.int .i64 (2 * (k : Int))] 3)).cell? ⟨B, 2, none⟩ = some (.slice (some ⟨g, 0, none⟩) n n) := (World.cell?_alloc_old W4.drew _ _ (by show B ≠ W4.heap.size; omega)).trans p0
    have a1 : (W4.drew.alloc (.cells #[.int .i64 (2 * (k : Int))] 3)).cell? ⟨xb, 0, none⟩ = some (.int .i64 f) := (World.cell?_alloc_old W4.drew _ _ (by show xb ≠ W4.heap.size; omega)).trans p1
    have a2 : (W4.drew.alloc (.cells #[.int .i64 (2 * (k : Int))] 3)).cell? ⟨g, f, none⟩ = some (.slice hA ls.length hc) := (World.cell?_alloc_old W4.drew _ _ (by show g ≠ W4.heap.size; omega)).trans p2
    have a3 : (W4.drew.alloc (.cells #[.int .i64 (2 * (k : Int))] 3)).frozen? ⟨g, f, none⟩ = false := (World.frozen?_alloc_old W4.drew _ _ (by show g ≠ W4.heap.size; omega)).trans p3
    have HBL : Hid (∀ b, some b = (Value.slice hA ls.length hc).ownBlock → S ≤ b ∧ b < W4.heap.size) := Lib.hid (fun b e => ⟨ho.base_le b e.symm, ho.lt b e.symm⟩)
    have HXB : Hid (∀ b, some b = (Value.slice hA ls.length hc).ownBlock → b ≠ xb) := Lib.hid (fun b e eb => by
     obtain ⟨o, q1, q2⟩ := ho.typed e.symm
     rw [eb, h5] at q1
     injection q1 with q1
     injection q1 with _ q1
     revert q1
     decide)
    have HH := Lib.hid (And.intro hhd hls)
    have hwa : Below W4.heap.size W4 (W4.drew.alloc (.cells #[.int .i64 (2 * (k : Int))] 3)) := ((Below.refl _ W4).drew).alloc (Nat.le_refl _) _
    have hgS : g < S := HLL.out.2.2.1 |> fun _ => HGS.out
    have hSz : S ≤ W4.heap.size := h7
    have d0 : W4.drew.cell? ⟨B, 2, none⟩ = some (.slice (some ⟨g, 0, none⟩) n n) := p0
    have d1 : W4.drew.cell? ⟨xb, 0, none⟩ = some (.int .i64 f) := p1
    have d2 : W4.drew.cell? ⟨g, f, none⟩ = some (.slice hA ls.length hc) := p2
    clear h1 h2 h3 h4 h5 h6 h7 hhd hls ho hon hom
    go_cut [] (fun wx => ∃ hs adj, NN w S g n B F xb (.cells #[.slice (some ⟨bb, off, none⟩) l.length c, .slice (some ⟨F, 0, none⟩) l.length l.length, .slice (some ⟨g, 0, none⟩) n n] 173 (0, 0)) zs #[.int .i64 f, .int .i64 t, .int .i64 m] l (2 * k + 1) hs adj wx)
    case first =>
     refine wp_region_held_drew (S := (fun w' => w'.cell? ⟨B, 2, none⟩ = some (.slice (some ⟨g, 0, none⟩) n n) ∧ w'.cell? ⟨xb, 0, none⟩ = some (.int .i64 f))) (by kernel_rfl) ⟨d0, d1⟩ (fun hHeld => ?_)
     refine wpAnyH_take (i := 0) (v := ?_) rfl (by kernel_rfl) (by kernel_rfl) (by kernel_rfl) (fun _ _ _ h => h) (Or.inl ⟨by rfl, ?_⟩) (by assumption) ?_
     rotate_left
     ·intro w hSw
      (try dsimp only at hSw)
      go_simp
      try with_reducible rfl
     simp only [Act.put, List.setIfInBounds_toArray, List.set_cons_zero, List.set_cons_succ]
     refine wpAnyH_take (i := 1) (v := ?_) rfl (by kernel_rfl) (by kernel_rfl) (by kernel_rfl) (fun _ _ _ h => h) (Or.inl ⟨by rfl, ?_⟩) (by assumption) ?_
     rotate_left
     ·intro w hSw
      (try dsimp only at hSw)
      go_simp
      try with_reducible rfl
     simp only [Act.put, List.setIfInBounds_toArray, List.set_cons_zero, List.set_cons_succ]
     refine wpAnyH_take (i := 2) (v := ?_) rfl (by kernel_rfl) (by kernel_rfl) (by kernel_rfl) (fun _ _ _ h => h) (Or.inl ⟨by rfl, ?_⟩) (by assumption) ?_
     rotate_left
     ·intro w hSw
      (try dsimp only at hSw)
      go_simp
      try with_reducible rfl
     simp only [Act.put, List.setIfInBounds_toArray, List.set_cons_zero, List.set_cons_succ]
     refine wpAnyH_take (i := 3) (v := ?_) rfl (by kernel_rfl) (by kernel_rfl) (by kernel_rfl) (fun _ _ _ h => h) (Or.inl ⟨by rfl, ?_⟩) (by assumption) ?_
     rotate_left
     ·intro w hSw
      (try dsimp only at hSw)
      go_simp
      try with_reducible rfl
     simp only [Act.put, List.setIfInBounds_toArray, List.set_cons_zero, List.set_cons_succ]
     refine wpAnyH_take (i := 4) (v := ?_) rfl (by kernel_rfl) (by kernel_rfl) (by kernel_rfl) (fun _ _ _ h => h) (Or.inl ⟨by rfl, ?_⟩) (by assumption) ?_
     rotate_left
     ·intro w hSw
      (try dsimp only at hSw)
      go_simp
      try with_reducible rfl
     simp only [Act.put, List.setIfInBounds_toArray, List.set_cons_zero, List.set_cons_succ]
     refine wpAnyH_take (i := 5) (v := ?_) rfl (by kernel_rfl) (by kernel_rfl) (by kernel_rfl) (fun _ _ _ h => h) (Or.inl ⟨by rfl, ?_⟩) (by assumption) ?_
     rotate_left
     ·intro w hSw
      (try dsimp only at hSw)
      go_simp
      try with_reducible rfl
     simp only [Act.put, List.setIfInBounds_toArray, List.set_cons_zero, List.set_cons_succ]
     refine wpAnyH_take (i := 6) (v := ?_) rfl (by kernel_rfl) (by kernel_rfl) (by kernel_rfl) (fun _ _ _ h => h) (Or.inl ⟨by rfl, ?_⟩) (by assumption) ?_
     rotate_left
     ·intro w hSw
      (try dsimp only at hSw)
      go_simp
      try with_reducible rfl
     simp only [Act.put, List.setIfInBounds_toArray, List.set_cons_zero, List.set_cons_succ]
     refine wpAnyH_take (i := 7) (v := ?_) rfl (by kernel_rfl) (by kernel_rfl) (by kernel_rfl) (fun _ _ _ h => h) (Or.inl ⟨by rfl, ?_⟩) (by assumption) ?_
     rotate_left
     ·intro w hSw
      (try dsimp only at hSw)
      go_simp
      try with_reducible rfl
     simp only [Act.put, List.setIfInBounds_toArray, List.set_cons_zero, List.set_cons_succ]
     refine wpAnyH_take (i := 8) (v := ?_) rfl (by kernel_rfl) (by kernel_rfl) (by kernel_rfl) (fun _ _ _ h => h) (Or.inl ⟨by rfl, ?_⟩) (by assumption) ?_
     rotate_left
     ·intro w hSw
      (try dsimp only at hSw)
      go_simp
      try with_reducible rfl
     simp only [Act.put, List.setIfInBounds_toArray, List.set_cons_zero, List.set_cons_succ]
     refine wpAnyH_take (i := 9) (v := ?_) rfl (by kernel_rfl) (by kernel_rfl) (by kernel_rfl) (fun _ _ _ h => h) (Or.inl ⟨by rfl, ?_⟩) (by assumption) ?_
     rotate_left
     ·intro w hSw
      (try dsimp only at hSw)
      go_simp
      try with_reducible rfl
     simp only [Act.put, List.setIfInBounds_toArray, List.set_cons_zero, List.set_cons_succ]
     refine wpAnyH_take (i := 10) (v := ?_) rfl (by kernel_rfl) (by kernel_rfl) (by kernel_rfl) (fun _ _ _ h => h) (Or.inl ⟨by rfl, ?_⟩) (by assumption) ?_
     rotate_left
     ·intro w hSw
      (try dsimp only at hSw)
      go_simp
      try with_reducible rfl
     simp only [Act.put, List.setIfInBounds_toArray, List.set_cons_zero, List.set_cons_succ]
     refine wpAnyH_take (i := 11) (v := ?_) rfl (by kernel_rfl) (by kernel_rfl) (by kernel_rfl) (fun _ _ _ h => h) (Or.inl ⟨by rfl, ?_⟩) (by assumption) ?_
     rotate_left
     ·intro w hSw
      (try dsimp only at hSw)
      go_simp
      try with_reducible rfl
     simp only [Act.put, List.setIfInBounds_toArray, List.set_cons_zero, List.set_cons_succ]
     refine wpAnyH_take (i := 12) (v := ?_) rfl (by kernel_rfl) (by kernel_rfl) (by kernel_rfl) (fun _ _ _ h => h) (Or.inl ⟨by rfl, ?_⟩) (by assumption) ?_
     rotate_left
     ·intro w hSw
      (try dsimp only at hSw)
      go_simp
      try with_reducible rfl
     simp only [Act.put, List.setIfInBounds_toArray, List.set_cons_zero, List.set_cons_succ]
     refine wpAnyH_take (i := 14) (v := ?_) rfl (by kernel_rfl) (by kernel_rfl) (by kernel_rfl) (fun _ _ _ h => h) (Or.inl ⟨by rfl, ?_⟩) (by assumption) ?_
     rotate_left
     ·intro w hSw
      (try dsimp only at hSw)
      go_simp
      try with_reducible rfl
     simp only [Act.put, List.setIfInBounds_toArray, List.set_cons_zero, List.set_cons_succ]
     refine wpAnyH_take (i := 15) (v := ?_) rfl (by kernel_rfl) (by kernel_rfl) (by kernel_rfl) (fun _ _ _ h => h) (Or.inl ⟨by rfl, ?_⟩) (by assumption) ?_
     rotate_left
     ·intro w hSw
      (try dsimp only at hSw)
      go_simp
      try with_reducible rfl
     simp only [Act.put, List.setIfInBounds_toArray, List.set_cons_zero, List.set_cons_succ]
     refine wpAnyH_ready (rs := [13, 16]) (by kernel_rfl) (by simp) ?_
     refine AllReadyH.cons rfl (fun K hK => ?_) ?_
     ·go_simp
      refine hK.out _ _ (by assumption) (fun hHeld => ?_)
      clear hK
      refine wpAnyH_ready (rs := [16]) (by kernel_rfl) (by simp) ?_
      refine AllReadyH.cons rfl (fun K hK => ?_) ?_
      ·go_simp
       refine hK.out _ _ ⟨a0, a1⟩ (fun hHeld => ?_)
       clear hK
       refine wpAnyH_ready (rs := [17]) (by kernel_rfl) (by simp) ?_
       refine AllReadyH.cons rfl (fun K hK => ?_) ?_
       ·refine step_append_reads (en := natE) (sz := 1) (by rfl) _ _ _ (by rfl) natE_len natE_one S 3 i0 _ 8 Tryz.underlying64 HI.out hz0 hz1 hz2 rfl (by decide) (.slice hA ls.length hc) ls (by rfl) HOa W4.heap.size.succ (some ⟨W4.heap.size, 0, none⟩) 1 [2 * k] (by rfl) HLa (by simp) (by simp only [List.length_cons, List.length_nil]; omega) (by simp only [List.length_cons, List.length_nil]; omega) (by have := HAZ.out; simp; omega) ?_
        intro v5 w5 k1 k2 k3
        obtain ⟨A5, c5, rfl, k4, k5⟩ := k1.shape
        simp only [List.length_append, List.length_cons, List.length_nil, Nat.zero_add] at k1 k3
        have g0 : w5.cell? ⟨B, 2, none⟩ = some (.slice (some ⟨g, 0, none⟩) n n) := (grown_cell k2 (by simp; omega) (fun e => by have := HBL.out _ e; simp only at this; omega)).trans a0
        have g1 : w5.cell? ⟨xb, 0, none⟩ = some (.int .i64 f) := (grown_cell k2 (by simp; omega) (fun e => HXB.out _ e rfl)).trans a1
        have g2 : w5.cell? ⟨g, f, none⟩ = some (.slice hA ls.length hc) := (grown_cell k2 (by simp; omega) (fun e => by have := HBL.out _ e; simp only at this; omega)).trans a2
        have g3 : w5.frozen? ⟨g, f, none⟩ = false := (grown_frozen k2 (by simp; omega) (fun e => by have := HBL.out _ e; simp only at this; omega)).trans a3
        have HK1 := Lib.hid (And.intro k1 (And.intro k2 k3))
        clear k1 k2 k3
        refine hK.out _ _ ⟨g0, g1⟩ (fun hHeld => ?_)
        clear hK
        refine wpAnyH_take (i := 18) (v := ?_) rfl (by kernel_rfl) (by kernel_rfl) (by kernel_rfl) (fun _ _ _ h => h) (Or.inl ⟨by rfl, ?_⟩) (by assumption) ?_
        rotate_left
        ·intro w hSw
         (try dsimp only at hSw)
         go_simp
         try with_reducible rfl
        simp only [Act.put, List.setIfInBounds_toArray, List.set_cons_zero, List.set_cons_succ]
        refine wpAnyH_ready (rs := [19]) (by kernel_rfl) (by simp) ?_
        refine AllReadyH.cons rfl (fun K hK => ?_) ?_
        ·go_simp
         refine hK.out _ _ ⟨(set_far _ _ _ _ (addr_ne (by omega))).trans g0, (set_far _ _ _ _ (addr_ne (by omega))).trans g1⟩ (fun hHeld => ?_)
         clear hK
         refine wpAnyH_done (by kernel_rfl) ?_ _
         go_wp2_with fail
         go_meet
         exact NN.next HBF.out HNN.out HH.out.1 HH.out.2 HST.out.1 hwa HK1.out.1 HK1.out.2.1 HK1.out.2.2 hgS hSz
        exact AllReadyH.nil
       exact AllReadyH.nil
      exact AllReadyH.nil
     refine AllReadyH.cons rfl (fun K hK => ?_) ?_
     ·go_simp
      refine hK.out _ _ ⟨a0, a1⟩ (fun hHeld => ?_)
      clear hK
      refine wpAnyH_ready (rs := [13]) (by kernel_rfl) (by simp) ?_
      refine AllReadyH.cons rfl (fun K hK => ?_) ?_
      ·go_simp
       refine hK.out _ _ (by assumption) (fun hHeld => ?_)
       clear hK
       refine wpAnyH_ready (rs := [17]) (by kernel_rfl) (by simp) ?_
       refine AllReadyH.cons rfl (fun K hK => ?_) ?_
       ·refine step_append_reads (en := natE) (sz := 1) (by rfl) _ _ _ (by rfl) natE_len natE_one S 3 i0 _ 8 Tryz.underlying64 HI.out hz0 hz1 hz2 rfl (by decide) (.slice hA ls.length hc) ls (by rfl) HOa W4.heap.size.succ (some ⟨W4.heap.size, 0, none⟩) 1 [2 * k] (by rfl) HLa (by simp) (by simp only [List.length_cons, List.length_nil]; omega) (by simp only [List.length_cons, List.length_nil]; omega) (by have := HAZ.out; simp; omega) ?_
        intro v5 w5 k1 k2 k3
        obtain ⟨A5, c5, rfl, k4, k5⟩ := k1.shape
        simp only [List.length_append, List.length_cons, List.length_nil, Nat.zero_add] at k1 k3
        have g0 : w5.cell? ⟨B, 2, none⟩ = some (.slice (some ⟨g, 0, none⟩) n n) := (grown_cell k2 (by simp; omega) (fun e => by have := HBL.out _ e; simp only at this; omega)).trans a0
        have g1 : w5.cell? ⟨xb, 0, none⟩ = some (.int .i64 f) := (grown_cell k2 (by simp; omega) (fun e => HXB.out _ e rfl)).trans a1
        have g2 : w5.cell? ⟨g, f, none⟩ = some (.slice hA ls.length hc) := (grown_cell k2 (by simp; omega) (fun e => by have := HBL.out _ e; simp only at this; omega)).trans a2
        have g3 : w5.frozen? ⟨g, f, none⟩ = false := (grown_frozen k2 (by simp; omega) (fun e => by have := HBL.out _ e; simp only at this; omega)).trans a3
        have HK1 := Lib.hid (And.intro k1 (And.intro k2 k3))
        clear k1 k2 k3
        refine hK.out _ _ ⟨g0, g1⟩ (fun hHeld => ?_)
        clear hK
        refine wpAnyH_take (i := 18) (v := ?_) rfl (by kernel_rfl) (by kernel_rfl) (by kernel_rfl) (fun _ _ _ h => h) (Or.inl ⟨by rfl, ?_⟩) (by assumption) ?_
        rotate_left
        ·intro w hSw
         (try dsimp only at hSw)
         go_simp
         try with_reducible rfl
        simp only [Act.put, List.setIfInBounds_toArray, List.set_cons_zero, List.set_cons_succ]
        refine wpAnyH_ready (rs := [19]) (by kernel_rfl) (by simp) ?_
        refine AllReadyH.cons rfl (fun K hK => ?_) ?_
        ·go_simp
         refine hK.out _ _ ⟨(set_far _ _ _ _ (addr_ne (by omega))).trans g0, (set_far _ _ _ _ (addr_ne (by omega))).trans g1⟩ (fun hHeld => ?_)
         clear hK
         refine wpAnyH_done (by kernel_rfl) ?_ _
         go_wp2_with fail
         go_meet
         exact NN.next HBF.out HNN.out HH.out.1 HH.out.2 HST.out.1 hwa HK1.out.1 HK1.out.2.1 HK1.out.2.2 hgS hSz
        exact AllReadyH.nil
       exact AllReadyH.nil
      exact AllReadyH.nil
     exact AllReadyH.nil
    case rest =>
     obtain ⟨W6, hw6⟩ : ∃ X, X = wc := ⟨_, rfl⟩
     subst hw6
     have HNX6 := Lib.hid hcut
     clear hcut p0 p1 p2 p3 z0 z1 z2 a0 a1 a2 a3 d0 d1 d2 hwa hSz HOa HLa HBL HXB HH HNN HNX5 hmax hll HAZ hgS
     go_upto_region 6 with fail
     obtain ⟨hs, adj, hNN⟩ := HNX6.out
     have HNN := Lib.hid hNN
     obtain ⟨h1, h2, h3, h4, h5, h6, h7⟩ := hNN
     obtain ⟨hd, hhd⟩ : ∃ h, hs[t]? = some h := ⟨_, List.getElem?_eq_getElem (by rw [h1.2.1]; exact htn)⟩
     obtain ⟨ls, hls⟩ : ∃ h, adj[t]? = some h := ⟨_, List.getElem?_eq_getElem (by rw [h1.2.2.1]; exact htn)⟩
     have ho := h1.2.2.2.1 t hd ls hhd hls
     have hll : ls.length ≤ 131072 := by have := (h2.2 t ls hls).1; omega
     have p0 : W6.cell? ⟨B, 2, none⟩ = some (.slice (some ⟨g, 0, none⟩) n n) := by simp [World.cell?, h3]
     have p1 : W6.cell? ⟨xb, 1, none⟩ = some (.int .i64 t) := by simp [World.cell?, h5]
     have p2 := h1.cell hhd
     have p3 := h1.free t
     have z0 : B < W6.heap.size := (Array.getElem?_eq_some_iff.1 h3).1
     have z1 : xb < W6.heap.size := (Array.getElem?_eq_some_iff.1 h5).1
     have z2 : g < W6.heap.size := h1.lt
     obtain ⟨hA, hn0, hc⟩ := hd
     obtain ⟨_, _, ho2, hon, hom⟩ := ho.shape
     simp only [Sl.v, Value.slice.injEq] at ho2
     obtain ⟨rfl, rfl, rfl⟩ := ho2
     simp only at p2
     have hmax : 262144 ≤ maxLen := by decide
     have HAZ : Hid (S ≤ W6.heap.size) := Lib.hid h7
     have HOa : Owns (W6.drew.alloc (.cells #[.int .i64 (2 * (k : Int) + 1)] 3)) S 3 1 natE (.slice hA ls.length hc) ls := ho.alloc (w := W6.drew) _
     have HLa : Reads (W6.drew.alloc (.cells #[.int .i64 (2 * (k : Int) + 1)] 3)) W6.heap.size.succ (some ⟨W6.heap.size, 0, none⟩) 1 natE [2 * k + 1] := reads_one W6.drew natE (2 * k + 1) _ _ (by simp [natE]) 1 _ rfl
     have a0 : (W6.drew.alloc (.cells #[.int .i64 (2 * (k : Int) + 1)] 3)).cell? ⟨B, 2, none⟩ = some (.slice (some ⟨g, 0, none⟩) n n) := (World.cell?_alloc_old W6.drew _ _ (by show B ≠ W6.heap.size; omega)).trans p0
     have a1 : (W6.drew.alloc (.cells #[.int .i64 (2 * (k : Int) + 1)] 3)).cell? ⟨xb, 1, none⟩ = some (.int .i64 t) := (World.cell?_alloc_old W6.drew _ _ (by show xb ≠ W6.heap.size; omega)).trans p1
     have a2 : (W6.drew.alloc (.cells #[.int .i64 (2 * (k : Int) + 1)] 3)).cell? ⟨g, t, none⟩ = some (.slice hA ls.length hc) := (World.cell?_alloc_old W6.drew _ _ (by show g ≠ W6.heap.size; omega)).trans p2
     have a3 : (W6.drew.alloc (.cells #[.int .i64 (2 * (k : Int) + 1)] 3)).frozen? ⟨g, t, none⟩ = false := (World.frozen?_alloc_old W6.drew _ _ (by show g ≠ W6.heap.size; omega)).trans p3
     have HBL : Hid (∀ b, some b = (Value.slice hA ls.length hc).ownBlock → S ≤ b ∧ b < W6.heap.size) := Lib.hid (fun b e => ⟨ho.base_le b e.symm, ho.lt b e.symm⟩)
     have HXB : Hid (∀ b, some b = (Value.slice hA ls.length hc).ownBlock → b ≠ xb) := Lib.hid (fun b e eb => by
      obtain ⟨o, q1, q2⟩ := ho.typed e.symm
      rw [eb, h5] at q1
      injection q1 with q1
      injection q1 with _ q1
      revert q1
      decide)
     have HH := Lib.hid (And.intro hhd hls)
     have hwa : Below W6.heap.size W6 (W6.drew.alloc (.cells #[.int .i64 (2 * (k : Int) + 1)] 3)) := ((Below.refl _ W6).drew).alloc (Nat.le_refl _) _
     have hgS : g < S := HLL.out.2.2.1 |> fun _ => HGS.out
     have hSz : S ≤ W6.heap.size := h7
     have d0 : W6.drew.cell? ⟨B, 2, none⟩ = some (.slice (some ⟨g, 0, none⟩) n n) := p0
     have d1 : W6.drew.cell? ⟨xb, 1, none⟩ = some (.int .i64 t) := p1
     have d2 : W6.drew.cell? ⟨g, t, none⟩ = some (.slice hA ls.length hc) := p2
     clear h1 h2 h3 h4 h5 h6 h7 hhd hls ho hon hom
     refine wp_region_held_drew (S := (fun w' => w'.cell? ⟨B, 2, none⟩ = some (.slice (some ⟨g, 0, none⟩) n n) ∧ w'.cell? ⟨xb, 1, none⟩ = some (.int .i64 t))) (by kernel_rfl) ⟨d0, d1⟩ (fun hHeld => ?_)
     refine wpAnyH_take (i := 0) (v := ?_) rfl (by kernel_rfl) (by kernel_rfl) (by kernel_rfl) (fun _ _ _ h => h) (Or.inl ⟨by rfl, ?_⟩) (by assumption) ?_
     rotate_left
     ·intro w hSw
      (try dsimp only at hSw)
      go_simp
      try with_reducible rfl
     simp only [Act.put, List.setIfInBounds_toArray, List.set_cons_zero, List.set_cons_succ]
     refine wpAnyH_take (i := 1) (v := ?_) rfl (by kernel_rfl) (by kernel_rfl) (by kernel_rfl) (fun _ _ _ h => h) (Or.inl ⟨by rfl, ?_⟩) (by assumption) ?_
     rotate_left
     ·intro w hSw
      (try dsimp only at hSw)
      go_simp
      try with_reducible rfl
     simp only [Act.put, List.setIfInBounds_toArray, List.set_cons_zero, List.set_cons_succ]
     refine wpAnyH_take (i := 2) (v := ?_) rfl (by kernel_rfl) (by kernel_rfl) (by kernel_rfl) (fun _ _ _ h => h) (Or.inl ⟨by rfl, ?_⟩) (by assumption) ?_
     rotate_left
     ·intro w hSw
      (try dsimp only at hSw)
      go_simp
      try with_reducible rfl
     simp only [Act.put, List.setIfInBounds_toArray, List.set_cons_zero, List.set_cons_succ]
     refine wpAnyH_take (i := 3) (v := ?_) rfl (by kernel_rfl) (by kernel_rfl) (by kernel_rfl) (fun _ _ _ h => h) (Or.inl ⟨by rfl, ?_⟩) (by assumption) ?_
     rotate_left
     ·intro w hSw
      (try dsimp only at hSw)
      go_simp
      try with_reducible rfl
     simp only [Act.put, List.setIfInBounds_toArray, List.set_cons_zero, List.set_cons_succ]
     refine wpAnyH_take (i := 4) (v := ?_) rfl (by kernel_rfl) (by kernel_rfl) (by kernel_rfl) (fun _ _ _ h => h) (Or.inl ⟨by rfl, ?_⟩) (by assumption) ?_
     rotate_left
     ·intro w hSw
      (try dsimp only at hSw)
      go_simp
      try with_reducible rfl
     simp only [Act.put, List.setIfInBounds_toArray, List.set_cons_zero, List.set_cons_succ]
     refine wpAnyH_take (i := 5) (v := ?_) rfl (by kernel_rfl) (by kernel_rfl) (by kernel_rfl) (fun _ _ _ h => h) (Or.inl ⟨by rfl, ?_⟩) (by assumption) ?_
     rotate_left
     ·intro w hSw
      (try dsimp only at hSw)
      go_simp
      try with_reducible rfl
     simp only [Act.put, List.setIfInBounds_toArray, List.set_cons_zero, List.set_cons_succ]
     refine wpAnyH_take (i := 6) (v := ?_) rfl (by kernel_rfl) (by kernel_rfl) (by kernel_rfl) (fun _ _ _ h => h) (Or.inl ⟨by rfl, ?_⟩) (by assumption) ?_
     rotate_left
     ·intro w hSw
      (try dsimp only at hSw)
      go_simp
      try with_reducible rfl
     simp only [Act.put, List.setIfInBounds_toArray, List.set_cons_zero, List.set_cons_succ]
     refine wpAnyH_take (i := 7) (v := ?_) rfl (by kernel_rfl) (by kernel_rfl) (by kernel_rfl) (fun _ _ _ h => h) (Or.inl ⟨by rfl, ?_⟩) (by assumption) ?_
     rotate_left
     ·intro w hSw
      (try dsimp only at hSw)
      go_simp
      try with_reducible rfl
     simp only [Act.put, List.setIfInBounds_toArray, List.set_cons_zero, List.set_cons_succ]
     refine wpAnyH_take (i := 8) (v := ?_) rfl (by kernel_rfl) (by kernel_rfl) (by kernel_rfl) (fun _ _ _ h => h) (Or.inl ⟨by rfl, ?_⟩) (by assumption) ?_
     rotate_left
     ·intro w hSw
      (try dsimp only at hSw)
      go_simp
      try with_reducible rfl
     simp only [Act.put, List.setIfInBounds_toArray, List.set_cons_zero, List.set_cons_succ]
     refine wpAnyH_take (i := 9) (v := ?_) rfl (by kernel_rfl) (by kernel_rfl) (by kernel_rfl) (fun _ _ _ h => h) (Or.inl ⟨by rfl, ?_⟩) (by assumption) ?_
     rotate_left
     ·intro w hSw
      (try dsimp only at hSw)
      go_simp
      try with_reducible rfl
     simp only [Act.put, List.setIfInBounds_toArray, List.set_cons_zero, List.set_cons_succ]
     refine wpAnyH_take (i := 10) (v := ?_) rfl (by kernel_rfl) (by kernel_rfl) (by kernel_rfl) (fun _ _ _ h => h) (Or.inl ⟨by rfl, ?_⟩) (by assumption) ?_
     rotate_left
     ·intro w hSw
      (try dsimp only at hSw)
      go_simp
      try with_reducible rfl
     simp only [Act.put, List.setIfInBounds_toArray, List.set_cons_zero, List.set_cons_succ]
     refine wpAnyH_take (i := 11) (v := ?_) rfl (by kernel_rfl) (by kernel_rfl) (by kernel_rfl) (fun _ _ _ h => h) (Or.inl ⟨by rfl, ?_⟩) (by assumption) ?_
     rotate_left
     ·intro w hSw
      (try dsimp only at hSw)
      go_simp
      try with_reducible rfl
     simp only [Act.put, List.setIfInBounds_toArray, List.set_cons_zero, List.set_cons_succ]
     refine wpAnyH_take (i := 12) (v := ?_) rfl (by kernel_rfl) (by kernel_rfl) (by kernel_rfl) (fun _ _ _ h => h) (Or.inl ⟨by rfl, ?_⟩) (by assumption) ?_
     rotate_left
     ·intro w hSw
      (try dsimp only at hSw)
      go_simp
      try with_reducible rfl
     simp only [Act.put, List.setIfInBounds_toArray, List.set_cons_zero, List.set_cons_succ]
     refine wpAnyH_take (i := 14) (v := ?_) rfl (by kernel_rfl) (by kernel_rfl) (by kernel_rfl) (fun _ _ _ h => h) (Or.inl ⟨by rfl, ?_⟩) (by assumption) ?_
     rotate_left
     ·intro w hSw
      (try dsimp only at hSw)
      go_simp
      try with_reducible rfl
     simp only [Act.put, List.setIfInBounds_toArray, List.set_cons_zero, List.set_cons_succ]
     refine wpAnyH_take (i := 15) (v := ?_) rfl (by kernel_rfl) (by kernel_rfl) (by kernel_rfl) (fun _ _ _ h => h) (Or.inl ⟨by rfl, ?_⟩) (by assumption) ?_
     rotate_left
     ·intro w hSw
      (try dsimp only at hSw)
      go_simp
      try with_reducible rfl
     simp only [Act.put, List.setIfInBounds_toArray, List.set_cons_zero, List.set_cons_succ]
     refine wpAnyH_take (i := 16) (v := ?_) rfl (by kernel_rfl) (by kernel_rfl) (by kernel_rfl) (fun _ _ _ h => h) (Or.inl ⟨by rfl, ?_⟩) (by assumption) ?_
     rotate_left
     ·intro w hSw
      (try dsimp only at hSw)
      go_simp
      try with_reducible rfl
     simp only [Act.put, List.setIfInBounds_toArray, List.set_cons_zero, List.set_cons_succ]
     refine wpAnyH_ready (rs := [13, 17]) (by kernel_rfl) (by simp) ?_
     refine AllReadyH.cons rfl (fun K hK => ?_) ?_
     ·go_simp
      refine hK.out _ _ (by assumption) (fun hHeld => ?_)
      clear hK
      refine wpAnyH_ready (rs := [17]) (by kernel_rfl) (by simp) ?_
      refine AllReadyH.cons rfl (fun K hK => ?_) ?_
      ·go_simp
       refine hK.out _ _ ⟨a0, a1⟩ (fun hHeld => ?_)
       clear hK
       refine wpAnyH_ready (rs := [18]) (by kernel_rfl) (by simp) ?_
       refine AllReadyH.cons rfl (fun K hK => ?_) ?_
       ·refine step_append_reads (en := natE) (sz := 1) (by rfl) _ _ _ (by rfl) natE_len natE_one S 3 i0 _ 8 Tryz.underlying64 HI.out hz0 hz1 hz2 rfl (by decide) (.slice hA ls.length hc) ls (by rfl) HOa W6.heap.size.succ (some ⟨W6.heap.size, 0, none⟩) 1 [2 * k + 1] (by rfl) HLa (by simp) (by simp only [List.length_cons, List.length_nil]; omega) (by simp only [List.length_cons, List.length_nil]; omega) (by have := HAZ.out; simp; omega) ?_
        intro v5 w5 k1 k2 k3
        obtain ⟨A5, c5, rfl, k4, k5⟩ := k1.shape
        simp only [List.length_append, List.length_cons, List.length_nil, Nat.zero_add] at k1 k3
        have g0 : w5.cell? ⟨B, 2, none⟩ = some (.slice (some ⟨g, 0, none⟩) n n) := (grown_cell k2 (by simp; omega) (fun e => by have := HBL.out _ e; simp only at this; omega)).trans a0
        have g1 : w5.cell? ⟨xb, 1, none⟩ = some (.int .i64 t) := (grown_cell k2 (by simp; omega) (fun e => HXB.out _ e rfl)).trans a1
        have g2 : w5.cell? ⟨g, t, none⟩ = some (.slice hA ls.length hc) := (grown_cell k2 (by simp; omega) (fun e => by have := HBL.out _ e; simp only at this; omega)).trans a2
        have g3 : w5.frozen? ⟨g, t, none⟩ = false := (grown_frozen k2 (by simp; omega) (fun e => by have := HBL.out _ e; simp only at this; omega)).trans a3
        have HK1 := Lib.hid (And.intro k1 (And.intro k2 k3))
        clear k1 k2 k3
        refine hK.out _ _ ⟨g0, g1⟩ (fun hHeld => ?_)
        clear hK
        refine wpAnyH_take (i := 19) (v := ?_) rfl (by kernel_rfl) (by kernel_rfl) (by kernel_rfl) (fun _ _ _ h => h) (Or.inl ⟨by rfl, ?_⟩) (by assumption) ?_
        rotate_left
        ·intro w hSw
         (try dsimp only at hSw)
         go_simp
         try with_reducible rfl
        simp only [Act.put, List.setIfInBounds_toArray, List.set_cons_zero, List.set_cons_succ]
        refine wpAnyH_ready (rs := [20]) (by kernel_rfl) (by simp) ?_
        refine AllReadyH.cons rfl (fun K hK => ?_) ?_
        ·go_simp
         refine hK.out _ _ ⟨(set_far _ _ _ _ (addr_ne (by omega))).trans g0, (set_far _ _ _ _ (addr_ne (by omega))).trans g1⟩ (fun hHeld => ?_)
         clear hK
         refine wpAnyH_done (by kernel_rfl) ?_ _
         go_wp2_with fail
         go_roundw
         case rel =>
          obtain ⟨hs', adj', h1, h2, h3, h4, _, h6, h7⟩ := NN.next HBF.out HNN.out HH.out.1 HH.out.2 HST.out.2 hwa HK1.out.1 HK1.out.2.1 HK1.out.2.2 hgS hSz
          exact ⟨k + 1, by omega, by go_num, hs', adj', h1, by rw [show 2 * (k + 1) = 2 * k + 1 + 1 by omega]; exact h2, h3, h4, h6, h7⟩
         case measure => simp [intOf]; omega
        exact AllReadyH.nil
       exact AllReadyH.nil
      exact AllReadyH.nil
     refine AllReadyH.cons rfl (fun K hK => ?_) ?_
     ·go_simp
      refine hK.out _ _ ⟨a0, a1⟩ (fun hHeld => ?_)
      clear hK
      refine wpAnyH_ready (rs := [13]) (by kernel_rfl) (by simp) ?_
      refine AllReadyH.cons rfl (fun K hK => ?_) ?_
      ·go_simp
       refine hK.out _ _ (by assumption) (fun hHeld => ?_)
       clear hK
       refine wpAnyH_ready (rs := [18]) (by kernel_rfl) (by simp) ?_
       refine AllReadyH.cons rfl (fun K hK => ?_) ?_
       ·refine step_append_reads (en := natE) (sz := 1) (by rfl) _ _ _ (by rfl) natE_len natE_one S 3 i0 _ 8 Tryz.underlying64 HI.out hz0 hz1 hz2 rfl (by decide) (.slice hA ls.length hc) ls (by rfl) HOa W6.heap.size.succ (some ⟨W6.heap.size, 0, none⟩) 1 [2 * k + 1] (by rfl) HLa (by simp) (by simp only [List.length_cons, List.length_nil]; omega) (by simp only [List.length_cons, List.length_nil]; omega) (by have := HAZ.out; simp; omega) ?_
        intro v5 w5 k1 k2 k3
        obtain ⟨A5, c5, rfl, k4, k5⟩ := k1.shape
        simp only [List.length_append, List.length_cons, List.length_nil, Nat.zero_add] at k1 k3
        have g0 : w5.cell? ⟨B, 2, none⟩ = some (.slice (some ⟨g, 0, none⟩) n n) := (grown_cell k2 (by simp; omega) (fun e => by have := HBL.out _ e; simp only at this; omega)).trans a0
        have g1 : w5.cell? ⟨xb, 1, none⟩ = some (.int .i64 t) := (grown_cell k2 (by simp; omega) (fun e => HXB.out _ e rfl)).trans a1
        have g2 : w5.cell? ⟨g, t, none⟩ = some (.slice hA ls.length hc) := (grown_cell k2 (by simp; omega) (fun e => by have := HBL.out _ e; simp only at this; omega)).trans a2
        have g3 : w5.frozen? ⟨g, t, none⟩ = false := (grown_frozen k2 (by simp; omega) (fun e => by have := HBL.out _ e; simp only at this; omega)).trans a3
        have HK1 := Lib.hid (And.intro k1 (And.intro k2 k3))
        clear k1 k2 k3
        refine hK.out _ _ ⟨g0, g1⟩ (fun hHeld => ?_)
        clear hK
        refine wpAnyH_take (i := 19) (v := ?_) rfl (by kernel_rfl) (by kernel_rfl) (by kernel_rfl) (fun _ _ _ h => h) (Or.inl ⟨by rfl, ?_⟩) (by assumption) ?_
        rotate_left
        ·intro w hSw
         (try dsimp only at hSw)
         go_simp
         try with_reducible rfl
        simp only [Act.put, List.setIfInBounds_toArray, List.set_cons_zero, List.set_cons_succ]
        refine wpAnyH_ready (rs := [20]) (by kernel_rfl) (by simp) ?_
        refine AllReadyH.cons rfl (fun K hK => ?_) ?_
        ·go_simp
         refine hK.out _ _ ⟨(set_far _ _ _ _ (addr_ne (by omega))).trans g0, (set_far _ _ _ _ (addr_ne (by omega))).trans g1⟩ (fun hHeld => ?_)
         clear hK
         refine wpAnyH_done (by kernel_rfl) ?_ _
         go_wp2_with fail
         go_roundw
         case rel =>
          obtain ⟨hs', adj', h1, h2, h3, h4, _, h6, h7⟩ := NN.next HBF.out HNN.out HH.out.1 HH.out.2 HST.out.2 hwa HK1.out.1 HK1.out.2.1 HK1.out.2.2 hgS hSz
          exact ⟨k + 1, by omega, by go_num, hs', adj', h1, by rw [show 2 * (k + 1) = 2 * k + 1 + 1 by omega]; exact h2, h3, h4, h6, h7⟩
         case measure => simp [intOf]; omega
        exact AllReadyH.nil
       exact AllReadyH.nil
      exact AllReadyH.nil
     exact AllReadyH.nil
   ·obtain rfl : k = l.length := by omega
    have HE := Lib.hid (And.intro h1 (And.intro h2 (And.intro h3 (And.intro h4 (And.intro h5 h6)))))
    clear h1 h2 h3 h4 h5 h6
    go_wp2_with fail
    go_ret
    obtain ⟨h1, h2, h3, h4, h5, h6⟩ := HE.out
    obtain ⟨l1, l2, l3, f4, f5, f6, hFg, hFB⟩ := HLL.out
    obtain ⟨hlc, hc, hnil⟩ := HC.out
    refine ⟨⟨B, F, adj, fun b => b ≠ F ∧ b < wr.heap.size, rfl, ⟨A, c, g, ?_, ?_, ?_, ⟨hFB, by omega⟩, ⟨Ne.symm hFg, by omega⟩, by omega, by omega, ?_, hs, h1.2.1, h1.2.2.1, fun v hd hv => h1.cell hv, fun v hd ls hv ha => ?_⟩, ?_, h2.ok, fun b hb => hb.2, f4, fun h => h.1 rfl⟩, h5⟩
    ·simp [World.cell?, h3]
    ·simp [World.cell?, h3]
    ·simp [World.cell?, h3]
    ·refine ⟨rfl, hlc, hc, hnil, (HX.out.below h5).more h5.size, fun hn a e => ?_⟩
     obtain ⟨b, off, e2, hb, _⟩ := HX.out hn
     simp only at e
     rw [e2] at e
     injection e with e
     subst e
     have := h5.size
     exact ⟨by show b ≠ F; omega, by show b < _; omega⟩
    ·have o := h1.2.2.2.1 v hd ls hv ha
     exact (SlR.of_owns2 natE_len o).mono (fun b hb => ⟨by omega, hb.2⟩)
    ·unfold FlAt
     rw [h4, HZS.out]
end Go.Proofs.YtalmbigebjbaoaaGreatDoor.Fl
