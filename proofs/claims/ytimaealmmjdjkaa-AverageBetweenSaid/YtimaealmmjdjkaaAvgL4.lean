/- AverageBetween, walked. -/
import Derived.Test.YtimaealmmjdjkaaAvgL3
import Derived.Deep.RegionHeldLaw
import Derived.Deep.AppendLies
import Derived.Deep.RegionHeld3
import Derived.Deep.DeepCutAuto
namespace Go.Proofs.Ytimaealmmjdjkaa
open Go.RowKit Go.Shelf
set_option linter.unusedSimpArgs false
set_option linter.unusedVariables false

theorem foldB_step {xs : List At} {k : Nat} {x : At} (h : xs[k]? = some x) : foldB (xs.take (k + 1)) = stepB (foldB (xs.take k)) x := by rw [take_at h, foldB_snoc]
theorem foldB_take {xs : List At} (h : (xs.any fun a => !a.good) = false) (k : Nat) : 0 ≤ (foldB (xs.take k)).1 ∧ (foldB (xs.take k)).1 ≤ 12 ∧ 0 ≤ (foldB (xs.take k)).2.1 ∧ (foldB (xs.take k)).2.1 ≤ 12 := by
  have hk : ((xs.take k).any fun a => !a.good) = false := by
    rw [List.any_eq_false] at h ⊢
    exact fun x hx => h x (List.mem_of_mem_take hx)
  have := foldB_all hk
  exact ⟨this.1, this.2.1, this.2.2.1, this.2.2.2.1⟩


theorem step_append_reads {α : Type} {P : Program} {w : World} {en : α → List Value} {sz : Nat} {ops : Array Oper} {o : Oper} {a : Act} {K : Act → World → Prop} {Q : Exit → Act → World → Prop} {E : Prop} (hgd : o.guard = none) (s x : Operand) (t : TypeId)
    (ho : o.op = .call { callee := .builtin .append, args := #[s, x], argTypes := #[t, t] }) (hen : ∀ y, (en y).length = sz) (h1 : ∀ y, ∀ u ∈ en y, u.oneCell' = true)
    (base : Nat) (e : TypeId) (i : TypeInfo) (z : Value) (bytes : Nat) (ht : P.underlying t = some (.slice e)) (hi : P.info? e = some i) (hz : i.zero = some z)
    (hsize : i.size = sz) (hby : i.bytes = bytes) (hzs : z.cells.size = sz) (hsz : 0 < sz)
    (v : Value) (ys : List α) (hs : a.eval s = v) (hown : Owns w base e sz en v ys) (B : Nat) (A : Option Addr) (c : Nat) (xs : List α) (hx : a.eval x = .slice A xs.length c) (hr : Reads w B A sz en xs) (hnil : A = none → c = 0)
    (h63 : ys.length + xs.length ≤ maxLen) (hbytes : (ys.length + xs.length) * bytes ≤ 140737488355328) (hbase : base ≤ w.heap.size)
    (h : ∀ v' w', Owns w' base e sz en v' (ys ++ xs) → w.grownBy w' v.ownBlock → (v'.ownBlock = v.ownBlock ∨ v'.ownBlock = some w.heap.size) → K (a.put o.dst v') w') :
    if Region.wanted o (yielded ops a.tmps) = true then Oper.wp P o a w K Q else E := by
  have hw : Region.wanted o (yielded ops a.tmps) = true := by simp [Region.wanted, hgd]
  rw [if_pos hw]
  obtain ⟨v', w', hrun, h2, h3, h4, h5⟩ := run_append_reads (P := P) w hen h1 base t o.type e i z bytes ht hi hz hsize hby hzs hsz v ys hown B A c xs hr hnil h63 hbytes hbase
  unfold Oper.wp execOp
  simp only [ho, resolve, invoke, builtin, Sem.run_bind, Sem.run_pure, Result.andThen_ok, List.map_toArray, List.map_cons, List.map_nil, hs, hx, hrun]
  exact h _ _ h2 h3 h4

/-- what lies in memory between two operations of the region: the row that is built, the block of the one element, the box -/
def St (y0 y1 y2 y3 y4 : Int) (w6 : World) (own : Option (Value × List At)) (yb nb : Option Nat) (W : World) : Prop :=
  Below w6.heap.size w6 W ∧ (∀ v ys, own = some (v, ys) → Owns W w6.heap.size 43 5 At.enc v ys) ∧
  (∀ b, yb = some b → w6.heap.size ≤ b ∧ W.heap[b]? = some (.cells #[.int .i64 y0, .int .i64 y1, .int .i64 y2, .int .i64 y3, .int .i64 y4] 43 (0, 0)) ∧ ∀ v ys, own = some (v, ys) → v.ownBlock ≠ some b) ∧
  (∀ b, nb = some b → w6.heap.size ≤ b ∧ W.heap[b]? = some (.cells #[.int .i64 0, .int .i64 0] 29 (0, 0)) ∧ (∀ v ys, own = some (v, ys) → v.ownBlock ≠ some b))
section
variable {y0 y1 y2 y3 y4 : Int} {w6 W W' : World} {own : Option (Value × List At)} {yb nb : Option Nat}
theorem St.first (w6 : World) : St y0 y1 y2 y3 y4 w6 none none none w6.drew := ⟨(Below.refl _ w6).drew, by simp, by simp, by simp⟩
theorem heap_lt' {W : World} {b : Nat} {o : Obj} (h : W.heap[b]? = some o) : b < W.heap.size := (Array.getElem?_eq_some_iff.1 h).1
theorem St.empty (h : St y0 y1 y2 y3 y4 w6 none yb nb W) : St y0 y1 y2 y3 y4 w6 (some (.slice (some ⟨W.heap.size, 0, none⟩) 0 0, [])) yb nb (W.alloc (.cells #[] 43)) := by
  obtain ⟨h1, _, h3, h4⟩ := h
  refine ⟨h1.alloc h1.size _, fun v ys e => ?_, fun b e => ?_, fun b e => ?_⟩
  · injection e with e; injection e with e1 e2; subst e1; subst e2
    exact Owns.lit (ys := ([] : List At)) At.enc_len rfl h1.size (by simp)
  · obtain ⟨a1, a2, _⟩ := h3 b e
    have hl := heap_lt' a2
    refine ⟨a1, (Below.heap_alloc _ _ _ (by omega)).trans a2, fun v ys e => ?_⟩
    injection e with e; injection e with e1 e2; subst e1
    simp [Value.ownBlock]; omega
  · obtain ⟨a1, a2, _⟩ := h4 b e
    have hl := heap_lt' a2
    refine ⟨a1, (Below.heap_alloc _ _ _ (by omega)).trans a2, fun v ys e => ?_⟩
    injection e with e; injection e with e1 e2; subst e1
    simp [Value.ownBlock]; omega
theorem St.lit (h : St y0 y1 y2 y3 y4 w6 own none nb W) : St y0 y1 y2 y3 y4 w6 own (some W.heap.size) nb (W.alloc (.cells #[.int .i64 y0, .int .i64 y1, .int .i64 y2, .int .i64 y3, .int .i64 y4] 43)) := by
  obtain ⟨h1, h2, _, h4⟩ := h
  refine ⟨h1.alloc h1.size _, fun v ys e => (h2 v ys e).alloc _, fun b e => ?_, fun b e => ?_⟩
  · injection e with e; subst e
    exact ⟨h1.size, heap_alloc_new W _, fun v ys e e2 => by have := (h2 v ys e).lt _ e2; omega⟩
  · obtain ⟨a1, a2, a3⟩ := h4 b e
    have hl := heap_lt' a2
    exact ⟨a1, (Below.heap_alloc _ _ _ (by omega)).trans a2, a3⟩
theorem St.box (h : St y0 y1 y2 y3 y4 w6 own yb none W) : St y0 y1 y2 y3 y4 w6 own yb (some W.heap.size) (W.alloc (.cells #[.int .i64 0, .int .i64 0] 29)) := by
  obtain ⟨h1, h2, h3, _⟩ := h
  refine ⟨h1.alloc h1.size _, fun v ys e => (h2 v ys e).alloc _, fun b e => ?_, fun b e => ?_⟩
  · obtain ⟨a1, a2, a3⟩ := h3 b e
    have hl := heap_lt' a2
    exact ⟨a1, (Below.heap_alloc _ _ _ (by omega)).trans a2, a3⟩
  · injection e with e; subst e
    exact ⟨h1.size, heap_alloc_new W _, fun v ys e e2 => by have := (h2 v ys e).lt _ e2; omega⟩
theorem St.app {v v' : Value} {ys zs : List At} (h : St y0 y1 y2 y3 y4 w6 (some (v, ys)) yb nb W) (k1 : Owns W' w6.heap.size 43 5 At.enc v' zs) (k2 : W.grownBy W' v.ownBlock) (k3 : v'.ownBlock = v.ownBlock ∨ v'.ownBlock = some W.heap.size) : St y0 y1 y2 y3 y4 w6 (some (v', zs)) yb nb W' := by
  obtain ⟨h1, h2, h3, h4⟩ := h
  have ho := h2 _ _ rfl
  have key : ∀ b, b < W.heap.size → v.ownBlock ≠ some b → v'.ownBlock ≠ some b := fun b hb hne e => by
    rcases k3 with k3 | k3
    · exact hne (k3.symm.trans e)
    · rw [k3] at e; injection e with e; omega
  refine ⟨h1.grown k2 h1.size (fun q e => ho.base_le q e), fun u us e => ?_, fun b e => ?_, fun b e => ?_⟩
  · injection e with e; injection e with e1 e2; subst e1; subst e2
    exact k1
  · obtain ⟨a1, a2, a3⟩ := h3 b e
    have hne := a3 _ _ rfl
    refine ⟨a1, (k2.block b (heap_lt' a2) (fun e => hne e.symm)).trans a2, fun u us e => ?_⟩
    injection e with e; injection e with e1 e2; subst e1
    exact key b (heap_lt' a2) hne
  · obtain ⟨a1, a2, a3⟩ := h4 b e
    have hne := a3 _ _ rfl
    refine ⟨a1, (k2.block b (heap_lt' a2) (fun e => hne e.symm)).trans a2, fun u us e => ?_⟩
    injection e with e; injection e with e1 e2; subst e1
    exact key b (heap_lt' a2) hne
theorem St.call (h : St y0 y1 y2 y3 y4 w6 own yb nb W) (hb : Below W.heap.size W W') : St y0 y1 y2 y3 y4 w6 none none nb W' :=
  ⟨h.1.trans (hb.mono h.1.size), by simp, by simp, fun b e => ⟨(h.2.2.2 b e).1, (hb.block b (heap_lt' (h.2.2.2 b e).2.1)).trans (h.2.2.2 b e).2.1, by simp⟩⟩
theorem St.row {v : Value} {ys : List At} (h : St y0 y1 y2 y3 y4 w6 (some (v, ys)) yb nb W) : Owns W w6.heap.size 43 5 At.enc v ys := h.2.1 _ _ rfl
theorem St.one {b : Nat} (h : St y0 y1 y2 y3 y4 w6 own (some b) nb W) : Reads W W.heap.size (some ⟨b, 0, none⟩) 5 At.enc [⟨y0, y1, y2, y3, y4⟩] := fun _ => by
  obtain ⟨a1, a2, _⟩ := h.2.2.1 b rfl
  refine ⟨b, 0, rfl, heap_lt' a2, fun i x j v hi hj => ?_⟩
  cases i with
  | succ i => simp at hi
  | zero =>
    simp at hi
    subst hi
    simp only [At.enc] at hj
    have hj5 : j < 5 := (List.getElem?_eq_some_iff.1 hj).1
    simp only [World.cell?, Nat.zero_mul, Nat.zero_add, a2]
    match j, hj5 with
    | 0, _ => simpa using hj
    | 1, _ => simpa using hj
    | 2, _ => simpa using hj
    | 3, _ => simpa using hj
    | 4, _ => simpa using hj
theorem St.boxed {b : Nat} (h : St y0 y1 y2 y3 y4 w6 own yb (some b) W) : w6.heap.size ≤ b ∧ b < W.heap.size ∧ W.cell? ⟨b, 0, none⟩ = some (.int .i64 0) ∧ W.cell? ⟨b, 1, none⟩ = some (.int .i64 0) ∧ W.frozen? ⟨b, 0, none⟩ = false ∧ W.frozen? ⟨b, 1, none⟩ = false := by
  obtain ⟨a1, a2, _⟩ := h.2.2.2 b rfl
  exact ⟨a1, heap_lt' a2, by simp [World.cell?, a2], by simp [World.cell?, a2], by simp [World.frozen?, a2], by simp [World.frozen?, a2]⟩
end
set_option maxRecDepth 100000 in
set_option maxHeartbeats 60000000 in
theorem AverageBetween_any {w : World} (xs : List At) (A : Option Addr) (c : Nat) (hx : Reads w w.heap.size A 5 At.enc xs) (hq : ∀ y ∈ xs, At.ok y) (hm : xs.length ≤ maxLen) (hnc : A = none → c = 0) (y : At) (hqy : y.ok) :
    Calls Try.prog 8 #[.slice A xs.length c, y.v] w fun e w' => e = .returned (.bool true) ∧ Below w.heap.size w w' := by
  unfold maxLen at hm
  obtain ⟨y0, y1, y2, y3, y4⟩ := y
  have G := Lib.hid (Below.refl w.heap.size w)
  have RL := Lib.hid hx
  clear hx hq hqy
  unfold At.v
  simp only
  go_enter Try.func8, Try.ntmps8
  go_wp2_with fail
  refine (sane_any _).mono ?_
  rintro e w1 ⟨rfl, hb_w1⟩
  have S_w1 : Below w.heap.size w w1 := ((Below.refl _ w).alloc (by (try simp) <;> omega) _).trans (hb_w1.mono (by (try simp) <;> omega))
  have G := Lib.hid (G.out.trans (S_w1.mono G.out.size))
  have RL := Lib.hid ((RL.out.below S_w1).more S_w1.size)
  have z_w1 := S_w1.size
  have Y0 := Lib.hid (CellAt.new (cs := #[.int .i64 y0, .int .i64 y1, .int .i64 y2, .int .i64 y3, .int .i64 y4]) (t := 43) w.heap.size rfl hb_w1 (by simp) 0 _ rfl)
  have Y1 := Lib.hid (CellAt.new (cs := #[.int .i64 y0, .int .i64 y1, .int .i64 y2, .int .i64 y3, .int .i64 y4]) (t := 43) w.heap.size rfl hb_w1 (by simp) 1 _ rfl)
  have Y2 := Lib.hid (CellAt.new (cs := #[.int .i64 y0, .int .i64 y1, .int .i64 y2, .int .i64 y3, .int .i64 y4]) (t := 43) w.heap.size rfl hb_w1 (by simp) 2 _ rfl)
  have Y3 := Lib.hid (CellAt.new (cs := #[.int .i64 y0, .int .i64 y1, .int .i64 y2, .int .i64 y3, .int .i64 y4]) (t := 43) w.heap.size rfl hb_w1 (by simp) 3 _ rfl)
  have Y4 := Lib.hid (CellAt.new (cs := #[.int .i64 y0, .int .i64 y1, .int .i64 y2, .int .i64 y3, .int .i64 y4]) (t := 43) w.heap.size rfl hb_w1 (by simp) 4 _ rfl)
  clear hb_w1
  by_cases hf : xs.length ≤ 40
  rotate_left
  · have hd : decide (xs.length ≤ 40) = false := by simp; omega
    go_wp2_with fail
    refine (few_any xs A c _).mono ?_
    rw [hd]
    rintro e w9 ⟨rfl, rfl⟩
    go_wp2_with fail
    go_ret
    exact ⟨rfl, G.out⟩
  have hd : decide (xs.length ≤ 40) = true := by simp; omega
  go_wp2_with fail
  refine (few_any xs A c _).mono ?_
  rw [hd]
  rintro e w9 ⟨rfl, rfl⟩
  clear hd
  have hmi := meanA_i64 xs
  obtain ⟨⟨⟨n, d⟩, E⟩, hme⟩ : ∃ r, r = meanA xs := ⟨_, rfl⟩
  rw [← hme] at hmi
  have HME := Lib.hid hme.symm
  have HMI := Lib.hid hmi
  clear hme hmi
  go_wp2_with fail
  refine (Mean_any xs A c _ RL.out (by omega)).mono ?_
  rw [HME.out]
  simp only [Ra.v]
  rintro e w2 ⟨rfl, hb_w2⟩
  have S_w2 : Below w1.heap.size w1 w2 := (Below.refl _ w1).trans (hb_w2.mono (by (try simp) <;> omega))
  have G := Lib.hid (G.out.trans (S_w2.mono G.out.size))
  have RL := Lib.hid ((RL.out.below S_w2).more S_w2.size)
  have Y0 := Lib.hid (Y0.out.step S_w2)
  have Y1 := Lib.hid (Y1.out.step S_w2)
  have Y2 := Lib.hid (Y2.out.step S_w2)
  have Y3 := Lib.hid (Y3.out.step S_w2)
  have Y4 := Lib.hid (Y4.out.step S_w2)
  have z_w2 := S_w2.size
  clear hb_w2
  rcases mean_error (xs := xs) (by omega) with ⟨he, hbd⟩ | ⟨he, hbd⟩
  rotate_left
  · rw [HME.out] at he
    simp only [Prod.mk.injEq, Ra.mk.injEq] at he
    obtain ⟨⟨rfl, rfl⟩, rfl⟩ := he
    go_wp2_with fail
    go_ret
    exact ⟨rfl, G.out.alloc G.out.size _⟩
  rw [HME.out] at he
  simp only at he
  subst he
  have HBD := Lib.hid hbd
  clear hbd
  go_wp2_with fail
  have S_w3 : Below w2.heap.size w2 (w2.alloc (.cells #[.int .i64 n, .int .i64 d] 29)) := (Below.refl _ _).alloc (Nat.le_refl _) _
  have M0 := Lib.hid (cell_here w2 #[.int .i64 n, .int .i64 d] 29 0 _ rfl)
  have M1 := Lib.hid (cell_here w2 #[.int .i64 n, .int .i64 d] 29 1 _ rfl)
  have G := Lib.hid (G.out.trans (S_w3.mono G.out.size))
  have RL := Lib.hid ((RL.out.below S_w3).more S_w3.size)
  have Y0 := Lib.hid (Y0.out.step S_w3)
  have Y1 := Lib.hid (Y1.out.step S_w3)
  have Y2 := Lib.hid (Y2.out.step S_w3)
  have Y3 := Lib.hid (Y3.out.step S_w3)
  have Y4 := Lib.hid (Y4.out.step S_w3)
  have z_w3 := S_w3.size
  clear z_w3 S_w3
  obtain ⟨w3, hw3⟩ : ∃ w3, w3 = w2.alloc (.cells #[.int .i64 n, .int .i64 d] 29) := ⟨_, rfl⟩
  rw [← hw3] at G RL Y0 Y1 Y2 Y3 Y4 M0 M1
  rw [← hw3]
  clear hw3
  go_loopw [7, 8, 9, 10] (fun le mo so i wr => ∃ k : Nat, k ≤ xs.length ∧ i = .int .i64 k ∧ le = .int .i64 (foldB (xs.take k)).1 ∧ mo = .int .i64 (foldB (xs.take k)).2.1 ∧ so = .bool (foldB (xs.take k)).2.2 ∧ Below w3.heap.size w3 wr) (fun _ _ _ i _ => xs.length - (intOf i).toNat)
  case atStart => exact ⟨0, Nat.zero_le _, rfl, rfl, rfl, rfl, Below.refl _ _⟩
  case round =>
    obtain ⟨k, hk, rfl, rfl, rfl, rfl, hB⟩ := hrel
    have hzr := hB.size
    have hft := foldB_take HBD.out k
    obtain ⟨⟨le, mo, so⟩, hfo⟩ : ∃ r, r = foldB (xs.take k) := ⟨_, rfl⟩
    rw [← hfo] at hft
    rw [← hfo]
    simp only at hft
    obtain ⟨f1, f2, f3, f4⟩ := hft
    have HFO := Lib.hid hfo
    clear hfo
    simp only
    by_cases hlt : k < xs.length
    · obtain ⟨bb, off, x, rfl, hbl, hxk, hc⟩ := ((RL.out.below hB)).at_ hlt
      have p2 := hc 2 _ rfl
      have p4 := hc 4 _ rfl
      have hy1 : bb < wr.heap.size := by omega
      obtain ⟨g1, g2, g3, g4, _, _⟩ := good_at (all_good HBD.out x (List.mem_of_getElem? hxk))
      have hst := foldB_step hxk
      rw [← HFO.out] at hst
      have HB := Lib.hid hB
      have hk0 : (0 : Int) ≤ (k : Int) := by omega
      clear hc hxk hB
      by_cases hcr : 0 < x.credits
      · have e1 : foldB (xs.take (k + 1)) = ((if x.grade < le then x.grade else le), (if mo < x.grade then x.grade else mo), true) := by
          rw [hst]
          simp only [stepB, hcr, if_true, Prod.mk.injEq, and_true]
          constructor <;> (split <;> omega)
        have E1 := Lib.hid e1
        have hd : decide (0 < x.credits) = true := by simpa using hcr
        clear hst e1
        go_wp2_with fail
        go_quiet (fail)
        go_wp2_with fail
        go_roundw
        case rel => exact ⟨k + 1, by omega, by go_num, by rw [E1.out], by rw [E1.out], by rw [E1.out], below_drewN HB.out _⟩
        case measure => simp [intOf]; omega
      · have e1 : foldB (xs.take (k + 1)) = (le, mo, so) := by rw [hst]; simp [stepB, hcr]
        have E1 := Lib.hid e1
        have hd : decide (0 < x.credits) = false := by simpa using hcr
        clear hst e1
        go_wp2_with fail
        go_roundw
        case rel => exact ⟨k + 1, by omega, by go_num, by rw [E1.out], by rw [E1.out], by rw [E1.out], HB.out⟩
        case measure => simp [intOf]; omega
    · obtain rfl : k = xs.length := by omega
      obtain ⟨w4, hw4⟩ : ∃ w4, w4 = wr := ⟨_, rfl⟩
      subst hw4
      have hall := foldB_all HBD.out
      have hfo := HFO.out
      rw [List.take_length] at hfo
      rw [← hfo] at hall
      simp only at hall
      obtain ⟨a1, a2, a3, a4, a5, a6, a7, a8⟩ := hall
      have S_w4 := hB
      clear hB hzr hfo HFO
      have G := Lib.hid (G.out.trans (S_w4.mono G.out.size))
      have RL := Lib.hid ((RL.out.below S_w4).more S_w4.size)
      have Y0 := Lib.hid (Y0.out.step S_w4)
      have Y1 := Lib.hid (Y1.out.step S_w4)
      have Y2 := Lib.hid (Y2.out.step S_w4)
      have Y3 := Lib.hid (Y3.out.step S_w4)
      have Y4 := Lib.hid (Y4.out.step S_w4)
      have M0 := Lib.hid (M0.out.step S_w4)
      have M1 := Lib.hid (M1.out.step S_w4)
      have z_w4 := S_w4.size
      clear S_w4 z_w4
      obtain ⟨m0, mz⟩ := M0.out
      obtain ⟨m1, _⟩ := M1.out
      cases so
      · have hz : sC xs = 0 := a7 rfl
        have hv := HME.out
        rw [meanA_zero HBD.out hz] at hv
        simp only [Prod.mk.injEq, Ra.mk.injEq, and_true] at hv
        obtain ⟨rfl, rfl⟩ := hv
        go_wp2_with fail
        go_ret
        exact ⟨rfl, G.out⟩
      have hcp : 0 < sC xs := a8 rfl
      obtain ⟨r, hr, hor, hre⟩ := mean_good HBD.out (by omega) hcp
      have hr2 := hr
      rw [HME.out] at hr2
      simp only [Prod.mk.injEq, and_true] at hr2
      subst hr2
      simp only at hre
      obtain ⟨c1, hc1, hc1le⟩ := low_law hor hre hcp a1 a2 a5
      obtain ⟨c2, hc2, hc2le⟩ := high_law hor hre hcp a3 a4 a6
      have HC1 := Lib.hid hc1
      have HC2 := Lib.hid hc2
      have HOR := Lib.hid hor
      have HRE := Lib.hid hre
      have A6 := Lib.hid a6
      have d1 : decide (0 < c1) = false := by simp; omega
      have d2 : decide (0 < c2) = false := by simp; omega
      clear hc1 hc2 hr hor hre a5 a6 a7 a8
      go_wp2_with fail
      refine (RaCompare_any ⟨le, 1⟩ ⟨n, d⟩ ⟨I64_of (by simp only; omega) (by simp only; omega), I64_of (by show (-9000000000000000000 : Int) ≤ 1; decide) (by show (1 : Int) ≤ 9000000000000000000; decide)⟩ HMI.out _).mono ?_
      rw [HC1.out]
      rintro e w5 ⟨rfl, hb_w5⟩
      have S_w5 : Below w4.heap.size w4 w5 := (Below.refl _ w4).trans (hb_w5.mono (by (try simp) <;> omega))
      have G := Lib.hid (G.out.trans (S_w5.mono G.out.size))
      have RL := Lib.hid ((RL.out.below S_w5).more S_w5.size)
      have Y0 := Lib.hid (Y0.out.step S_w5)
      have Y1 := Lib.hid (Y1.out.step S_w5)
      have Y2 := Lib.hid (Y2.out.step S_w5)
      have Y3 := Lib.hid (Y3.out.step S_w5)
      have Y4 := Lib.hid (Y4.out.step S_w5)
      have M0 := Lib.hid (M0.out.step S_w5)
      have M1 := Lib.hid (M1.out.step S_w5)
      have z_w5 := S_w5.size
      clear m0 m1 mz hb_w5
      obtain ⟨m0, mz⟩ := M0.out
      obtain ⟨m1, _⟩ := M1.out
      go_wp2_with fail
      refine (RaCompare_any ⟨n, d⟩ ⟨mo, 1⟩ HMI.out ⟨I64_of (by simp only; omega) (by simp only; omega), I64_of (by show (-9000000000000000000 : Int) ≤ 1; decide) (by show (1 : Int) ≤ 9000000000000000000; decide)⟩ _).mono ?_
      rw [HC2.out]
      rintro e w6 ⟨rfl, hb_w6⟩
      have S_w6 : Below w5.heap.size w5 w6 := (Below.refl _ w5).trans (hb_w6.mono (by (try simp) <;> omega))
      have G := Lib.hid (G.out.trans (S_w6.mono G.out.size))
      have RL := Lib.hid ((RL.out.below S_w6).more S_w6.size)
      have Y0 := Lib.hid (Y0.out.step S_w6)
      have Y1 := Lib.hid (Y1.out.step S_w6)
      have Y2 := Lib.hid (Y2.out.step S_w6)
      have Y3 := Lib.hid (Y3.out.step S_w6)
      have Y4 := Lib.hid (Y4.out.step S_w6)
      have M0 := Lib.hid (M0.out.step S_w6)
      have M1 := Lib.hid (M1.out.step S_w6)
      have z_w6 := S_w6.size
      clear m0 m1 mz hb_w6 S_w5 S_w6
      go_wp2_with fail
      go_upto_region 20 with fail
      have hz6 := G.out.size
      have e0 := Y0.out.1
      have e1 := Y1.out.1
      have e2 := Y2.out.1
      have e3 := Y3.out.1
      have e4 := Y4.out.1
      have zy := Y0.out.2
      obtain ⟨i0, hinf, hz0, hz1, hz2⟩ := info_parts Try.infoAt
      have HI := Lib.hid hinf
      obtain ⟨zs, hzs⟩ : ∃ zs, zs = xs ++ [(⟨y0, y1, y2, y3, y4⟩ : At)] := ⟨_, rfl⟩
      have hzl : (xs ++ [(⟨y0, y1, y2, y3, y4⟩ : At)]).length = xs.length + 1 := by simp
      obtain ⟨⟨⟨n2, d2⟩, E2⟩, hme2⟩ : ∃ r, r = meanA zs := ⟨_, rfl⟩
      have CV : Hid (∀ (W : World) (Av : Option Addr) (cv : Nat), Reads W W.heap.size Av 5 At.enc (xs ++ [⟨y0, y1, y2, y3, y4⟩]) → Calls Try.prog 14 #[.slice Av (xs.length + 1) cv] W fun e w' => e = .returned (.tuple #[.agg #[.int .i64 n2, .int .i64 d2], .int .i64 E2]) ∧ Below W.heap.size W w') := Lib.hid (fun W Av cv hr => by
        have h := Mean_any (xs ++ [⟨y0, y1, y2, y3, y4⟩]) Av cv W hr (by rw [hzl]; omega)
        rw [hzl, ← hzs, ← hme2] at h
        exact h)
      have HZ := Lib.hid (And.intro hzl (And.intro hzs hme2))
      clear hinf hzs hzl hme2 hz6
      go_cut [15, 16] (fun p h wx => ∃ nb, p = .pointer (some ⟨nb, 0, none⟩) ∧ h = .int .i64 E2 ∧ CellAt wx nb 0 (.int .i64 n2) ∧ CellAt wx nb 1 (.int .i64 d2) ∧ Below w6.heap.size w6 wx)
      case first =>
        have s0 := St.first (y0 := y0) (y1 := y1) (y2 := y2) (y3 := y3) (y4 := y4) w6
        refine wp_region_held_drew (S := (fun w' => w'.cell? ⟨w.heap.size, 0, none⟩ = some (.int .i64 y0) ∧ w'.cell? ⟨w.heap.size, 1, none⟩ = some (.int .i64 y1) ∧ w'.cell? ⟨w.heap.size, 2, none⟩ = some (.int .i64 y2) ∧ w'.cell? ⟨w.heap.size, 3, none⟩ = some (.int .i64 y3) ∧ w'.cell? ⟨w.heap.size, 4, none⟩ = some (.int .i64 y4))) (by kernel_rfl) ⟨(s0.1.cell (p := ⟨w.heap.size, 0, none⟩) zy).trans e0, (s0.1.cell (p := ⟨w.heap.size, 1, none⟩) zy).trans e1, (s0.1.cell (p := ⟨w.heap.size, 2, none⟩) zy).trans e2, (s0.1.cell (p := ⟨w.heap.size, 3, none⟩) zy).trans e3, (s0.1.cell (p := ⟨w.heap.size, 4, none⟩) zy).trans e4⟩ (fun hHeld => ?_)
        refine wpAnyH_take (i := 1) (v := ?_) rfl (by kernel_rfl) (by kernel_rfl) (by kernel_rfl) (fun _ _ _ h => h) (Or.inl ⟨by rfl, ?_⟩) (by assumption) ?_
        rotate_left
        · intro w hSw
          (try dsimp only at hSw)
          go_simp
          try with_reducible rfl
        simp only [Act.put, List.setIfInBounds_toArray, List.set_cons_zero, List.set_cons_succ]
        refine wpAnyH_take (i := 3) (v := ?_) rfl (by kernel_rfl) (by kernel_rfl) (by kernel_rfl) (fun _ _ _ h => h) (Or.inl ⟨by rfl, ?_⟩) (by assumption) ?_
        rotate_left
        · intro w hSw
          (try dsimp only at hSw)
          go_simp
          try with_reducible rfl
        simp only [Act.put, List.setIfInBounds_toArray, List.set_cons_zero, List.set_cons_succ]
        obtain ⟨W0, hW0⟩ : ∃ X, X = w6.drew := ⟨_, rfl⟩
        rw [← hW0] at s0 ⊢
        clear hW0
        refine wpAnyH_ready (rs := [0, 4, 10]) (by kernel_rfl) (by simp) ?_
        refine AllReadyH.cons rfl (fun K hK => ?_) ?_
        · go_simp
          have s1 := s0.empty
          refine hK.out _ _ ⟨(s1.1.cell (p := ⟨w.heap.size, 0, none⟩) zy).trans e0, (s1.1.cell (p := ⟨w.heap.size, 1, none⟩) zy).trans e1, (s1.1.cell (p := ⟨w.heap.size, 2, none⟩) zy).trans e2, (s1.1.cell (p := ⟨w.heap.size, 3, none⟩) zy).trans e3, (s1.1.cell (p := ⟨w.heap.size, 4, none⟩) zy).trans e4⟩ (fun hHeld => ?_)
          clear hK
          obtain ⟨W1, hwW1⟩ : ∃ X, X = W0.alloc (.cells #[] 43) := ⟨_, rfl⟩
          rw [← hwW1] at s1 ⊢
          clear hwW1
          obtain ⟨eb, hneb⟩ : ∃ q, q = W0.heap.size := ⟨_, rfl⟩
          rw [← hneb] at s1 ⊢
          clear hneb
          refine wpAnyH_ready (rs := [2, 4, 10]) (by kernel_rfl) (by simp) ?_
          refine AllReadyH.cons rfl (fun K hK => ?_) ?_
          · refine step_append_reads (en := At.enc) (sz := 5) (by rfl) _ _ _ (by rfl) At.enc_len At.enc_one w6.heap.size 43 i0 _ 40 Try.underlying22 HI.out hz0 hz1 hz2 rfl (by decide) (.slice (some ⟨eb, 0, none⟩) 0 0) [] (by rfl) s1.row _ A c xs (by rfl) (RL.out.below s1.1) hnc (by simp [maxLen]; omega) (by simp; omega) s1.1.size ?_
            intro v2 W2 k1 k2 k3
            rw [List.nil_append] at k1
            have s2 := s1.app k1 k2 k3
            obtain ⟨A1, c1x, rfl, _, _⟩ := k1.shape
            clear k1 k2 k3
            refine hK.out _ _ ⟨(s2.1.cell (p := ⟨w.heap.size, 0, none⟩) zy).trans e0, (s2.1.cell (p := ⟨w.heap.size, 1, none⟩) zy).trans e1, (s2.1.cell (p := ⟨w.heap.size, 2, none⟩) zy).trans e2, (s2.1.cell (p := ⟨w.heap.size, 3, none⟩) zy).trans e3, (s2.1.cell (p := ⟨w.heap.size, 4, none⟩) zy).trans e4⟩ (fun hHeld => ?_)
            clear hK
            refine wpAnyH_ready (rs := [4, 10]) (by kernel_rfl) (by simp) ?_
            refine AllReadyH.cons rfl (fun K hK => ?_) ?_
            · go_simp
              have s3 := s2.lit
              refine hK.out _ _ ⟨(s3.1.cell (p := ⟨w.heap.size, 0, none⟩) zy).trans e0, (s3.1.cell (p := ⟨w.heap.size, 1, none⟩) zy).trans e1, (s3.1.cell (p := ⟨w.heap.size, 2, none⟩) zy).trans e2, (s3.1.cell (p := ⟨w.heap.size, 3, none⟩) zy).trans e3, (s3.1.cell (p := ⟨w.heap.size, 4, none⟩) zy).trans e4⟩ (fun hHeld => ?_)
              clear hK
              obtain ⟨W3, hwW3⟩ : ∃ X, X = W2.alloc (.cells #[.int .i64 y0, .int .i64 y1, .int .i64 y2, .int .i64 y3, .int .i64 y4] 43) := ⟨_, rfl⟩
              rw [← hwW3] at s3 ⊢
              clear hwW3
              obtain ⟨yb, hnyb⟩ : ∃ q, q = W2.heap.size := ⟨_, rfl⟩
              rw [← hnyb] at s3 ⊢
              clear hnyb
              refine wpAnyH_ready (rs := [5, 10]) (by kernel_rfl) (by simp) ?_
              refine AllReadyH.cons rfl (fun K hK => ?_) ?_
              · refine step_append_reads (en := At.enc) (sz := 5) (by rfl) _ _ _ (by rfl) At.enc_len At.enc_one w6.heap.size 43 i0 _ 40 Try.underlying22 HI.out hz0 hz1 hz2 rfl (by decide) (.slice A1 xs.length c1x) xs (by rfl) s3.row _ (some ⟨yb, 0, none⟩) 1 [⟨y0, y1, y2, y3, y4⟩] (by rfl) s3.one (fun h => by cases h) (by simp [maxLen]; omega) (by simp; omega) s3.1.size ?_
                intro v4 W4 k1 k2 k3
                have s4 := s3.app k1 k2 k3
                obtain ⟨A2, c2x, rfl, _, _⟩ := k1.shape
                rw [HZ.out.1] at s4 ⊢
                clear k1 k2 k3
                refine hK.out _ _ ⟨(s4.1.cell (p := ⟨w.heap.size, 0, none⟩) zy).trans e0, (s4.1.cell (p := ⟨w.heap.size, 1, none⟩) zy).trans e1, (s4.1.cell (p := ⟨w.heap.size, 2, none⟩) zy).trans e2, (s4.1.cell (p := ⟨w.heap.size, 3, none⟩) zy).trans e3, (s4.1.cell (p := ⟨w.heap.size, 4, none⟩) zy).trans e4⟩ (fun hHeld => ?_)
                clear hK
                refine wpAnyH_ready (rs := [6, 10]) (by kernel_rfl) (by simp) ?_
                refine AllReadyH.cons rfl (fun K hK => ?_) ?_
                · go_simp
                  refine (CV.out _ _ _ (s4.row.reads At.enc_len)).mono ?_
                  rintro e W5 ⟨rfl, hb5⟩
                  have s5 := s4.call hb5
                  clear hb5
                  refine hK.out _ _ ⟨(s5.1.cell (p := ⟨w.heap.size, 0, none⟩) zy).trans e0, (s5.1.cell (p := ⟨w.heap.size, 1, none⟩) zy).trans e1, (s5.1.cell (p := ⟨w.heap.size, 2, none⟩) zy).trans e2, (s5.1.cell (p := ⟨w.heap.size, 3, none⟩) zy).trans e3, (s5.1.cell (p := ⟨w.heap.size, 4, none⟩) zy).trans e4⟩ (fun hHeld => ?_)
                  clear hK
                  refine wpAnyH_take (i := 7) (v := ?_) rfl (by kernel_rfl) (by kernel_rfl) (by kernel_rfl) (fun _ _ _ h => h) (Or.inl ⟨by rfl, ?_⟩) (by assumption) ?_
                  rotate_left
                  · intro w hSw
                    (try dsimp only at hSw)
                    go_simp
                    try with_reducible rfl
                  simp only [Act.put, List.setIfInBounds_toArray, List.set_cons_zero, List.set_cons_succ]
                  refine wpAnyH_take (i := 8) (v := ?_) rfl (by kernel_rfl) (by kernel_rfl) (by kernel_rfl) (fun _ _ _ h => h) (Or.inl ⟨by rfl, ?_⟩) (by assumption) ?_
                  rotate_left
                  · intro w hSw
                    (try dsimp only at hSw)
                    go_simp
                    try with_reducible rfl
                  simp only [Act.put, List.setIfInBounds_toArray, List.set_cons_zero, List.set_cons_succ]
                  refine wpAnyH_take (i := 9) (v := ?_) rfl (by kernel_rfl) (by kernel_rfl) (by kernel_rfl) (fun _ _ _ h => h) (Or.inl ⟨by rfl, ?_⟩) (by assumption) ?_
                  rotate_left
                  · intro w hSw
                    (try dsimp only at hSw)
                    go_simp
                    try with_reducible rfl
                  simp only [Act.put, List.setIfInBounds_toArray, List.set_cons_zero, List.set_cons_succ]
                  refine wpAnyH_ready (rs := [10]) (by kernel_rfl) (by simp) ?_
                  refine AllReadyH.cons rfl (fun K hK => ?_) ?_
                  · go_simp
                    have s6 := s5.box
                    refine hK.out _ _ ⟨(s6.1.cell (p := ⟨w.heap.size, 0, none⟩) zy).trans e0, (s6.1.cell (p := ⟨w.heap.size, 1, none⟩) zy).trans e1, (s6.1.cell (p := ⟨w.heap.size, 2, none⟩) zy).trans e2, (s6.1.cell (p := ⟨w.heap.size, 3, none⟩) zy).trans e3, (s6.1.cell (p := ⟨w.heap.size, 4, none⟩) zy).trans e4⟩ (fun hHeld => ?_)
                    clear hK
                    obtain ⟨W6, hwW6⟩ : ∃ X, X = W5.alloc (.cells #[.int .i64 0, .int .i64 0] 29) := ⟨_, rfl⟩
                    rw [← hwW6] at s6 ⊢
                    clear hwW6
                    obtain ⟨nb, hnnb⟩ : ∃ q, q = W5.heap.size := ⟨_, rfl⟩
                    rw [← hnnb] at s6 ⊢
                    clear hnnb
                    refine wpAnyH_ready (rs := [11]) (by kernel_rfl) (by simp) ?_
                    refine AllReadyH.cons rfl (fun K hK => ?_) ?_
                    · obtain ⟨b1, b2, b3, b4, b5, b6⟩ := s6.boxed
                      go_simp
                      have hBs : Below w6.heap.size w6 ((W6.setCell ⟨nb, 0, none⟩ (.int .i64 n2)).setCell ⟨nb, 1, none⟩ (.int .i64 d2)) := (s6.1.setCell (p := ⟨nb, 0, none⟩) b1 _).setCell (p := ⟨nb, 1, none⟩) b1 _
                      have hcs := setB (setA ⟨b3, b4⟩ (.int .i64 n2)) (.int .i64 d2)
                      have hsz : nb < ((W6.setCell ⟨nb, 0, none⟩ (.int .i64 n2)).setCell ⟨nb, 1, none⟩ (.int .i64 d2)).heap.size := by rw [World.size_setCell, World.size_setCell]; exact b2
                      have HCS := Lib.hid (And.intro hcs (And.intro hsz hBs))
                      clear hcs hsz
                      refine hK.out _ _ ⟨(hBs.cell (p := ⟨w.heap.size, 0, none⟩) zy).trans e0, (hBs.cell (p := ⟨w.heap.size, 1, none⟩) zy).trans e1, (hBs.cell (p := ⟨w.heap.size, 2, none⟩) zy).trans e2, (hBs.cell (p := ⟨w.heap.size, 3, none⟩) zy).trans e3, (hBs.cell (p := ⟨w.heap.size, 4, none⟩) zy).trans e4⟩ (fun hHeld => ?_)
                      clear hK
                      refine wpAnyH_ready (rs := [12]) (by kernel_rfl) (by simp) ?_
                      refine AllReadyH.cons rfl (fun K hK => ?_) ?_
                      · go_simp
                        refine hK.out _ _ (by assumption) (fun hHeld => ?_)
                        clear hK
                        refine wpAnyH_done (by kernel_rfl) ?_ _
                        go_wp2_with fail
                        go_meet
                        exact ⟨nb, rfl, rfl, ⟨HCS.out.1.1, HCS.out.2.1⟩, ⟨HCS.out.1.2, HCS.out.2.1⟩, HCS.out.2.2⟩
                      exact AllReadyH.nil
                    exact AllReadyH.nil
                  exact AllReadyH.nil
                refine AllReadyH.cons rfl (fun K hK => ?_) ?_
                · go_simp
                  have s5 := s4.box
                  refine hK.out _ _ ⟨(s5.1.cell (p := ⟨w.heap.size, 0, none⟩) zy).trans e0, (s5.1.cell (p := ⟨w.heap.size, 1, none⟩) zy).trans e1, (s5.1.cell (p := ⟨w.heap.size, 2, none⟩) zy).trans e2, (s5.1.cell (p := ⟨w.heap.size, 3, none⟩) zy).trans e3, (s5.1.cell (p := ⟨w.heap.size, 4, none⟩) zy).trans e4⟩ (fun hHeld => ?_)
                  clear hK
                  obtain ⟨W5, hwW5⟩ : ∃ X, X = W4.alloc (.cells #[.int .i64 0, .int .i64 0] 29) := ⟨_, rfl⟩
                  rw [← hwW5] at s5 ⊢
                  clear hwW5
                  obtain ⟨nb, hnnb⟩ : ∃ q, q = W4.heap.size := ⟨_, rfl⟩
                  rw [← hnnb] at s5 ⊢
                  clear hnnb
                  refine wpAnyH_ready (rs := [6]) (by kernel_rfl) (by simp) ?_
                  refine AllReadyH.cons rfl (fun K hK => ?_) ?_
                  · go_simp
                    refine (CV.out _ _ _ (s5.row.reads At.enc_len)).mono ?_
                    rintro e W6 ⟨rfl, hb6⟩
                    have s6 := s5.call hb6
                    clear hb6
                    refine hK.out _ _ ⟨(s6.1.cell (p := ⟨w.heap.size, 0, none⟩) zy).trans e0, (s6.1.cell (p := ⟨w.heap.size, 1, none⟩) zy).trans e1, (s6.1.cell (p := ⟨w.heap.size, 2, none⟩) zy).trans e2, (s6.1.cell (p := ⟨w.heap.size, 3, none⟩) zy).trans e3, (s6.1.cell (p := ⟨w.heap.size, 4, none⟩) zy).trans e4⟩ (fun hHeld => ?_)
                    clear hK
                    refine wpAnyH_take (i := 7) (v := ?_) rfl (by kernel_rfl) (by kernel_rfl) (by kernel_rfl) (fun _ _ _ h => h) (Or.inl ⟨by rfl, ?_⟩) (by assumption) ?_
                    rotate_left
                    · intro w hSw
                      (try dsimp only at hSw)
                      go_simp
                      try with_reducible rfl
                    simp only [Act.put, List.setIfInBounds_toArray, List.set_cons_zero, List.set_cons_succ]
                    refine wpAnyH_take (i := 8) (v := ?_) rfl (by kernel_rfl) (by kernel_rfl) (by kernel_rfl) (fun _ _ _ h => h) (Or.inl ⟨by rfl, ?_⟩) (by assumption) ?_
                    rotate_left
                    · intro w hSw
                      (try dsimp only at hSw)
                      go_simp
                      try with_reducible rfl
                    simp only [Act.put, List.setIfInBounds_toArray, List.set_cons_zero, List.set_cons_succ]
                    refine wpAnyH_take (i := 9) (v := ?_) rfl (by kernel_rfl) (by kernel_rfl) (by kernel_rfl) (fun _ _ _ h => h) (Or.inl ⟨by rfl, ?_⟩) (by assumption) ?_
                    rotate_left
                    · intro w hSw
                      (try dsimp only at hSw)
                      go_simp
                      try with_reducible rfl
                    simp only [Act.put, List.setIfInBounds_toArray, List.set_cons_zero, List.set_cons_succ]
                    refine wpAnyH_ready (rs := [11]) (by kernel_rfl) (by simp) ?_
                    refine AllReadyH.cons rfl (fun K hK => ?_) ?_
                    · obtain ⟨b1, b2, b3, b4, b5, b6⟩ := s6.boxed
                      go_simp
                      have hBs : Below w6.heap.size w6 ((W6.setCell ⟨nb, 0, none⟩ (.int .i64 n2)).setCell ⟨nb, 1, none⟩ (.int .i64 d2)) := (s6.1.setCell (p := ⟨nb, 0, none⟩) b1 _).setCell (p := ⟨nb, 1, none⟩) b1 _
                      have hcs := setB (setA ⟨b3, b4⟩ (.int .i64 n2)) (.int .i64 d2)
                      have hsz : nb < ((W6.setCell ⟨nb, 0, none⟩ (.int .i64 n2)).setCell ⟨nb, 1, none⟩ (.int .i64 d2)).heap.size := by rw [World.size_setCell, World.size_setCell]; exact b2
                      have HCS := Lib.hid (And.intro hcs (And.intro hsz hBs))
                      clear hcs hsz
                      refine hK.out _ _ ⟨(hBs.cell (p := ⟨w.heap.size, 0, none⟩) zy).trans e0, (hBs.cell (p := ⟨w.heap.size, 1, none⟩) zy).trans e1, (hBs.cell (p := ⟨w.heap.size, 2, none⟩) zy).trans e2, (hBs.cell (p := ⟨w.heap.size, 3, none⟩) zy).trans e3, (hBs.cell (p := ⟨w.heap.size, 4, none⟩) zy).trans e4⟩ (fun hHeld => ?_)
                      clear hK
                      refine wpAnyH_ready (rs := [12]) (by kernel_rfl) (by simp) ?_
                      refine AllReadyH.cons rfl (fun K hK => ?_) ?_
                      · go_simp
                        refine hK.out _ _ (by assumption) (fun hHeld => ?_)
                        clear hK
                        refine wpAnyH_done (by kernel_rfl) ?_ _
                        go_wp2_with fail
                        go_meet
                        exact ⟨nb, rfl, rfl, ⟨HCS.out.1.1, HCS.out.2.1⟩, ⟨HCS.out.1.2, HCS.out.2.1⟩, HCS.out.2.2⟩
                      exact AllReadyH.nil
                    exact AllReadyH.nil
                  exact AllReadyH.nil
                exact AllReadyH.nil
              refine AllReadyH.cons rfl (fun K hK => ?_) ?_
              · go_simp
                have s4 := s3.box
                refine hK.out _ _ ⟨(s4.1.cell (p := ⟨w.heap.size, 0, none⟩) zy).trans e0, (s4.1.cell (p := ⟨w.heap.size, 1, none⟩) zy).trans e1, (s4.1.cell (p := ⟨w.heap.size, 2, none⟩) zy).trans e2, (s4.1.cell (p := ⟨w.heap.size, 3, none⟩) zy).trans e3, (s4.1.cell (p := ⟨w.heap.size, 4, none⟩) zy).trans e4⟩ (fun hHeld => ?_)
                clear hK
                obtain ⟨W4, hwW4⟩ : ∃ X, X = W3.alloc (.cells #[.int .i64 0, .int .i64 0] 29) := ⟨_, rfl⟩
                rw [← hwW4] at s4 ⊢
                clear hwW4
                obtain ⟨nb, hnnb⟩ : ∃ q, q = W3.heap.size := ⟨_, rfl⟩
                rw [← hnnb] at s4 ⊢
                clear hnnb
                refine wpAnyH_ready (rs := [5]) (by kernel_rfl) (by simp) ?_
                refine AllReadyH.cons rfl (fun K hK => ?_) ?_
                · refine step_append_reads (en := At.enc) (sz := 5) (by rfl) _ _ _ (by rfl) At.enc_len At.enc_one w6.heap.size 43 i0 _ 40 Try.underlying22 HI.out hz0 hz1 hz2 rfl (by decide) (.slice A1 xs.length c1x) xs (by rfl) s4.row _ (some ⟨yb, 0, none⟩) 1 [⟨y0, y1, y2, y3, y4⟩] (by rfl) s4.one (fun h => by cases h) (by simp [maxLen]; omega) (by simp; omega) s4.1.size ?_
                  intro v5 W5 k1 k2 k3
                  have s5 := s4.app k1 k2 k3
                  obtain ⟨A2, c2x, rfl, _, _⟩ := k1.shape
                  rw [HZ.out.1] at s5 ⊢
                  clear k1 k2 k3
                  refine hK.out _ _ ⟨(s5.1.cell (p := ⟨w.heap.size, 0, none⟩) zy).trans e0, (s5.1.cell (p := ⟨w.heap.size, 1, none⟩) zy).trans e1, (s5.1.cell (p := ⟨w.heap.size, 2, none⟩) zy).trans e2, (s5.1.cell (p := ⟨w.heap.size, 3, none⟩) zy).trans e3, (s5.1.cell (p := ⟨w.heap.size, 4, none⟩) zy).trans e4⟩ (fun hHeld => ?_)
                  clear hK
                  refine wpAnyH_ready (rs := [6]) (by kernel_rfl) (by simp) ?_
                  refine AllReadyH.cons rfl (fun K hK => ?_) ?_
                  · go_simp
                    refine (CV.out _ _ _ (s5.row.reads At.enc_len)).mono ?_
                    rintro e W6 ⟨rfl, hb6⟩
                    have s6 := s5.call hb6
                    clear hb6
                    refine hK.out _ _ ⟨(s6.1.cell (p := ⟨w.heap.size, 0, none⟩) zy).trans e0, (s6.1.cell (p := ⟨w.heap.size, 1, none⟩) zy).trans e1, (s6.1.cell (p := ⟨w.heap.size, 2, none⟩) zy).trans e2, (s6.1.cell (p := ⟨w.heap.size, 3, none⟩) zy).trans e3, (s6.1.cell (p := ⟨w.heap.size, 4, none⟩) zy).trans e4⟩ (fun hHeld => ?_)
                    clear hK
                    refine wpAnyH_take (i := 7) (v := ?_) rfl (by kernel_rfl) (by kernel_rfl) (by kernel_rfl) (fun _ _ _ h => h) (Or.inl ⟨by rfl, ?_⟩) (by assumption) ?_
                    rotate_left
                    · intro w hSw
                      (try dsimp only at hSw)
                      go_simp
                      try with_reducible rfl
                    simp only [Act.put, List.setIfInBounds_toArray, List.set_cons_zero, List.set_cons_succ]
                    refine wpAnyH_take (i := 8) (v := ?_) rfl (by kernel_rfl) (by kernel_rfl) (by kernel_rfl) (fun _ _ _ h => h) (Or.inl ⟨by rfl, ?_⟩) (by assumption) ?_
                    rotate_left
                    · intro w hSw
                      (try dsimp only at hSw)
                      go_simp
                      try with_reducible rfl
                    simp only [Act.put, List.setIfInBounds_toArray, List.set_cons_zero, List.set_cons_succ]
                    refine wpAnyH_take (i := 9) (v := ?_) rfl (by kernel_rfl) (by kernel_rfl) (by kernel_rfl) (fun _ _ _ h => h) (Or.inl ⟨by rfl, ?_⟩) (by assumption) ?_
                    rotate_left
                    · intro w hSw
                      (try dsimp only at hSw)
                      go_simp
                      try with_reducible rfl
                    simp only [Act.put, List.setIfInBounds_toArray, List.set_cons_zero, List.set_cons_succ]
                    refine wpAnyH_ready (rs := [11]) (by kernel_rfl) (by simp) ?_
                    refine AllReadyH.cons rfl (fun K hK => ?_) ?_
                    · obtain ⟨b1, b2, b3, b4, b5, b6⟩ := s6.boxed
                      go_simp
                      have hBs : Below w6.heap.size w6 ((W6.setCell ⟨nb, 0, none⟩ (.int .i64 n2)).setCell ⟨nb, 1, none⟩ (.int .i64 d2)) := (s6.1.setCell (p := ⟨nb, 0, none⟩) b1 _).setCell (p := ⟨nb, 1, none⟩) b1 _
                      have hcs := setB (setA ⟨b3, b4⟩ (.int .i64 n2)) (.int .i64 d2)
                      have hsz : nb < ((W6.setCell ⟨nb, 0, none⟩ (.int .i64 n2)).setCell ⟨nb, 1, none⟩ (.int .i64 d2)).heap.size := by rw [World.size_setCell, World.size_setCell]; exact b2
                      have HCS := Lib.hid (And.intro hcs (And.intro hsz hBs))
                      clear hcs hsz
                      refine hK.out _ _ ⟨(hBs.cell (p := ⟨w.heap.size, 0, none⟩) zy).trans e0, (hBs.cell (p := ⟨w.heap.size, 1, none⟩) zy).trans e1, (hBs.cell (p := ⟨w.heap.size, 2, none⟩) zy).trans e2, (hBs.cell (p := ⟨w.heap.size, 3, none⟩) zy).trans e3, (hBs.cell (p := ⟨w.heap.size, 4, none⟩) zy).trans e4⟩ (fun hHeld => ?_)
                      clear hK
                      refine wpAnyH_ready (rs := [12]) (by kernel_rfl) (by simp) ?_
                      refine AllReadyH.cons rfl (fun K hK => ?_) ?_
                      · go_simp
                        refine hK.out _ _ (by assumption) (fun hHeld => ?_)
                        clear hK
                        refine wpAnyH_done (by kernel_rfl) ?_ _
                        go_wp2_with fail
                        go_meet
                        exact ⟨nb, rfl, rfl, ⟨HCS.out.1.1, HCS.out.2.1⟩, ⟨HCS.out.1.2, HCS.out.2.1⟩, HCS.out.2.2⟩
                      exact AllReadyH.nil
                    exact AllReadyH.nil
                  exact AllReadyH.nil
                exact AllReadyH.nil
              exact AllReadyH.nil
            refine AllReadyH.cons rfl (fun K hK => ?_) ?_
            · go_simp
              have s3 := s2.box
              refine hK.out _ _ ⟨(s3.1.cell (p := ⟨w.heap.size, 0, none⟩) zy).trans e0, (s3.1.cell (p := ⟨w.heap.size, 1, none⟩) zy).trans e1, (s3.1.cell (p := ⟨w.heap.size, 2, none⟩) zy).trans e2, (s3.1.cell (p := ⟨w.heap.size, 3, none⟩) zy).trans e3, (s3.1.cell (p := ⟨w.heap.size, 4, none⟩) zy).trans e4⟩ (fun hHeld => ?_)
              clear hK
              obtain ⟨W3, hwW3⟩ : ∃ X, X = W2.alloc (.cells #[.int .i64 0, .int .i64 0] 29) := ⟨_, rfl⟩
              rw [← hwW3] at s3 ⊢
              clear hwW3
              obtain ⟨nb, hnnb⟩ : ∃ q, q = W2.heap.size := ⟨_, rfl⟩
              rw [← hnnb] at s3 ⊢
              clear hnnb
              refine wpAnyH_ready (rs := [4]) (by kernel_rfl) (by simp) ?_
              refine AllReadyH.cons rfl (fun K hK => ?_) ?_
              · go_simp
                have s4 := s3.lit
                refine hK.out _ _ ⟨(s4.1.cell (p := ⟨w.heap.size, 0, none⟩) zy).trans e0, (s4.1.cell (p := ⟨w.heap.size, 1, none⟩) zy).trans e1, (s4.1.cell (p := ⟨w.heap.size, 2, none⟩) zy).trans e2, (s4.1.cell (p := ⟨w.heap.size, 3, none⟩) zy).trans e3, (s4.1.cell (p := ⟨w.heap.size, 4, none⟩) zy).trans e4⟩ (fun hHeld => ?_)
                clear hK
                obtain ⟨W4, hwW4⟩ : ∃ X, X = W3.alloc (.cells #[.int .i64 y0, .int .i64 y1, .int .i64 y2, .int .i64 y3, .int .i64 y4] 43) := ⟨_, rfl⟩
                rw [← hwW4] at s4 ⊢
                clear hwW4
                obtain ⟨yb, hnyb⟩ : ∃ q, q = W3.heap.size := ⟨_, rfl⟩
                rw [← hnyb] at s4 ⊢
                clear hnyb
                refine wpAnyH_ready (rs := [5]) (by kernel_rfl) (by simp) ?_
                refine AllReadyH.cons rfl (fun K hK => ?_) ?_
                · refine step_append_reads (en := At.enc) (sz := 5) (by rfl) _ _ _ (by rfl) At.enc_len At.enc_one w6.heap.size 43 i0 _ 40 Try.underlying22 HI.out hz0 hz1 hz2 rfl (by decide) (.slice A1 xs.length c1x) xs (by rfl) s4.row _ (some ⟨yb, 0, none⟩) 1 [⟨y0, y1, y2, y3, y4⟩] (by rfl) s4.one (fun h => by cases h) (by simp [maxLen]; omega) (by simp; omega) s4.1.size ?_
                  intro v5 W5 k1 k2 k3
                  have s5 := s4.app k1 k2 k3
                  obtain ⟨A2, c2x, rfl, _, _⟩ := k1.shape
                  rw [HZ.out.1] at s5 ⊢
                  clear k1 k2 k3
                  refine hK.out _ _ ⟨(s5.1.cell (p := ⟨w.heap.size, 0, none⟩) zy).trans e0, (s5.1.cell (p := ⟨w.heap.size, 1, none⟩) zy).trans e1, (s5.1.cell (p := ⟨w.heap.size, 2, none⟩) zy).trans e2, (s5.1.cell (p := ⟨w.heap.size, 3, none⟩) zy).trans e3, (s5.1.cell (p := ⟨w.heap.size, 4, none⟩) zy).trans e4⟩ (fun hHeld => ?_)
                  clear hK
                  refine wpAnyH_ready (rs := [6]) (by kernel_rfl) (by simp) ?_
                  refine AllReadyH.cons rfl (fun K hK => ?_) ?_
                  · go_simp
                    refine (CV.out _ _ _ (s5.row.reads At.enc_len)).mono ?_
                    rintro e W6 ⟨rfl, hb6⟩
                    have s6 := s5.call hb6
                    clear hb6
                    refine hK.out _ _ ⟨(s6.1.cell (p := ⟨w.heap.size, 0, none⟩) zy).trans e0, (s6.1.cell (p := ⟨w.heap.size, 1, none⟩) zy).trans e1, (s6.1.cell (p := ⟨w.heap.size, 2, none⟩) zy).trans e2, (s6.1.cell (p := ⟨w.heap.size, 3, none⟩) zy).trans e3, (s6.1.cell (p := ⟨w.heap.size, 4, none⟩) zy).trans e4⟩ (fun hHeld => ?_)
                    clear hK
                    refine wpAnyH_take (i := 7) (v := ?_) rfl (by kernel_rfl) (by kernel_rfl) (by kernel_rfl) (fun _ _ _ h => h) (Or.inl ⟨by rfl, ?_⟩) (by assumption) ?_
                    rotate_left
                    · intro w hSw
                      (try dsimp only at hSw)
                      go_simp
                      try with_reducible rfl
                    simp only [Act.put, List.setIfInBounds_toArray, List.set_cons_zero, List.set_cons_succ]
                    refine wpAnyH_take (i := 8) (v := ?_) rfl (by kernel_rfl) (by kernel_rfl) (by kernel_rfl) (fun _ _ _ h => h) (Or.inl ⟨by rfl, ?_⟩) (by assumption) ?_
                    rotate_left
                    · intro w hSw
                      (try dsimp only at hSw)
                      go_simp
                      try with_reducible rfl
                    simp only [Act.put, List.setIfInBounds_toArray, List.set_cons_zero, List.set_cons_succ]
                    refine wpAnyH_take (i := 9) (v := ?_) rfl (by kernel_rfl) (by kernel_rfl) (by kernel_rfl) (fun _ _ _ h => h) (Or.inl ⟨by rfl, ?_⟩) (by assumption) ?_
                    rotate_left
                    · intro w hSw
                      (try dsimp only at hSw)
                      go_simp
                      try with_reducible rfl
                    simp only [Act.put, List.setIfInBounds_toArray, List.set_cons_zero, List.set_cons_succ]
                    refine wpAnyH_ready (rs := [11]) (by kernel_rfl) (by simp) ?_
                    refine AllReadyH.cons rfl (fun K hK => ?_) ?_
                    · obtain ⟨b1, b2, b3, b4, b5, b6⟩ := s6.boxed
                      go_simp
                      have hBs : Below w6.heap.size w6 ((W6.setCell ⟨nb, 0, none⟩ (.int .i64 n2)).setCell ⟨nb, 1, none⟩ (.int .i64 d2)) := (s6.1.setCell (p := ⟨nb, 0, none⟩) b1 _).setCell (p := ⟨nb, 1, none⟩) b1 _
                      have hcs := setB (setA ⟨b3, b4⟩ (.int .i64 n2)) (.int .i64 d2)
                      have hsz : nb < ((W6.setCell ⟨nb, 0, none⟩ (.int .i64 n2)).setCell ⟨nb, 1, none⟩ (.int .i64 d2)).heap.size := by rw [World.size_setCell, World.size_setCell]; exact b2
                      have HCS := Lib.hid (And.intro hcs (And.intro hsz hBs))
                      clear hcs hsz
                      refine hK.out _ _ ⟨(hBs.cell (p := ⟨w.heap.size, 0, none⟩) zy).trans e0, (hBs.cell (p := ⟨w.heap.size, 1, none⟩) zy).trans e1, (hBs.cell (p := ⟨w.heap.size, 2, none⟩) zy).trans e2, (hBs.cell (p := ⟨w.heap.size, 3, none⟩) zy).trans e3, (hBs.cell (p := ⟨w.heap.size, 4, none⟩) zy).trans e4⟩ (fun hHeld => ?_)
                      clear hK
                      refine wpAnyH_ready (rs := [12]) (by kernel_rfl) (by simp) ?_
                      refine AllReadyH.cons rfl (fun K hK => ?_) ?_
                      · go_simp
                        refine hK.out _ _ (by assumption) (fun hHeld => ?_)
                        clear hK
                        refine wpAnyH_done (by kernel_rfl) ?_ _
                        go_wp2_with fail
                        go_meet
                        exact ⟨nb, rfl, rfl, ⟨HCS.out.1.1, HCS.out.2.1⟩, ⟨HCS.out.1.2, HCS.out.2.1⟩, HCS.out.2.2⟩
                      exact AllReadyH.nil
                    exact AllReadyH.nil
                  exact AllReadyH.nil
                exact AllReadyH.nil
              exact AllReadyH.nil
            exact AllReadyH.nil
          refine AllReadyH.cons rfl (fun K hK => ?_) ?_
          · go_simp
            have s2 := s1.lit
            refine hK.out _ _ ⟨(s2.1.cell (p := ⟨w.heap.size, 0, none⟩) zy).trans e0, (s2.1.cell (p := ⟨w.heap.size, 1, none⟩) zy).trans e1, (s2.1.cell (p := ⟨w.heap.size, 2, none⟩) zy).trans e2, (s2.1.cell (p := ⟨w.heap.size, 3, none⟩) zy).trans e3, (s2.1.cell (p := ⟨w.heap.size, 4, none⟩) zy).trans e4⟩ (fun hHeld => ?_)
            clear hK
            obtain ⟨W2, hwW2⟩ : ∃ X, X = W1.alloc (.cells #[.int .i64 y0, .int .i64 y1, .int .i64 y2, .int .i64 y3, .int .i64 y4] 43) := ⟨_, rfl⟩
            rw [← hwW2] at s2 ⊢
            clear hwW2
            obtain ⟨yb, hnyb⟩ : ∃ q, q = W1.heap.size := ⟨_, rfl⟩
            rw [← hnyb] at s2 ⊢
            clear hnyb
            refine wpAnyH_ready (rs := [2, 10]) (by kernel_rfl) (by simp) ?_
            refine AllReadyH.cons rfl (fun K hK => ?_) ?_
            · refine step_append_reads (en := At.enc) (sz := 5) (by rfl) _ _ _ (by rfl) At.enc_len At.enc_one w6.heap.size 43 i0 _ 40 Try.underlying22 HI.out hz0 hz1 hz2 rfl (by decide) (.slice (some ⟨eb, 0, none⟩) 0 0) [] (by rfl) s2.row _ A c xs (by rfl) (RL.out.below s2.1) hnc (by simp [maxLen]; omega) (by simp; omega) s2.1.size ?_
              intro v3 W3 k1 k2 k3
              rw [List.nil_append] at k1
              have s3 := s2.app k1 k2 k3
              obtain ⟨A1, c1x, rfl, _, _⟩ := k1.shape
              clear k1 k2 k3
              refine hK.out _ _ ⟨(s3.1.cell (p := ⟨w.heap.size, 0, none⟩) zy).trans e0, (s3.1.cell (p := ⟨w.heap.size, 1, none⟩) zy).trans e1, (s3.1.cell (p := ⟨w.heap.size, 2, none⟩) zy).trans e2, (s3.1.cell (p := ⟨w.heap.size, 3, none⟩) zy).trans e3, (s3.1.cell (p := ⟨w.heap.size, 4, none⟩) zy).trans e4⟩ (fun hHeld => ?_)
              clear hK
              refine wpAnyH_ready (rs := [5, 10]) (by kernel_rfl) (by simp) ?_
              refine AllReadyH.cons rfl (fun K hK => ?_) ?_
              · refine step_append_reads (en := At.enc) (sz := 5) (by rfl) _ _ _ (by rfl) At.enc_len At.enc_one w6.heap.size 43 i0 _ 40 Try.underlying22 HI.out hz0 hz1 hz2 rfl (by decide) (.slice A1 xs.length c1x) xs (by rfl) s3.row _ (some ⟨yb, 0, none⟩) 1 [⟨y0, y1, y2, y3, y4⟩] (by rfl) s3.one (fun h => by cases h) (by simp [maxLen]; omega) (by simp; omega) s3.1.size ?_
                intro v4 W4 k1 k2 k3
                have s4 := s3.app k1 k2 k3
                obtain ⟨A2, c2x, rfl, _, _⟩ := k1.shape
                rw [HZ.out.1] at s4 ⊢
                clear k1 k2 k3
                refine hK.out _ _ ⟨(s4.1.cell (p := ⟨w.heap.size, 0, none⟩) zy).trans e0, (s4.1.cell (p := ⟨w.heap.size, 1, none⟩) zy).trans e1, (s4.1.cell (p := ⟨w.heap.size, 2, none⟩) zy).trans e2, (s4.1.cell (p := ⟨w.heap.size, 3, none⟩) zy).trans e3, (s4.1.cell (p := ⟨w.heap.size, 4, none⟩) zy).trans e4⟩ (fun hHeld => ?_)
                clear hK
                refine wpAnyH_ready (rs := [6, 10]) (by kernel_rfl) (by simp) ?_
                refine AllReadyH.cons rfl (fun K hK => ?_) ?_
                · go_simp
                  refine (CV.out _ _ _ (s4.row.reads At.enc_len)).mono ?_
                  rintro e W5 ⟨rfl, hb5⟩
                  have s5 := s4.call hb5
                  clear hb5
                  refine hK.out _ _ ⟨(s5.1.cell (p := ⟨w.heap.size, 0, none⟩) zy).trans e0, (s5.1.cell (p := ⟨w.heap.size, 1, none⟩) zy).trans e1, (s5.1.cell (p := ⟨w.heap.size, 2, none⟩) zy).trans e2, (s5.1.cell (p := ⟨w.heap.size, 3, none⟩) zy).trans e3, (s5.1.cell (p := ⟨w.heap.size, 4, none⟩) zy).trans e4⟩ (fun hHeld => ?_)
                  clear hK
                  refine wpAnyH_take (i := 7) (v := ?_) rfl (by kernel_rfl) (by kernel_rfl) (by kernel_rfl) (fun _ _ _ h => h) (Or.inl ⟨by rfl, ?_⟩) (by assumption) ?_
                  rotate_left
                  · intro w hSw
                    (try dsimp only at hSw)
                    go_simp
                    try with_reducible rfl
                  simp only [Act.put, List.setIfInBounds_toArray, List.set_cons_zero, List.set_cons_succ]
                  refine wpAnyH_take (i := 8) (v := ?_) rfl (by kernel_rfl) (by kernel_rfl) (by kernel_rfl) (fun _ _ _ h => h) (Or.inl ⟨by rfl, ?_⟩) (by assumption) ?_
                  rotate_left
                  · intro w hSw
                    (try dsimp only at hSw)
                    go_simp
                    try with_reducible rfl
                  simp only [Act.put, List.setIfInBounds_toArray, List.set_cons_zero, List.set_cons_succ]
                  refine wpAnyH_take (i := 9) (v := ?_) rfl (by kernel_rfl) (by kernel_rfl) (by kernel_rfl) (fun _ _ _ h => h) (Or.inl ⟨by rfl, ?_⟩) (by assumption) ?_
                  rotate_left
                  · intro w hSw
                    (try dsimp only at hSw)
                    go_simp
                    try with_reducible rfl
                  simp only [Act.put, List.setIfInBounds_toArray, List.set_cons_zero, List.set_cons_succ]
                  refine wpAnyH_ready (rs := [10]) (by kernel_rfl) (by simp) ?_
                  refine AllReadyH.cons rfl (fun K hK => ?_) ?_
                  · go_simp
                    have s6 := s5.box
                    refine hK.out _ _ ⟨(s6.1.cell (p := ⟨w.heap.size, 0, none⟩) zy).trans e0, (s6.1.cell (p := ⟨w.heap.size, 1, none⟩) zy).trans e1, (s6.1.cell (p := ⟨w.heap.size, 2, none⟩) zy).trans e2, (s6.1.cell (p := ⟨w.heap.size, 3, none⟩) zy).trans e3, (s6.1.cell (p := ⟨w.heap.size, 4, none⟩) zy).trans e4⟩ (fun hHeld => ?_)
                    clear hK
                    obtain ⟨W6, hwW6⟩ : ∃ X, X = W5.alloc (.cells #[.int .i64 0, .int .i64 0] 29) := ⟨_, rfl⟩
                    rw [← hwW6] at s6 ⊢
                    clear hwW6
                    obtain ⟨nb, hnnb⟩ : ∃ q, q = W5.heap.size := ⟨_, rfl⟩
                    rw [← hnnb] at s6 ⊢
                    clear hnnb
                    refine wpAnyH_ready (rs := [11]) (by kernel_rfl) (by simp) ?_
                    refine AllReadyH.cons rfl (fun K hK => ?_) ?_
                    · obtain ⟨b1, b2, b3, b4, b5, b6⟩ := s6.boxed
                      go_simp
                      have hBs : Below w6.heap.size w6 ((W6.setCell ⟨nb, 0, none⟩ (.int .i64 n2)).setCell ⟨nb, 1, none⟩ (.int .i64 d2)) := (s6.1.setCell (p := ⟨nb, 0, none⟩) b1 _).setCell (p := ⟨nb, 1, none⟩) b1 _
                      have hcs := setB (setA ⟨b3, b4⟩ (.int .i64 n2)) (.int .i64 d2)
                      have hsz : nb < ((W6.setCell ⟨nb, 0, none⟩ (.int .i64 n2)).setCell ⟨nb, 1, none⟩ (.int .i64 d2)).heap.size := by rw [World.size_setCell, World.size_setCell]; exact b2
                      have HCS := Lib.hid (And.intro hcs (And.intro hsz hBs))
                      clear hcs hsz
                      refine hK.out _ _ ⟨(hBs.cell (p := ⟨w.heap.size, 0, none⟩) zy).trans e0, (hBs.cell (p := ⟨w.heap.size, 1, none⟩) zy).trans e1, (hBs.cell (p := ⟨w.heap.size, 2, none⟩) zy).trans e2, (hBs.cell (p := ⟨w.heap.size, 3, none⟩) zy).trans e3, (hBs.cell (p := ⟨w.heap.size, 4, none⟩) zy).trans e4⟩ (fun hHeld => ?_)
                      clear hK
                      refine wpAnyH_ready (rs := [12]) (by kernel_rfl) (by simp) ?_
                      refine AllReadyH.cons rfl (fun K hK => ?_) ?_
                      · go_simp
                        refine hK.out _ _ (by assumption) (fun hHeld => ?_)
                        clear hK
                        refine wpAnyH_done (by kernel_rfl) ?_ _
                        go_wp2_with fail
                        go_meet
                        exact ⟨nb, rfl, rfl, ⟨HCS.out.1.1, HCS.out.2.1⟩, ⟨HCS.out.1.2, HCS.out.2.1⟩, HCS.out.2.2⟩
                      exact AllReadyH.nil
                    exact AllReadyH.nil
                  exact AllReadyH.nil
                refine AllReadyH.cons rfl (fun K hK => ?_) ?_
                · go_simp
                  have s5 := s4.box
                  refine hK.out _ _ ⟨(s5.1.cell (p := ⟨w.heap.size, 0, none⟩) zy).trans e0, (s5.1.cell (p := ⟨w.heap.size, 1, none⟩) zy).trans e1, (s5.1.cell (p := ⟨w.heap.size, 2, none⟩) zy).trans e2, (s5.1.cell (p := ⟨w.heap.size, 3, none⟩) zy).trans e3, (s5.1.cell (p := ⟨w.heap.size, 4, none⟩) zy).trans e4⟩ (fun hHeld => ?_)
                  clear hK
                  obtain ⟨W5, hwW5⟩ : ∃ X, X = W4.alloc (.cells #[.int .i64 0, .int .i64 0] 29) := ⟨_, rfl⟩
                  rw [← hwW5] at s5 ⊢
                  clear hwW5
                  obtain ⟨nb, hnnb⟩ : ∃ q, q = W4.heap.size := ⟨_, rfl⟩
                  rw [← hnnb] at s5 ⊢
                  clear hnnb
                  refine wpAnyH_ready (rs := [6]) (by kernel_rfl) (by simp) ?_
                  refine AllReadyH.cons rfl (fun K hK => ?_) ?_
                  · go_simp
                    refine (CV.out _ _ _ (s5.row.reads At.enc_len)).mono ?_
                    rintro e W6 ⟨rfl, hb6⟩
                    have s6 := s5.call hb6
                    clear hb6
                    refine hK.out _ _ ⟨(s6.1.cell (p := ⟨w.heap.size, 0, none⟩) zy).trans e0, (s6.1.cell (p := ⟨w.heap.size, 1, none⟩) zy).trans e1, (s6.1.cell (p := ⟨w.heap.size, 2, none⟩) zy).trans e2, (s6.1.cell (p := ⟨w.heap.size, 3, none⟩) zy).trans e3, (s6.1.cell (p := ⟨w.heap.size, 4, none⟩) zy).trans e4⟩ (fun hHeld => ?_)
                    clear hK
                    refine wpAnyH_take (i := 7) (v := ?_) rfl (by kernel_rfl) (by kernel_rfl) (by kernel_rfl) (fun _ _ _ h => h) (Or.inl ⟨by rfl, ?_⟩) (by assumption) ?_
                    rotate_left
                    · intro w hSw
                      (try dsimp only at hSw)
                      go_simp
                      try with_reducible rfl
                    simp only [Act.put, List.setIfInBounds_toArray, List.set_cons_zero, List.set_cons_succ]
                    refine wpAnyH_take (i := 8) (v := ?_) rfl (by kernel_rfl) (by kernel_rfl) (by kernel_rfl) (fun _ _ _ h => h) (Or.inl ⟨by rfl, ?_⟩) (by assumption) ?_
                    rotate_left
                    · intro w hSw
                      (try dsimp only at hSw)
                      go_simp
                      try with_reducible rfl
                    simp only [Act.put, List.setIfInBounds_toArray, List.set_cons_zero, List.set_cons_succ]
                    refine wpAnyH_take (i := 9) (v := ?_) rfl (by kernel_rfl) (by kernel_rfl) (by kernel_rfl) (fun _ _ _ h => h) (Or.inl ⟨by rfl, ?_⟩) (by assumption) ?_
                    rotate_left
                    · intro w hSw
                      (try dsimp only at hSw)
                      go_simp
                      try with_reducible rfl
                    simp only [Act.put, List.setIfInBounds_toArray, List.set_cons_zero, List.set_cons_succ]
                    refine wpAnyH_ready (rs := [11]) (by kernel_rfl) (by simp) ?_
                    refine AllReadyH.cons rfl (fun K hK => ?_) ?_
                    · obtain ⟨b1, b2, b3, b4, b5, b6⟩ := s6.boxed
                      go_simp
                      have hBs : Below w6.heap.size w6 ((W6.setCell ⟨nb, 0, none⟩ (.int .i64 n2)).setCell ⟨nb, 1, none⟩ (.int .i64 d2)) := (s6.1.setCell (p := ⟨nb, 0, none⟩) b1 _).setCell (p := ⟨nb, 1, none⟩) b1 _
                      have hcs := setB (setA ⟨b3, b4⟩ (.int .i64 n2)) (.int .i64 d2)
                      have hsz : nb < ((W6.setCell ⟨nb, 0, none⟩ (.int .i64 n2)).setCell ⟨nb, 1, none⟩ (.int .i64 d2)).heap.size := by rw [World.size_setCell, World.size_setCell]; exact b2
                      have HCS := Lib.hid (And.intro hcs (And.intro hsz hBs))
                      clear hcs hsz
                      refine hK.out _ _ ⟨(hBs.cell (p := ⟨w.heap.size, 0, none⟩) zy).trans e0, (hBs.cell (p := ⟨w.heap.size, 1, none⟩) zy).trans e1, (hBs.cell (p := ⟨w.heap.size, 2, none⟩) zy).trans e2, (hBs.cell (p := ⟨w.heap.size, 3, none⟩) zy).trans e3, (hBs.cell (p := ⟨w.heap.size, 4, none⟩) zy).trans e4⟩ (fun hHeld => ?_)
                      clear hK
                      refine wpAnyH_ready (rs := [12]) (by kernel_rfl) (by simp) ?_
                      refine AllReadyH.cons rfl (fun K hK => ?_) ?_
                      · go_simp
                        refine hK.out _ _ (by assumption) (fun hHeld => ?_)
                        clear hK
                        refine wpAnyH_done (by kernel_rfl) ?_ _
                        go_wp2_with fail
                        go_meet
                        exact ⟨nb, rfl, rfl, ⟨HCS.out.1.1, HCS.out.2.1⟩, ⟨HCS.out.1.2, HCS.out.2.1⟩, HCS.out.2.2⟩
                      exact AllReadyH.nil
                    exact AllReadyH.nil
                  exact AllReadyH.nil
                exact AllReadyH.nil
              refine AllReadyH.cons rfl (fun K hK => ?_) ?_
              · go_simp
                have s4 := s3.box
                refine hK.out _ _ ⟨(s4.1.cell (p := ⟨w.heap.size, 0, none⟩) zy).trans e0, (s4.1.cell (p := ⟨w.heap.size, 1, none⟩) zy).trans e1, (s4.1.cell (p := ⟨w.heap.size, 2, none⟩) zy).trans e2, (s4.1.cell (p := ⟨w.heap.size, 3, none⟩) zy).trans e3, (s4.1.cell (p := ⟨w.heap.size, 4, none⟩) zy).trans e4⟩ (fun hHeld => ?_)
                clear hK
                obtain ⟨W4, hwW4⟩ : ∃ X, X = W3.alloc (.cells #[.int .i64 0, .int .i64 0] 29) := ⟨_, rfl⟩
                rw [← hwW4] at s4 ⊢
                clear hwW4
                obtain ⟨nb, hnnb⟩ : ∃ q, q = W3.heap.size := ⟨_, rfl⟩
                rw [← hnnb] at s4 ⊢
                clear hnnb
                refine wpAnyH_ready (rs := [5]) (by kernel_rfl) (by simp) ?_
                refine AllReadyH.cons rfl (fun K hK => ?_) ?_
                · refine step_append_reads (en := At.enc) (sz := 5) (by rfl) _ _ _ (by rfl) At.enc_len At.enc_one w6.heap.size 43 i0 _ 40 Try.underlying22 HI.out hz0 hz1 hz2 rfl (by decide) (.slice A1 xs.length c1x) xs (by rfl) s4.row _ (some ⟨yb, 0, none⟩) 1 [⟨y0, y1, y2, y3, y4⟩] (by rfl) s4.one (fun h => by cases h) (by simp [maxLen]; omega) (by simp; omega) s4.1.size ?_
                  intro v5 W5 k1 k2 k3
                  have s5 := s4.app k1 k2 k3
                  obtain ⟨A2, c2x, rfl, _, _⟩ := k1.shape
                  rw [HZ.out.1] at s5 ⊢
                  clear k1 k2 k3
                  refine hK.out _ _ ⟨(s5.1.cell (p := ⟨w.heap.size, 0, none⟩) zy).trans e0, (s5.1.cell (p := ⟨w.heap.size, 1, none⟩) zy).trans e1, (s5.1.cell (p := ⟨w.heap.size, 2, none⟩) zy).trans e2, (s5.1.cell (p := ⟨w.heap.size, 3, none⟩) zy).trans e3, (s5.1.cell (p := ⟨w.heap.size, 4, none⟩) zy).trans e4⟩ (fun hHeld => ?_)
                  clear hK
                  refine wpAnyH_ready (rs := [6]) (by kernel_rfl) (by simp) ?_
                  refine AllReadyH.cons rfl (fun K hK => ?_) ?_
                  · go_simp
                    refine (CV.out _ _ _ (s5.row.reads At.enc_len)).mono ?_
                    rintro e W6 ⟨rfl, hb6⟩
                    have s6 := s5.call hb6
                    clear hb6
                    refine hK.out _ _ ⟨(s6.1.cell (p := ⟨w.heap.size, 0, none⟩) zy).trans e0, (s6.1.cell (p := ⟨w.heap.size, 1, none⟩) zy).trans e1, (s6.1.cell (p := ⟨w.heap.size, 2, none⟩) zy).trans e2, (s6.1.cell (p := ⟨w.heap.size, 3, none⟩) zy).trans e3, (s6.1.cell (p := ⟨w.heap.size, 4, none⟩) zy).trans e4⟩ (fun hHeld => ?_)
                    clear hK
                    refine wpAnyH_take (i := 7) (v := ?_) rfl (by kernel_rfl) (by kernel_rfl) (by kernel_rfl) (fun _ _ _ h => h) (Or.inl ⟨by rfl, ?_⟩) (by assumption) ?_
                    rotate_left
                    · intro w hSw
                      (try dsimp only at hSw)
                      go_simp
                      try with_reducible rfl
                    simp only [Act.put, List.setIfInBounds_toArray, List.set_cons_zero, List.set_cons_succ]
                    refine wpAnyH_take (i := 8) (v := ?_) rfl (by kernel_rfl) (by kernel_rfl) (by kernel_rfl) (fun _ _ _ h => h) (Or.inl ⟨by rfl, ?_⟩) (by assumption) ?_
                    rotate_left
                    · intro w hSw
                      (try dsimp only at hSw)
                      go_simp
                      try with_reducible rfl
                    simp only [Act.put, List.setIfInBounds_toArray, List.set_cons_zero, List.set_cons_succ]
                    refine wpAnyH_take (i := 9) (v := ?_) rfl (by kernel_rfl) (by kernel_rfl) (by kernel_rfl) (fun _ _ _ h => h) (Or.inl ⟨by rfl, ?_⟩) (by assumption) ?_
                    rotate_left
                    · intro w hSw
                      (try dsimp only at hSw)
                      go_simp
                      try with_reducible rfl
                    simp only [Act.put, List.setIfInBounds_toArray, List.set_cons_zero, List.set_cons_succ]
                    refine wpAnyH_ready (rs := [11]) (by kernel_rfl) (by simp) ?_
                    refine AllReadyH.cons rfl (fun K hK => ?_) ?_
                    · obtain ⟨b1, b2, b3, b4, b5, b6⟩ := s6.boxed
                      go_simp
                      have hBs : Below w6.heap.size w6 ((W6.setCell ⟨nb, 0, none⟩ (.int .i64 n2)).setCell ⟨nb, 1, none⟩ (.int .i64 d2)) := (s6.1.setCell (p := ⟨nb, 0, none⟩) b1 _).setCell (p := ⟨nb, 1, none⟩) b1 _
                      have hcs := setB (setA ⟨b3, b4⟩ (.int .i64 n2)) (.int .i64 d2)
                      have hsz : nb < ((W6.setCell ⟨nb, 0, none⟩ (.int .i64 n2)).setCell ⟨nb, 1, none⟩ (.int .i64 d2)).heap.size := by rw [World.size_setCell, World.size_setCell]; exact b2
                      have HCS := Lib.hid (And.intro hcs (And.intro hsz hBs))
                      clear hcs hsz
                      refine hK.out _ _ ⟨(hBs.cell (p := ⟨w.heap.size, 0, none⟩) zy).trans e0, (hBs.cell (p := ⟨w.heap.size, 1, none⟩) zy).trans e1, (hBs.cell (p := ⟨w.heap.size, 2, none⟩) zy).trans e2, (hBs.cell (p := ⟨w.heap.size, 3, none⟩) zy).trans e3, (hBs.cell (p := ⟨w.heap.size, 4, none⟩) zy).trans e4⟩ (fun hHeld => ?_)
                      clear hK
                      refine wpAnyH_ready (rs := [12]) (by kernel_rfl) (by simp) ?_
                      refine AllReadyH.cons rfl (fun K hK => ?_) ?_
                      · go_simp
                        refine hK.out _ _ (by assumption) (fun hHeld => ?_)
                        clear hK
                        refine wpAnyH_done (by kernel_rfl) ?_ _
                        go_wp2_with fail
                        go_meet
                        exact ⟨nb, rfl, rfl, ⟨HCS.out.1.1, HCS.out.2.1⟩, ⟨HCS.out.1.2, HCS.out.2.1⟩, HCS.out.2.2⟩
                      exact AllReadyH.nil
                    exact AllReadyH.nil
                  exact AllReadyH.nil
                exact AllReadyH.nil
              exact AllReadyH.nil
            refine AllReadyH.cons rfl (fun K hK => ?_) ?_
            · go_simp
              have s3 := s2.box
              refine hK.out _ _ ⟨(s3.1.cell (p := ⟨w.heap.size, 0, none⟩) zy).trans e0, (s3.1.cell (p := ⟨w.heap.size, 1, none⟩) zy).trans e1, (s3.1.cell (p := ⟨w.heap.size, 2, none⟩) zy).trans e2, (s3.1.cell (p := ⟨w.heap.size, 3, none⟩) zy).trans e3, (s3.1.cell (p := ⟨w.heap.size, 4, none⟩) zy).trans e4⟩ (fun hHeld => ?_)
              clear hK
              obtain ⟨W3, hwW3⟩ : ∃ X, X = W2.alloc (.cells #[.int .i64 0, .int .i64 0] 29) := ⟨_, rfl⟩
              rw [← hwW3] at s3 ⊢
              clear hwW3
              obtain ⟨nb, hnnb⟩ : ∃ q, q = W2.heap.size := ⟨_, rfl⟩
              rw [← hnnb] at s3 ⊢
              clear hnnb
              refine wpAnyH_ready (rs := [2]) (by kernel_rfl) (by simp) ?_
              refine AllReadyH.cons rfl (fun K hK => ?_) ?_
              · refine step_append_reads (en := At.enc) (sz := 5) (by rfl) _ _ _ (by rfl) At.enc_len At.enc_one w6.heap.size 43 i0 _ 40 Try.underlying22 HI.out hz0 hz1 hz2 rfl (by decide) (.slice (some ⟨eb, 0, none⟩) 0 0) [] (by rfl) s3.row _ A c xs (by rfl) (RL.out.below s3.1) hnc (by simp [maxLen]; omega) (by simp; omega) s3.1.size ?_
                intro v4 W4 k1 k2 k3
                rw [List.nil_append] at k1
                have s4 := s3.app k1 k2 k3
                obtain ⟨A1, c1x, rfl, _, _⟩ := k1.shape
                clear k1 k2 k3
                refine hK.out _ _ ⟨(s4.1.cell (p := ⟨w.heap.size, 0, none⟩) zy).trans e0, (s4.1.cell (p := ⟨w.heap.size, 1, none⟩) zy).trans e1, (s4.1.cell (p := ⟨w.heap.size, 2, none⟩) zy).trans e2, (s4.1.cell (p := ⟨w.heap.size, 3, none⟩) zy).trans e3, (s4.1.cell (p := ⟨w.heap.size, 4, none⟩) zy).trans e4⟩ (fun hHeld => ?_)
                clear hK
                refine wpAnyH_ready (rs := [5]) (by kernel_rfl) (by simp) ?_
                refine AllReadyH.cons rfl (fun K hK => ?_) ?_
                · refine step_append_reads (en := At.enc) (sz := 5) (by rfl) _ _ _ (by rfl) At.enc_len At.enc_one w6.heap.size 43 i0 _ 40 Try.underlying22 HI.out hz0 hz1 hz2 rfl (by decide) (.slice A1 xs.length c1x) xs (by rfl) s4.row _ (some ⟨yb, 0, none⟩) 1 [⟨y0, y1, y2, y3, y4⟩] (by rfl) s4.one (fun h => by cases h) (by simp [maxLen]; omega) (by simp; omega) s4.1.size ?_
                  intro v5 W5 k1 k2 k3
                  have s5 := s4.app k1 k2 k3
                  obtain ⟨A2, c2x, rfl, _, _⟩ := k1.shape
                  rw [HZ.out.1] at s5 ⊢
                  clear k1 k2 k3
                  refine hK.out _ _ ⟨(s5.1.cell (p := ⟨w.heap.size, 0, none⟩) zy).trans e0, (s5.1.cell (p := ⟨w.heap.size, 1, none⟩) zy).trans e1, (s5.1.cell (p := ⟨w.heap.size, 2, none⟩) zy).trans e2, (s5.1.cell (p := ⟨w.heap.size, 3, none⟩) zy).trans e3, (s5.1.cell (p := ⟨w.heap.size, 4, none⟩) zy).trans e4⟩ (fun hHeld => ?_)
                  clear hK
                  refine wpAnyH_ready (rs := [6]) (by kernel_rfl) (by simp) ?_
                  refine AllReadyH.cons rfl (fun K hK => ?_) ?_
                  · go_simp
                    refine (CV.out _ _ _ (s5.row.reads At.enc_len)).mono ?_
                    rintro e W6 ⟨rfl, hb6⟩
                    have s6 := s5.call hb6
                    clear hb6
                    refine hK.out _ _ ⟨(s6.1.cell (p := ⟨w.heap.size, 0, none⟩) zy).trans e0, (s6.1.cell (p := ⟨w.heap.size, 1, none⟩) zy).trans e1, (s6.1.cell (p := ⟨w.heap.size, 2, none⟩) zy).trans e2, (s6.1.cell (p := ⟨w.heap.size, 3, none⟩) zy).trans e3, (s6.1.cell (p := ⟨w.heap.size, 4, none⟩) zy).trans e4⟩ (fun hHeld => ?_)
                    clear hK
                    refine wpAnyH_take (i := 7) (v := ?_) rfl (by kernel_rfl) (by kernel_rfl) (by kernel_rfl) (fun _ _ _ h => h) (Or.inl ⟨by rfl, ?_⟩) (by assumption) ?_
                    rotate_left
                    · intro w hSw
                      (try dsimp only at hSw)
                      go_simp
                      try with_reducible rfl
                    simp only [Act.put, List.setIfInBounds_toArray, List.set_cons_zero, List.set_cons_succ]
                    refine wpAnyH_take (i := 8) (v := ?_) rfl (by kernel_rfl) (by kernel_rfl) (by kernel_rfl) (fun _ _ _ h => h) (Or.inl ⟨by rfl, ?_⟩) (by assumption) ?_
                    rotate_left
                    · intro w hSw
                      (try dsimp only at hSw)
                      go_simp
                      try with_reducible rfl
                    simp only [Act.put, List.setIfInBounds_toArray, List.set_cons_zero, List.set_cons_succ]
                    refine wpAnyH_take (i := 9) (v := ?_) rfl (by kernel_rfl) (by kernel_rfl) (by kernel_rfl) (fun _ _ _ h => h) (Or.inl ⟨by rfl, ?_⟩) (by assumption) ?_
                    rotate_left
                    · intro w hSw
                      (try dsimp only at hSw)
                      go_simp
                      try with_reducible rfl
                    simp only [Act.put, List.setIfInBounds_toArray, List.set_cons_zero, List.set_cons_succ]
                    refine wpAnyH_ready (rs := [11]) (by kernel_rfl) (by simp) ?_
                    refine AllReadyH.cons rfl (fun K hK => ?_) ?_
                    · obtain ⟨b1, b2, b3, b4, b5, b6⟩ := s6.boxed
                      go_simp
                      have hBs : Below w6.heap.size w6 ((W6.setCell ⟨nb, 0, none⟩ (.int .i64 n2)).setCell ⟨nb, 1, none⟩ (.int .i64 d2)) := (s6.1.setCell (p := ⟨nb, 0, none⟩) b1 _).setCell (p := ⟨nb, 1, none⟩) b1 _
                      have hcs := setB (setA ⟨b3, b4⟩ (.int .i64 n2)) (.int .i64 d2)
                      have hsz : nb < ((W6.setCell ⟨nb, 0, none⟩ (.int .i64 n2)).setCell ⟨nb, 1, none⟩ (.int .i64 d2)).heap.size := by rw [World.size_setCell, World.size_setCell]; exact b2
                      have HCS := Lib.hid (And.intro hcs (And.intro hsz hBs))
                      clear hcs hsz
                      refine hK.out _ _ ⟨(hBs.cell (p := ⟨w.heap.size, 0, none⟩) zy).trans e0, (hBs.cell (p := ⟨w.heap.size, 1, none⟩) zy).trans e1, (hBs.cell (p := ⟨w.heap.size, 2, none⟩) zy).trans e2, (hBs.cell (p := ⟨w.heap.size, 3, none⟩) zy).trans e3, (hBs.cell (p := ⟨w.heap.size, 4, none⟩) zy).trans e4⟩ (fun hHeld => ?_)
                      clear hK
                      refine wpAnyH_ready (rs := [12]) (by kernel_rfl) (by simp) ?_
                      refine AllReadyH.cons rfl (fun K hK => ?_) ?_
                      · go_simp
                        refine hK.out _ _ (by assumption) (fun hHeld => ?_)
                        clear hK
                        refine wpAnyH_done (by kernel_rfl) ?_ _
                        go_wp2_with fail
                        go_meet
                        exact ⟨nb, rfl, rfl, ⟨HCS.out.1.1, HCS.out.2.1⟩, ⟨HCS.out.1.2, HCS.out.2.1⟩, HCS.out.2.2⟩
                      exact AllReadyH.nil
                    exact AllReadyH.nil
                  exact AllReadyH.nil
                exact AllReadyH.nil
              exact AllReadyH.nil
            exact AllReadyH.nil
          refine AllReadyH.cons rfl (fun K hK => ?_) ?_
          · go_simp
            have s2 := s1.box
            refine hK.out _ _ ⟨(s2.1.cell (p := ⟨w.heap.size, 0, none⟩) zy).trans e0, (s2.1.cell (p := ⟨w.heap.size, 1, none⟩) zy).trans e1, (s2.1.cell (p := ⟨w.heap.size, 2, none⟩) zy).trans e2, (s2.1.cell (p := ⟨w.heap.size, 3, none⟩) zy).trans e3, (s2.1.cell (p := ⟨w.heap.size, 4, none⟩) zy).trans e4⟩ (fun hHeld => ?_)
            clear hK
            obtain ⟨W2, hwW2⟩ : ∃ X, X = W1.alloc (.cells #[.int .i64 0, .int .i64 0] 29) := ⟨_, rfl⟩
            rw [← hwW2] at s2 ⊢
            clear hwW2
            obtain ⟨nb, hnnb⟩ : ∃ q, q = W1.heap.size := ⟨_, rfl⟩
            rw [← hnnb] at s2 ⊢
            clear hnnb
            refine wpAnyH_ready (rs := [2, 4]) (by kernel_rfl) (by simp) ?_
            refine AllReadyH.cons rfl (fun K hK => ?_) ?_
            · refine step_append_reads (en := At.enc) (sz := 5) (by rfl) _ _ _ (by rfl) At.enc_len At.enc_one w6.heap.size 43 i0 _ 40 Try.underlying22 HI.out hz0 hz1 hz2 rfl (by decide) (.slice (some ⟨eb, 0, none⟩) 0 0) [] (by rfl) s2.row _ A c xs (by rfl) (RL.out.below s2.1) hnc (by simp [maxLen]; omega) (by simp; omega) s2.1.size ?_
              intro v3 W3 k1 k2 k3
              rw [List.nil_append] at k1
              have s3 := s2.app k1 k2 k3
              obtain ⟨A1, c1x, rfl, _, _⟩ := k1.shape
              clear k1 k2 k3
              refine hK.out _ _ ⟨(s3.1.cell (p := ⟨w.heap.size, 0, none⟩) zy).trans e0, (s3.1.cell (p := ⟨w.heap.size, 1, none⟩) zy).trans e1, (s3.1.cell (p := ⟨w.heap.size, 2, none⟩) zy).trans e2, (s3.1.cell (p := ⟨w.heap.size, 3, none⟩) zy).trans e3, (s3.1.cell (p := ⟨w.heap.size, 4, none⟩) zy).trans e4⟩ (fun hHeld => ?_)
              clear hK
              refine wpAnyH_ready (rs := [4]) (by kernel_rfl) (by simp) ?_
              refine AllReadyH.cons rfl (fun K hK => ?_) ?_
              · go_simp
                have s4 := s3.lit
                refine hK.out _ _ ⟨(s4.1.cell (p := ⟨w.heap.size, 0, none⟩) zy).trans e0, (s4.1.cell (p := ⟨w.heap.size, 1, none⟩) zy).trans e1, (s4.1.cell (p := ⟨w.heap.size, 2, none⟩) zy).trans e2, (s4.1.cell (p := ⟨w.heap.size, 3, none⟩) zy).trans e3, (s4.1.cell (p := ⟨w.heap.size, 4, none⟩) zy).trans e4⟩ (fun hHeld => ?_)
                clear hK
                obtain ⟨W4, hwW4⟩ : ∃ X, X = W3.alloc (.cells #[.int .i64 y0, .int .i64 y1, .int .i64 y2, .int .i64 y3, .int .i64 y4] 43) := ⟨_, rfl⟩
                rw [← hwW4] at s4 ⊢
                clear hwW4
                obtain ⟨yb, hnyb⟩ : ∃ q, q = W3.heap.size := ⟨_, rfl⟩
                rw [← hnyb] at s4 ⊢
                clear hnyb
                refine wpAnyH_ready (rs := [5]) (by kernel_rfl) (by simp) ?_
                refine AllReadyH.cons rfl (fun K hK => ?_) ?_
                · refine step_append_reads (en := At.enc) (sz := 5) (by rfl) _ _ _ (by rfl) At.enc_len At.enc_one w6.heap.size 43 i0 _ 40 Try.underlying22 HI.out hz0 hz1 hz2 rfl (by decide) (.slice A1 xs.length c1x) xs (by rfl) s4.row _ (some ⟨yb, 0, none⟩) 1 [⟨y0, y1, y2, y3, y4⟩] (by rfl) s4.one (fun h => by cases h) (by simp [maxLen]; omega) (by simp; omega) s4.1.size ?_
                  intro v5 W5 k1 k2 k3
                  have s5 := s4.app k1 k2 k3
                  obtain ⟨A2, c2x, rfl, _, _⟩ := k1.shape
                  rw [HZ.out.1] at s5 ⊢
                  clear k1 k2 k3
                  refine hK.out _ _ ⟨(s5.1.cell (p := ⟨w.heap.size, 0, none⟩) zy).trans e0, (s5.1.cell (p := ⟨w.heap.size, 1, none⟩) zy).trans e1, (s5.1.cell (p := ⟨w.heap.size, 2, none⟩) zy).trans e2, (s5.1.cell (p := ⟨w.heap.size, 3, none⟩) zy).trans e3, (s5.1.cell (p := ⟨w.heap.size, 4, none⟩) zy).trans e4⟩ (fun hHeld => ?_)
                  clear hK
                  refine wpAnyH_ready (rs := [6]) (by kernel_rfl) (by simp) ?_
                  refine AllReadyH.cons rfl (fun K hK => ?_) ?_
                  · go_simp
                    refine (CV.out _ _ _ (s5.row.reads At.enc_len)).mono ?_
                    rintro e W6 ⟨rfl, hb6⟩
                    have s6 := s5.call hb6
                    clear hb6
                    refine hK.out _ _ ⟨(s6.1.cell (p := ⟨w.heap.size, 0, none⟩) zy).trans e0, (s6.1.cell (p := ⟨w.heap.size, 1, none⟩) zy).trans e1, (s6.1.cell (p := ⟨w.heap.size, 2, none⟩) zy).trans e2, (s6.1.cell (p := ⟨w.heap.size, 3, none⟩) zy).trans e3, (s6.1.cell (p := ⟨w.heap.size, 4, none⟩) zy).trans e4⟩ (fun hHeld => ?_)
                    clear hK
                    refine wpAnyH_take (i := 7) (v := ?_) rfl (by kernel_rfl) (by kernel_rfl) (by kernel_rfl) (fun _ _ _ h => h) (Or.inl ⟨by rfl, ?_⟩) (by assumption) ?_
                    rotate_left
                    · intro w hSw
                      (try dsimp only at hSw)
                      go_simp
                      try with_reducible rfl
                    simp only [Act.put, List.setIfInBounds_toArray, List.set_cons_zero, List.set_cons_succ]
                    refine wpAnyH_take (i := 8) (v := ?_) rfl (by kernel_rfl) (by kernel_rfl) (by kernel_rfl) (fun _ _ _ h => h) (Or.inl ⟨by rfl, ?_⟩) (by assumption) ?_
                    rotate_left
                    · intro w hSw
                      (try dsimp only at hSw)
                      go_simp
                      try with_reducible rfl
                    simp only [Act.put, List.setIfInBounds_toArray, List.set_cons_zero, List.set_cons_succ]
                    refine wpAnyH_take (i := 9) (v := ?_) rfl (by kernel_rfl) (by kernel_rfl) (by kernel_rfl) (fun _ _ _ h => h) (Or.inl ⟨by rfl, ?_⟩) (by assumption) ?_
                    rotate_left
                    · intro w hSw
                      (try dsimp only at hSw)
                      go_simp
                      try with_reducible rfl
                    simp only [Act.put, List.setIfInBounds_toArray, List.set_cons_zero, List.set_cons_succ]
                    refine wpAnyH_ready (rs := [11]) (by kernel_rfl) (by simp) ?_
                    refine AllReadyH.cons rfl (fun K hK => ?_) ?_
                    · obtain ⟨b1, b2, b3, b4, b5, b6⟩ := s6.boxed
                      go_simp
                      have hBs : Below w6.heap.size w6 ((W6.setCell ⟨nb, 0, none⟩ (.int .i64 n2)).setCell ⟨nb, 1, none⟩ (.int .i64 d2)) := (s6.1.setCell (p := ⟨nb, 0, none⟩) b1 _).setCell (p := ⟨nb, 1, none⟩) b1 _
                      have hcs := setB (setA ⟨b3, b4⟩ (.int .i64 n2)) (.int .i64 d2)
                      have hsz : nb < ((W6.setCell ⟨nb, 0, none⟩ (.int .i64 n2)).setCell ⟨nb, 1, none⟩ (.int .i64 d2)).heap.size := by rw [World.size_setCell, World.size_setCell]; exact b2
                      have HCS := Lib.hid (And.intro hcs (And.intro hsz hBs))
                      clear hcs hsz
                      refine hK.out _ _ ⟨(hBs.cell (p := ⟨w.heap.size, 0, none⟩) zy).trans e0, (hBs.cell (p := ⟨w.heap.size, 1, none⟩) zy).trans e1, (hBs.cell (p := ⟨w.heap.size, 2, none⟩) zy).trans e2, (hBs.cell (p := ⟨w.heap.size, 3, none⟩) zy).trans e3, (hBs.cell (p := ⟨w.heap.size, 4, none⟩) zy).trans e4⟩ (fun hHeld => ?_)
                      clear hK
                      refine wpAnyH_ready (rs := [12]) (by kernel_rfl) (by simp) ?_
                      refine AllReadyH.cons rfl (fun K hK => ?_) ?_
                      · go_simp
                        refine hK.out _ _ (by assumption) (fun hHeld => ?_)
                        clear hK
                        refine wpAnyH_done (by kernel_rfl) ?_ _
                        go_wp2_with fail
                        go_meet
                        exact ⟨nb, rfl, rfl, ⟨HCS.out.1.1, HCS.out.2.1⟩, ⟨HCS.out.1.2, HCS.out.2.1⟩, HCS.out.2.2⟩
                      exact AllReadyH.nil
                    exact AllReadyH.nil
                  exact AllReadyH.nil
                exact AllReadyH.nil
              exact AllReadyH.nil
            refine AllReadyH.cons rfl (fun K hK => ?_) ?_
            · go_simp
              have s3 := s2.lit
              refine hK.out _ _ ⟨(s3.1.cell (p := ⟨w.heap.size, 0, none⟩) zy).trans e0, (s3.1.cell (p := ⟨w.heap.size, 1, none⟩) zy).trans e1, (s3.1.cell (p := ⟨w.heap.size, 2, none⟩) zy).trans e2, (s3.1.cell (p := ⟨w.heap.size, 3, none⟩) zy).trans e3, (s3.1.cell (p := ⟨w.heap.size, 4, none⟩) zy).trans e4⟩ (fun hHeld => ?_)
              clear hK
              obtain ⟨W3, hwW3⟩ : ∃ X, X = W2.alloc (.cells #[.int .i64 y0, .int .i64 y1, .int .i64 y2, .int .i64 y3, .int .i64 y4] 43) := ⟨_, rfl⟩
              rw [← hwW3] at s3 ⊢
              clear hwW3
              obtain ⟨yb, hnyb⟩ : ∃ q, q = W2.heap.size := ⟨_, rfl⟩
              rw [← hnyb] at s3 ⊢
              clear hnyb
              refine wpAnyH_ready (rs := [2]) (by kernel_rfl) (by simp) ?_
              refine AllReadyH.cons rfl (fun K hK => ?_) ?_
              · refine step_append_reads (en := At.enc) (sz := 5) (by rfl) _ _ _ (by rfl) At.enc_len At.enc_one w6.heap.size 43 i0 _ 40 Try.underlying22 HI.out hz0 hz1 hz2 rfl (by decide) (.slice (some ⟨eb, 0, none⟩) 0 0) [] (by rfl) s3.row _ A c xs (by rfl) (RL.out.below s3.1) hnc (by simp [maxLen]; omega) (by simp; omega) s3.1.size ?_
                intro v4 W4 k1 k2 k3
                rw [List.nil_append] at k1
                have s4 := s3.app k1 k2 k3
                obtain ⟨A1, c1x, rfl, _, _⟩ := k1.shape
                clear k1 k2 k3
                refine hK.out _ _ ⟨(s4.1.cell (p := ⟨w.heap.size, 0, none⟩) zy).trans e0, (s4.1.cell (p := ⟨w.heap.size, 1, none⟩) zy).trans e1, (s4.1.cell (p := ⟨w.heap.size, 2, none⟩) zy).trans e2, (s4.1.cell (p := ⟨w.heap.size, 3, none⟩) zy).trans e3, (s4.1.cell (p := ⟨w.heap.size, 4, none⟩) zy).trans e4⟩ (fun hHeld => ?_)
                clear hK
                refine wpAnyH_ready (rs := [5]) (by kernel_rfl) (by simp) ?_
                refine AllReadyH.cons rfl (fun K hK => ?_) ?_
                · refine step_append_reads (en := At.enc) (sz := 5) (by rfl) _ _ _ (by rfl) At.enc_len At.enc_one w6.heap.size 43 i0 _ 40 Try.underlying22 HI.out hz0 hz1 hz2 rfl (by decide) (.slice A1 xs.length c1x) xs (by rfl) s4.row _ (some ⟨yb, 0, none⟩) 1 [⟨y0, y1, y2, y3, y4⟩] (by rfl) s4.one (fun h => by cases h) (by simp [maxLen]; omega) (by simp; omega) s4.1.size ?_
                  intro v5 W5 k1 k2 k3
                  have s5 := s4.app k1 k2 k3
                  obtain ⟨A2, c2x, rfl, _, _⟩ := k1.shape
                  rw [HZ.out.1] at s5 ⊢
                  clear k1 k2 k3
                  refine hK.out _ _ ⟨(s5.1.cell (p := ⟨w.heap.size, 0, none⟩) zy).trans e0, (s5.1.cell (p := ⟨w.heap.size, 1, none⟩) zy).trans e1, (s5.1.cell (p := ⟨w.heap.size, 2, none⟩) zy).trans e2, (s5.1.cell (p := ⟨w.heap.size, 3, none⟩) zy).trans e3, (s5.1.cell (p := ⟨w.heap.size, 4, none⟩) zy).trans e4⟩ (fun hHeld => ?_)
                  clear hK
                  refine wpAnyH_ready (rs := [6]) (by kernel_rfl) (by simp) ?_
                  refine AllReadyH.cons rfl (fun K hK => ?_) ?_
                  · go_simp
                    refine (CV.out _ _ _ (s5.row.reads At.enc_len)).mono ?_
                    rintro e W6 ⟨rfl, hb6⟩
                    have s6 := s5.call hb6
                    clear hb6
                    refine hK.out _ _ ⟨(s6.1.cell (p := ⟨w.heap.size, 0, none⟩) zy).trans e0, (s6.1.cell (p := ⟨w.heap.size, 1, none⟩) zy).trans e1, (s6.1.cell (p := ⟨w.heap.size, 2, none⟩) zy).trans e2, (s6.1.cell (p := ⟨w.heap.size, 3, none⟩) zy).trans e3, (s6.1.cell (p := ⟨w.heap.size, 4, none⟩) zy).trans e4⟩ (fun hHeld => ?_)
                    clear hK
                    refine wpAnyH_take (i := 7) (v := ?_) rfl (by kernel_rfl) (by kernel_rfl) (by kernel_rfl) (fun _ _ _ h => h) (Or.inl ⟨by rfl, ?_⟩) (by assumption) ?_
                    rotate_left
                    · intro w hSw
                      (try dsimp only at hSw)
                      go_simp
                      try with_reducible rfl
                    simp only [Act.put, List.setIfInBounds_toArray, List.set_cons_zero, List.set_cons_succ]
                    refine wpAnyH_take (i := 8) (v := ?_) rfl (by kernel_rfl) (by kernel_rfl) (by kernel_rfl) (fun _ _ _ h => h) (Or.inl ⟨by rfl, ?_⟩) (by assumption) ?_
                    rotate_left
                    · intro w hSw
                      (try dsimp only at hSw)
                      go_simp
                      try with_reducible rfl
                    simp only [Act.put, List.setIfInBounds_toArray, List.set_cons_zero, List.set_cons_succ]
                    refine wpAnyH_take (i := 9) (v := ?_) rfl (by kernel_rfl) (by kernel_rfl) (by kernel_rfl) (fun _ _ _ h => h) (Or.inl ⟨by rfl, ?_⟩) (by assumption) ?_
                    rotate_left
                    · intro w hSw
                      (try dsimp only at hSw)
                      go_simp
                      try with_reducible rfl
                    simp only [Act.put, List.setIfInBounds_toArray, List.set_cons_zero, List.set_cons_succ]
                    refine wpAnyH_ready (rs := [11]) (by kernel_rfl) (by simp) ?_
                    refine AllReadyH.cons rfl (fun K hK => ?_) ?_
                    · obtain ⟨b1, b2, b3, b4, b5, b6⟩ := s6.boxed
                      go_simp
                      have hBs : Below w6.heap.size w6 ((W6.setCell ⟨nb, 0, none⟩ (.int .i64 n2)).setCell ⟨nb, 1, none⟩ (.int .i64 d2)) := (s6.1.setCell (p := ⟨nb, 0, none⟩) b1 _).setCell (p := ⟨nb, 1, none⟩) b1 _
                      have hcs := setB (setA ⟨b3, b4⟩ (.int .i64 n2)) (.int .i64 d2)
                      have hsz : nb < ((W6.setCell ⟨nb, 0, none⟩ (.int .i64 n2)).setCell ⟨nb, 1, none⟩ (.int .i64 d2)).heap.size := by rw [World.size_setCell, World.size_setCell]; exact b2
                      have HCS := Lib.hid (And.intro hcs (And.intro hsz hBs))
                      clear hcs hsz
                      refine hK.out _ _ ⟨(hBs.cell (p := ⟨w.heap.size, 0, none⟩) zy).trans e0, (hBs.cell (p := ⟨w.heap.size, 1, none⟩) zy).trans e1, (hBs.cell (p := ⟨w.heap.size, 2, none⟩) zy).trans e2, (hBs.cell (p := ⟨w.heap.size, 3, none⟩) zy).trans e3, (hBs.cell (p := ⟨w.heap.size, 4, none⟩) zy).trans e4⟩ (fun hHeld => ?_)
                      clear hK
                      refine wpAnyH_ready (rs := [12]) (by kernel_rfl) (by simp) ?_
                      refine AllReadyH.cons rfl (fun K hK => ?_) ?_
                      · go_simp
                        refine hK.out _ _ (by assumption) (fun hHeld => ?_)
                        clear hK
                        refine wpAnyH_done (by kernel_rfl) ?_ _
                        go_wp2_with fail
                        go_meet
                        exact ⟨nb, rfl, rfl, ⟨HCS.out.1.1, HCS.out.2.1⟩, ⟨HCS.out.1.2, HCS.out.2.1⟩, HCS.out.2.2⟩
                      exact AllReadyH.nil
                    exact AllReadyH.nil
                  exact AllReadyH.nil
                exact AllReadyH.nil
              exact AllReadyH.nil
            exact AllReadyH.nil
          exact AllReadyH.nil
        refine AllReadyH.cons rfl (fun K hK => ?_) ?_
        · go_simp
          have s1 := s0.lit
          refine hK.out _ _ ⟨(s1.1.cell (p := ⟨w.heap.size, 0, none⟩) zy).trans e0, (s1.1.cell (p := ⟨w.heap.size, 1, none⟩) zy).trans e1, (s1.1.cell (p := ⟨w.heap.size, 2, none⟩) zy).trans e2, (s1.1.cell (p := ⟨w.heap.size, 3, none⟩) zy).trans e3, (s1.1.cell (p := ⟨w.heap.size, 4, none⟩) zy).trans e4⟩ (fun hHeld => ?_)
          clear hK
          obtain ⟨W1, hwW1⟩ : ∃ X, X = W0.alloc (.cells #[.int .i64 y0, .int .i64 y1, .int .i64 y2, .int .i64 y3, .int .i64 y4] 43) := ⟨_, rfl⟩
          rw [← hwW1] at s1 ⊢
          clear hwW1
          obtain ⟨yb, hnyb⟩ : ∃ q, q = W0.heap.size := ⟨_, rfl⟩
          rw [← hnyb] at s1 ⊢
          clear hnyb
          refine wpAnyH_ready (rs := [0, 10]) (by kernel_rfl) (by simp) ?_
          refine AllReadyH.cons rfl (fun K hK => ?_) ?_
          · go_simp
            have s2 := s1.empty
            refine hK.out _ _ ⟨(s2.1.cell (p := ⟨w.heap.size, 0, none⟩) zy).trans e0, (s2.1.cell (p := ⟨w.heap.size, 1, none⟩) zy).trans e1, (s2.1.cell (p := ⟨w.heap.size, 2, none⟩) zy).trans e2, (s2.1.cell (p := ⟨w.heap.size, 3, none⟩) zy).trans e3, (s2.1.cell (p := ⟨w.heap.size, 4, none⟩) zy).trans e4⟩ (fun hHeld => ?_)
            clear hK
            obtain ⟨W2, hwW2⟩ : ∃ X, X = W1.alloc (.cells #[] 43) := ⟨_, rfl⟩
            rw [← hwW2] at s2 ⊢
            clear hwW2
            obtain ⟨eb, hneb⟩ : ∃ q, q = W1.heap.size := ⟨_, rfl⟩
            rw [← hneb] at s2 ⊢
            clear hneb
            refine wpAnyH_ready (rs := [2, 10]) (by kernel_rfl) (by simp) ?_
            refine AllReadyH.cons rfl (fun K hK => ?_) ?_
            · refine step_append_reads (en := At.enc) (sz := 5) (by rfl) _ _ _ (by rfl) At.enc_len At.enc_one w6.heap.size 43 i0 _ 40 Try.underlying22 HI.out hz0 hz1 hz2 rfl (by decide) (.slice (some ⟨eb, 0, none⟩) 0 0) [] (by rfl) s2.row _ A c xs (by rfl) (RL.out.below s2.1) hnc (by simp [maxLen]; omega) (by simp; omega) s2.1.size ?_
              intro v3 W3 k1 k2 k3
              rw [List.nil_append] at k1
              have s3 := s2.app k1 k2 k3
              obtain ⟨A1, c1x, rfl, _, _⟩ := k1.shape
              clear k1 k2 k3
              refine hK.out _ _ ⟨(s3.1.cell (p := ⟨w.heap.size, 0, none⟩) zy).trans e0, (s3.1.cell (p := ⟨w.heap.size, 1, none⟩) zy).trans e1, (s3.1.cell (p := ⟨w.heap.size, 2, none⟩) zy).trans e2, (s3.1.cell (p := ⟨w.heap.size, 3, none⟩) zy).trans e3, (s3.1.cell (p := ⟨w.heap.size, 4, none⟩) zy).trans e4⟩ (fun hHeld => ?_)
              clear hK
              refine wpAnyH_ready (rs := [5, 10]) (by kernel_rfl) (by simp) ?_
              refine AllReadyH.cons rfl (fun K hK => ?_) ?_
              · refine step_append_reads (en := At.enc) (sz := 5) (by rfl) _ _ _ (by rfl) At.enc_len At.enc_one w6.heap.size 43 i0 _ 40 Try.underlying22 HI.out hz0 hz1 hz2 rfl (by decide) (.slice A1 xs.length c1x) xs (by rfl) s3.row _ (some ⟨yb, 0, none⟩) 1 [⟨y0, y1, y2, y3, y4⟩] (by rfl) s3.one (fun h => by cases h) (by simp [maxLen]; omega) (by simp; omega) s3.1.size ?_
                intro v4 W4 k1 k2 k3
                have s4 := s3.app k1 k2 k3
                obtain ⟨A2, c2x, rfl, _, _⟩ := k1.shape
                rw [HZ.out.1] at s4 ⊢
                clear k1 k2 k3
                refine hK.out _ _ ⟨(s4.1.cell (p := ⟨w.heap.size, 0, none⟩) zy).trans e0, (s4.1.cell (p := ⟨w.heap.size, 1, none⟩) zy).trans e1, (s4.1.cell (p := ⟨w.heap.size, 2, none⟩) zy).trans e2, (s4.1.cell (p := ⟨w.heap.size, 3, none⟩) zy).trans e3, (s4.1.cell (p := ⟨w.heap.size, 4, none⟩) zy).trans e4⟩ (fun hHeld => ?_)
                clear hK
                refine wpAnyH_ready (rs := [6, 10]) (by kernel_rfl) (by simp) ?_
                refine AllReadyH.cons rfl (fun K hK => ?_) ?_
                · go_simp
                  refine (CV.out _ _ _ (s4.row.reads At.enc_len)).mono ?_
                  rintro e W5 ⟨rfl, hb5⟩
                  have s5 := s4.call hb5
                  clear hb5
                  refine hK.out _ _ ⟨(s5.1.cell (p := ⟨w.heap.size, 0, none⟩) zy).trans e0, (s5.1.cell (p := ⟨w.heap.size, 1, none⟩) zy).trans e1, (s5.1.cell (p := ⟨w.heap.size, 2, none⟩) zy).trans e2, (s5.1.cell (p := ⟨w.heap.size, 3, none⟩) zy).trans e3, (s5.1.cell (p := ⟨w.heap.size, 4, none⟩) zy).trans e4⟩ (fun hHeld => ?_)
                  clear hK
                  refine wpAnyH_take (i := 7) (v := ?_) rfl (by kernel_rfl) (by kernel_rfl) (by kernel_rfl) (fun _ _ _ h => h) (Or.inl ⟨by rfl, ?_⟩) (by assumption) ?_
                  rotate_left
                  · intro w hSw
                    (try dsimp only at hSw)
                    go_simp
                    try with_reducible rfl
                  simp only [Act.put, List.setIfInBounds_toArray, List.set_cons_zero, List.set_cons_succ]
                  refine wpAnyH_take (i := 8) (v := ?_) rfl (by kernel_rfl) (by kernel_rfl) (by kernel_rfl) (fun _ _ _ h => h) (Or.inl ⟨by rfl, ?_⟩) (by assumption) ?_
                  rotate_left
                  · intro w hSw
                    (try dsimp only at hSw)
                    go_simp
                    try with_reducible rfl
                  simp only [Act.put, List.setIfInBounds_toArray, List.set_cons_zero, List.set_cons_succ]
                  refine wpAnyH_take (i := 9) (v := ?_) rfl (by kernel_rfl) (by kernel_rfl) (by kernel_rfl) (fun _ _ _ h => h) (Or.inl ⟨by rfl, ?_⟩) (by assumption) ?_
                  rotate_left
                  · intro w hSw
                    (try dsimp only at hSw)
                    go_simp
                    try with_reducible rfl
                  simp only [Act.put, List.setIfInBounds_toArray, List.set_cons_zero, List.set_cons_succ]
                  refine wpAnyH_ready (rs := [10]) (by kernel_rfl) (by simp) ?_
                  refine AllReadyH.cons rfl (fun K hK => ?_) ?_
                  · go_simp
                    have s6 := s5.box
                    refine hK.out _ _ ⟨(s6.1.cell (p := ⟨w.heap.size, 0, none⟩) zy).trans e0, (s6.1.cell (p := ⟨w.heap.size, 1, none⟩) zy).trans e1, (s6.1.cell (p := ⟨w.heap.size, 2, none⟩) zy).trans e2, (s6.1.cell (p := ⟨w.heap.size, 3, none⟩) zy).trans e3, (s6.1.cell (p := ⟨w.heap.size, 4, none⟩) zy).trans e4⟩ (fun hHeld => ?_)
                    clear hK
                    obtain ⟨W6, hwW6⟩ : ∃ X, X = W5.alloc (.cells #[.int .i64 0, .int .i64 0] 29) := ⟨_, rfl⟩
                    rw [← hwW6] at s6 ⊢
                    clear hwW6
                    obtain ⟨nb, hnnb⟩ : ∃ q, q = W5.heap.size := ⟨_, rfl⟩
                    rw [← hnnb] at s6 ⊢
                    clear hnnb
                    refine wpAnyH_ready (rs := [11]) (by kernel_rfl) (by simp) ?_
                    refine AllReadyH.cons rfl (fun K hK => ?_) ?_
                    · obtain ⟨b1, b2, b3, b4, b5, b6⟩ := s6.boxed
                      go_simp
                      have hBs : Below w6.heap.size w6 ((W6.setCell ⟨nb, 0, none⟩ (.int .i64 n2)).setCell ⟨nb, 1, none⟩ (.int .i64 d2)) := (s6.1.setCell (p := ⟨nb, 0, none⟩) b1 _).setCell (p := ⟨nb, 1, none⟩) b1 _
                      have hcs := setB (setA ⟨b3, b4⟩ (.int .i64 n2)) (.int .i64 d2)
                      have hsz : nb < ((W6.setCell ⟨nb, 0, none⟩ (.int .i64 n2)).setCell ⟨nb, 1, none⟩ (.int .i64 d2)).heap.size := by rw [World.size_setCell, World.size_setCell]; exact b2
                      have HCS := Lib.hid (And.intro hcs (And.intro hsz hBs))
                      clear hcs hsz
                      refine hK.out _ _ ⟨(hBs.cell (p := ⟨w.heap.size, 0, none⟩) zy).trans e0, (hBs.cell (p := ⟨w.heap.size, 1, none⟩) zy).trans e1, (hBs.cell (p := ⟨w.heap.size, 2, none⟩) zy).trans e2, (hBs.cell (p := ⟨w.heap.size, 3, none⟩) zy).trans e3, (hBs.cell (p := ⟨w.heap.size, 4, none⟩) zy).trans e4⟩ (fun hHeld => ?_)
                      clear hK
                      refine wpAnyH_ready (rs := [12]) (by kernel_rfl) (by simp) ?_
                      refine AllReadyH.cons rfl (fun K hK => ?_) ?_
                      · go_simp
                        refine hK.out _ _ (by assumption) (fun hHeld => ?_)
                        clear hK
                        refine wpAnyH_done (by kernel_rfl) ?_ _
                        go_wp2_with fail
                        go_meet
                        exact ⟨nb, rfl, rfl, ⟨HCS.out.1.1, HCS.out.2.1⟩, ⟨HCS.out.1.2, HCS.out.2.1⟩, HCS.out.2.2⟩
                      exact AllReadyH.nil
                    exact AllReadyH.nil
                  exact AllReadyH.nil
                refine AllReadyH.cons rfl (fun K hK => ?_) ?_
                · go_simp
                  have s5 := s4.box
                  refine hK.out _ _ ⟨(s5.1.cell (p := ⟨w.heap.size, 0, none⟩) zy).trans e0, (s5.1.cell (p := ⟨w.heap.size, 1, none⟩) zy).trans e1, (s5.1.cell (p := ⟨w.heap.size, 2, none⟩) zy).trans e2, (s5.1.cell (p := ⟨w.heap.size, 3, none⟩) zy).trans e3, (s5.1.cell (p := ⟨w.heap.size, 4, none⟩) zy).trans e4⟩ (fun hHeld => ?_)
                  clear hK
                  obtain ⟨W5, hwW5⟩ : ∃ X, X = W4.alloc (.cells #[.int .i64 0, .int .i64 0] 29) := ⟨_, rfl⟩
                  rw [← hwW5] at s5 ⊢
                  clear hwW5
                  obtain ⟨nb, hnnb⟩ : ∃ q, q = W4.heap.size := ⟨_, rfl⟩
                  rw [← hnnb] at s5 ⊢
                  clear hnnb
                  refine wpAnyH_ready (rs := [6]) (by kernel_rfl) (by simp) ?_
                  refine AllReadyH.cons rfl (fun K hK => ?_) ?_
                  · go_simp
                    refine (CV.out _ _ _ (s5.row.reads At.enc_len)).mono ?_
                    rintro e W6 ⟨rfl, hb6⟩
                    have s6 := s5.call hb6
                    clear hb6
                    refine hK.out _ _ ⟨(s6.1.cell (p := ⟨w.heap.size, 0, none⟩) zy).trans e0, (s6.1.cell (p := ⟨w.heap.size, 1, none⟩) zy).trans e1, (s6.1.cell (p := ⟨w.heap.size, 2, none⟩) zy).trans e2, (s6.1.cell (p := ⟨w.heap.size, 3, none⟩) zy).trans e3, (s6.1.cell (p := ⟨w.heap.size, 4, none⟩) zy).trans e4⟩ (fun hHeld => ?_)
                    clear hK
                    refine wpAnyH_take (i := 7) (v := ?_) rfl (by kernel_rfl) (by kernel_rfl) (by kernel_rfl) (fun _ _ _ h => h) (Or.inl ⟨by rfl, ?_⟩) (by assumption) ?_
                    rotate_left
                    · intro w hSw
                      (try dsimp only at hSw)
                      go_simp
                      try with_reducible rfl
                    simp only [Act.put, List.setIfInBounds_toArray, List.set_cons_zero, List.set_cons_succ]
                    refine wpAnyH_take (i := 8) (v := ?_) rfl (by kernel_rfl) (by kernel_rfl) (by kernel_rfl) (fun _ _ _ h => h) (Or.inl ⟨by rfl, ?_⟩) (by assumption) ?_
                    rotate_left
                    · intro w hSw
                      (try dsimp only at hSw)
                      go_simp
                      try with_reducible rfl
                    simp only [Act.put, List.setIfInBounds_toArray, List.set_cons_zero, List.set_cons_succ]
                    refine wpAnyH_take (i := 9) (v := ?_) rfl (by kernel_rfl) (by kernel_rfl) (by kernel_rfl) (fun _ _ _ h => h) (Or.inl ⟨by rfl, ?_⟩) (by assumption) ?_
                    rotate_left
                    · intro w hSw
                      (try dsimp only at hSw)
                      go_simp
                      try with_reducible rfl
                    simp only [Act.put, List.setIfInBounds_toArray, List.set_cons_zero, List.set_cons_succ]
                    refine wpAnyH_ready (rs := [11]) (by kernel_rfl) (by simp) ?_
                    refine AllReadyH.cons rfl (fun K hK => ?_) ?_
                    · obtain ⟨b1, b2, b3, b4, b5, b6⟩ := s6.boxed
                      go_simp
                      have hBs : Below w6.heap.size w6 ((W6.setCell ⟨nb, 0, none⟩ (.int .i64 n2)).setCell ⟨nb, 1, none⟩ (.int .i64 d2)) := (s6.1.setCell (p := ⟨nb, 0, none⟩) b1 _).setCell (p := ⟨nb, 1, none⟩) b1 _
                      have hcs := setB (setA ⟨b3, b4⟩ (.int .i64 n2)) (.int .i64 d2)
                      have hsz : nb < ((W6.setCell ⟨nb, 0, none⟩ (.int .i64 n2)).setCell ⟨nb, 1, none⟩ (.int .i64 d2)).heap.size := by rw [World.size_setCell, World.size_setCell]; exact b2
                      have HCS := Lib.hid (And.intro hcs (And.intro hsz hBs))
                      clear hcs hsz
                      refine hK.out _ _ ⟨(hBs.cell (p := ⟨w.heap.size, 0, none⟩) zy).trans e0, (hBs.cell (p := ⟨w.heap.size, 1, none⟩) zy).trans e1, (hBs.cell (p := ⟨w.heap.size, 2, none⟩) zy).trans e2, (hBs.cell (p := ⟨w.heap.size, 3, none⟩) zy).trans e3, (hBs.cell (p := ⟨w.heap.size, 4, none⟩) zy).trans e4⟩ (fun hHeld => ?_)
                      clear hK
                      refine wpAnyH_ready (rs := [12]) (by kernel_rfl) (by simp) ?_
                      refine AllReadyH.cons rfl (fun K hK => ?_) ?_
                      · go_simp
                        refine hK.out _ _ (by assumption) (fun hHeld => ?_)
                        clear hK
                        refine wpAnyH_done (by kernel_rfl) ?_ _
                        go_wp2_with fail
                        go_meet
                        exact ⟨nb, rfl, rfl, ⟨HCS.out.1.1, HCS.out.2.1⟩, ⟨HCS.out.1.2, HCS.out.2.1⟩, HCS.out.2.2⟩
                      exact AllReadyH.nil
                    exact AllReadyH.nil
                  exact AllReadyH.nil
                exact AllReadyH.nil
              refine AllReadyH.cons rfl (fun K hK => ?_) ?_
              · go_simp
                have s4 := s3.box
                refine hK.out _ _ ⟨(s4.1.cell (p := ⟨w.heap.size, 0, none⟩) zy).trans e0, (s4.1.cell (p := ⟨w.heap.size, 1, none⟩) zy).trans e1, (s4.1.cell (p := ⟨w.heap.size, 2, none⟩) zy).trans e2, (s4.1.cell (p := ⟨w.heap.size, 3, none⟩) zy).trans e3, (s4.1.cell (p := ⟨w.heap.size, 4, none⟩) zy).trans e4⟩ (fun hHeld => ?_)
                clear hK
                obtain ⟨W4, hwW4⟩ : ∃ X, X = W3.alloc (.cells #[.int .i64 0, .int .i64 0] 29) := ⟨_, rfl⟩
                rw [← hwW4] at s4 ⊢
                clear hwW4
                obtain ⟨nb, hnnb⟩ : ∃ q, q = W3.heap.size := ⟨_, rfl⟩
                rw [← hnnb] at s4 ⊢
                clear hnnb
                refine wpAnyH_ready (rs := [5]) (by kernel_rfl) (by simp) ?_
                refine AllReadyH.cons rfl (fun K hK => ?_) ?_
                · refine step_append_reads (en := At.enc) (sz := 5) (by rfl) _ _ _ (by rfl) At.enc_len At.enc_one w6.heap.size 43 i0 _ 40 Try.underlying22 HI.out hz0 hz1 hz2 rfl (by decide) (.slice A1 xs.length c1x) xs (by rfl) s4.row _ (some ⟨yb, 0, none⟩) 1 [⟨y0, y1, y2, y3, y4⟩] (by rfl) s4.one (fun h => by cases h) (by simp [maxLen]; omega) (by simp; omega) s4.1.size ?_
                  intro v5 W5 k1 k2 k3
                  have s5 := s4.app k1 k2 k3
                  obtain ⟨A2, c2x, rfl, _, _⟩ := k1.shape
                  rw [HZ.out.1] at s5 ⊢
                  clear k1 k2 k3
                  refine hK.out _ _ ⟨(s5.1.cell (p := ⟨w.heap.size, 0, none⟩) zy).trans e0, (s5.1.cell (p := ⟨w.heap.size, 1, none⟩) zy).trans e1, (s5.1.cell (p := ⟨w.heap.size, 2, none⟩) zy).trans e2, (s5.1.cell (p := ⟨w.heap.size, 3, none⟩) zy).trans e3, (s5.1.cell (p := ⟨w.heap.size, 4, none⟩) zy).trans e4⟩ (fun hHeld => ?_)
                  clear hK
                  refine wpAnyH_ready (rs := [6]) (by kernel_rfl) (by simp) ?_
                  refine AllReadyH.cons rfl (fun K hK => ?_) ?_
                  · go_simp
                    refine (CV.out _ _ _ (s5.row.reads At.enc_len)).mono ?_
                    rintro e W6 ⟨rfl, hb6⟩
                    have s6 := s5.call hb6
                    clear hb6
                    refine hK.out _ _ ⟨(s6.1.cell (p := ⟨w.heap.size, 0, none⟩) zy).trans e0, (s6.1.cell (p := ⟨w.heap.size, 1, none⟩) zy).trans e1, (s6.1.cell (p := ⟨w.heap.size, 2, none⟩) zy).trans e2, (s6.1.cell (p := ⟨w.heap.size, 3, none⟩) zy).trans e3, (s6.1.cell (p := ⟨w.heap.size, 4, none⟩) zy).trans e4⟩ (fun hHeld => ?_)
                    clear hK
                    refine wpAnyH_take (i := 7) (v := ?_) rfl (by kernel_rfl) (by kernel_rfl) (by kernel_rfl) (fun _ _ _ h => h) (Or.inl ⟨by rfl, ?_⟩) (by assumption) ?_
                    rotate_left
                    · intro w hSw
                      (try dsimp only at hSw)
                      go_simp
                      try with_reducible rfl
                    simp only [Act.put, List.setIfInBounds_toArray, List.set_cons_zero, List.set_cons_succ]
                    refine wpAnyH_take (i := 8) (v := ?_) rfl (by kernel_rfl) (by kernel_rfl) (by kernel_rfl) (fun _ _ _ h => h) (Or.inl ⟨by rfl, ?_⟩) (by assumption) ?_
                    rotate_left
                    · intro w hSw
                      (try dsimp only at hSw)
                      go_simp
                      try with_reducible rfl
                    simp only [Act.put, List.setIfInBounds_toArray, List.set_cons_zero, List.set_cons_succ]
                    refine wpAnyH_take (i := 9) (v := ?_) rfl (by kernel_rfl) (by kernel_rfl) (by kernel_rfl) (fun _ _ _ h => h) (Or.inl ⟨by rfl, ?_⟩) (by assumption) ?_
                    rotate_left
                    · intro w hSw
                      (try dsimp only at hSw)
                      go_simp
                      try with_reducible rfl
                    simp only [Act.put, List.setIfInBounds_toArray, List.set_cons_zero, List.set_cons_succ]
                    refine wpAnyH_ready (rs := [11]) (by kernel_rfl) (by simp) ?_
                    refine AllReadyH.cons rfl (fun K hK => ?_) ?_
                    · obtain ⟨b1, b2, b3, b4, b5, b6⟩ := s6.boxed
                      go_simp
                      have hBs : Below w6.heap.size w6 ((W6.setCell ⟨nb, 0, none⟩ (.int .i64 n2)).setCell ⟨nb, 1, none⟩ (.int .i64 d2)) := (s6.1.setCell (p := ⟨nb, 0, none⟩) b1 _).setCell (p := ⟨nb, 1, none⟩) b1 _
                      have hcs := setB (setA ⟨b3, b4⟩ (.int .i64 n2)) (.int .i64 d2)
                      have hsz : nb < ((W6.setCell ⟨nb, 0, none⟩ (.int .i64 n2)).setCell ⟨nb, 1, none⟩ (.int .i64 d2)).heap.size := by rw [World.size_setCell, World.size_setCell]; exact b2
                      have HCS := Lib.hid (And.intro hcs (And.intro hsz hBs))
                      clear hcs hsz
                      refine hK.out _ _ ⟨(hBs.cell (p := ⟨w.heap.size, 0, none⟩) zy).trans e0, (hBs.cell (p := ⟨w.heap.size, 1, none⟩) zy).trans e1, (hBs.cell (p := ⟨w.heap.size, 2, none⟩) zy).trans e2, (hBs.cell (p := ⟨w.heap.size, 3, none⟩) zy).trans e3, (hBs.cell (p := ⟨w.heap.size, 4, none⟩) zy).trans e4⟩ (fun hHeld => ?_)
                      clear hK
                      refine wpAnyH_ready (rs := [12]) (by kernel_rfl) (by simp) ?_
                      refine AllReadyH.cons rfl (fun K hK => ?_) ?_
                      · go_simp
                        refine hK.out _ _ (by assumption) (fun hHeld => ?_)
                        clear hK
                        refine wpAnyH_done (by kernel_rfl) ?_ _
                        go_wp2_with fail
                        go_meet
                        exact ⟨nb, rfl, rfl, ⟨HCS.out.1.1, HCS.out.2.1⟩, ⟨HCS.out.1.2, HCS.out.2.1⟩, HCS.out.2.2⟩
                      exact AllReadyH.nil
                    exact AllReadyH.nil
                  exact AllReadyH.nil
                exact AllReadyH.nil
              exact AllReadyH.nil
            refine AllReadyH.cons rfl (fun K hK => ?_) ?_
            · go_simp
              have s3 := s2.box
              refine hK.out _ _ ⟨(s3.1.cell (p := ⟨w.heap.size, 0, none⟩) zy).trans e0, (s3.1.cell (p := ⟨w.heap.size, 1, none⟩) zy).trans e1, (s3.1.cell (p := ⟨w.heap.size, 2, none⟩) zy).trans e2, (s3.1.cell (p := ⟨w.heap.size, 3, none⟩) zy).trans e3, (s3.1.cell (p := ⟨w.heap.size, 4, none⟩) zy).trans e4⟩ (fun hHeld => ?_)
              clear hK
              obtain ⟨W3, hwW3⟩ : ∃ X, X = W2.alloc (.cells #[.int .i64 0, .int .i64 0] 29) := ⟨_, rfl⟩
              rw [← hwW3] at s3 ⊢
              clear hwW3
              obtain ⟨nb, hnnb⟩ : ∃ q, q = W2.heap.size := ⟨_, rfl⟩
              rw [← hnnb] at s3 ⊢
              clear hnnb
              refine wpAnyH_ready (rs := [2]) (by kernel_rfl) (by simp) ?_
              refine AllReadyH.cons rfl (fun K hK => ?_) ?_
              · refine step_append_reads (en := At.enc) (sz := 5) (by rfl) _ _ _ (by rfl) At.enc_len At.enc_one w6.heap.size 43 i0 _ 40 Try.underlying22 HI.out hz0 hz1 hz2 rfl (by decide) (.slice (some ⟨eb, 0, none⟩) 0 0) [] (by rfl) s3.row _ A c xs (by rfl) (RL.out.below s3.1) hnc (by simp [maxLen]; omega) (by simp; omega) s3.1.size ?_
                intro v4 W4 k1 k2 k3
                rw [List.nil_append] at k1
                have s4 := s3.app k1 k2 k3
                obtain ⟨A1, c1x, rfl, _, _⟩ := k1.shape
                clear k1 k2 k3
                refine hK.out _ _ ⟨(s4.1.cell (p := ⟨w.heap.size, 0, none⟩) zy).trans e0, (s4.1.cell (p := ⟨w.heap.size, 1, none⟩) zy).trans e1, (s4.1.cell (p := ⟨w.heap.size, 2, none⟩) zy).trans e2, (s4.1.cell (p := ⟨w.heap.size, 3, none⟩) zy).trans e3, (s4.1.cell (p := ⟨w.heap.size, 4, none⟩) zy).trans e4⟩ (fun hHeld => ?_)
                clear hK
                refine wpAnyH_ready (rs := [5]) (by kernel_rfl) (by simp) ?_
                refine AllReadyH.cons rfl (fun K hK => ?_) ?_
                · refine step_append_reads (en := At.enc) (sz := 5) (by rfl) _ _ _ (by rfl) At.enc_len At.enc_one w6.heap.size 43 i0 _ 40 Try.underlying22 HI.out hz0 hz1 hz2 rfl (by decide) (.slice A1 xs.length c1x) xs (by rfl) s4.row _ (some ⟨yb, 0, none⟩) 1 [⟨y0, y1, y2, y3, y4⟩] (by rfl) s4.one (fun h => by cases h) (by simp [maxLen]; omega) (by simp; omega) s4.1.size ?_
                  intro v5 W5 k1 k2 k3
                  have s5 := s4.app k1 k2 k3
                  obtain ⟨A2, c2x, rfl, _, _⟩ := k1.shape
                  rw [HZ.out.1] at s5 ⊢
                  clear k1 k2 k3
                  refine hK.out _ _ ⟨(s5.1.cell (p := ⟨w.heap.size, 0, none⟩) zy).trans e0, (s5.1.cell (p := ⟨w.heap.size, 1, none⟩) zy).trans e1, (s5.1.cell (p := ⟨w.heap.size, 2, none⟩) zy).trans e2, (s5.1.cell (p := ⟨w.heap.size, 3, none⟩) zy).trans e3, (s5.1.cell (p := ⟨w.heap.size, 4, none⟩) zy).trans e4⟩ (fun hHeld => ?_)
                  clear hK
                  refine wpAnyH_ready (rs := [6]) (by kernel_rfl) (by simp) ?_
                  refine AllReadyH.cons rfl (fun K hK => ?_) ?_
                  · go_simp
                    refine (CV.out _ _ _ (s5.row.reads At.enc_len)).mono ?_
                    rintro e W6 ⟨rfl, hb6⟩
                    have s6 := s5.call hb6
                    clear hb6
                    refine hK.out _ _ ⟨(s6.1.cell (p := ⟨w.heap.size, 0, none⟩) zy).trans e0, (s6.1.cell (p := ⟨w.heap.size, 1, none⟩) zy).trans e1, (s6.1.cell (p := ⟨w.heap.size, 2, none⟩) zy).trans e2, (s6.1.cell (p := ⟨w.heap.size, 3, none⟩) zy).trans e3, (s6.1.cell (p := ⟨w.heap.size, 4, none⟩) zy).trans e4⟩ (fun hHeld => ?_)
                    clear hK
                    refine wpAnyH_take (i := 7) (v := ?_) rfl (by kernel_rfl) (by kernel_rfl) (by kernel_rfl) (fun _ _ _ h => h) (Or.inl ⟨by rfl, ?_⟩) (by assumption) ?_
                    rotate_left
                    · intro w hSw
                      (try dsimp only at hSw)
                      go_simp
                      try with_reducible rfl
                    simp only [Act.put, List.setIfInBounds_toArray, List.set_cons_zero, List.set_cons_succ]
                    refine wpAnyH_take (i := 8) (v := ?_) rfl (by kernel_rfl) (by kernel_rfl) (by kernel_rfl) (fun _ _ _ h => h) (Or.inl ⟨by rfl, ?_⟩) (by assumption) ?_
                    rotate_left
                    · intro w hSw
                      (try dsimp only at hSw)
                      go_simp
                      try with_reducible rfl
                    simp only [Act.put, List.setIfInBounds_toArray, List.set_cons_zero, List.set_cons_succ]
                    refine wpAnyH_take (i := 9) (v := ?_) rfl (by kernel_rfl) (by kernel_rfl) (by kernel_rfl) (fun _ _ _ h => h) (Or.inl ⟨by rfl, ?_⟩) (by assumption) ?_
                    rotate_left
                    · intro w hSw
                      (try dsimp only at hSw)
                      go_simp
                      try with_reducible rfl
                    simp only [Act.put, List.setIfInBounds_toArray, List.set_cons_zero, List.set_cons_succ]
                    refine wpAnyH_ready (rs := [11]) (by kernel_rfl) (by simp) ?_
                    refine AllReadyH.cons rfl (fun K hK => ?_) ?_
                    · obtain ⟨b1, b2, b3, b4, b5, b6⟩ := s6.boxed
                      go_simp
                      have hBs : Below w6.heap.size w6 ((W6.setCell ⟨nb, 0, none⟩ (.int .i64 n2)).setCell ⟨nb, 1, none⟩ (.int .i64 d2)) := (s6.1.setCell (p := ⟨nb, 0, none⟩) b1 _).setCell (p := ⟨nb, 1, none⟩) b1 _
                      have hcs := setB (setA ⟨b3, b4⟩ (.int .i64 n2)) (.int .i64 d2)
                      have hsz : nb < ((W6.setCell ⟨nb, 0, none⟩ (.int .i64 n2)).setCell ⟨nb, 1, none⟩ (.int .i64 d2)).heap.size := by rw [World.size_setCell, World.size_setCell]; exact b2
                      have HCS := Lib.hid (And.intro hcs (And.intro hsz hBs))
                      clear hcs hsz
                      refine hK.out _ _ ⟨(hBs.cell (p := ⟨w.heap.size, 0, none⟩) zy).trans e0, (hBs.cell (p := ⟨w.heap.size, 1, none⟩) zy).trans e1, (hBs.cell (p := ⟨w.heap.size, 2, none⟩) zy).trans e2, (hBs.cell (p := ⟨w.heap.size, 3, none⟩) zy).trans e3, (hBs.cell (p := ⟨w.heap.size, 4, none⟩) zy).trans e4⟩ (fun hHeld => ?_)
                      clear hK
                      refine wpAnyH_ready (rs := [12]) (by kernel_rfl) (by simp) ?_
                      refine AllReadyH.cons rfl (fun K hK => ?_) ?_
                      · go_simp
                        refine hK.out _ _ (by assumption) (fun hHeld => ?_)
                        clear hK
                        refine wpAnyH_done (by kernel_rfl) ?_ _
                        go_wp2_with fail
                        go_meet
                        exact ⟨nb, rfl, rfl, ⟨HCS.out.1.1, HCS.out.2.1⟩, ⟨HCS.out.1.2, HCS.out.2.1⟩, HCS.out.2.2⟩
                      exact AllReadyH.nil
                    exact AllReadyH.nil
                  exact AllReadyH.nil
                exact AllReadyH.nil
              exact AllReadyH.nil
            exact AllReadyH.nil
          refine AllReadyH.cons rfl (fun K hK => ?_) ?_
          · go_simp
            have s2 := s1.box
            refine hK.out _ _ ⟨(s2.1.cell (p := ⟨w.heap.size, 0, none⟩) zy).trans e0, (s2.1.cell (p := ⟨w.heap.size, 1, none⟩) zy).trans e1, (s2.1.cell (p := ⟨w.heap.size, 2, none⟩) zy).trans e2, (s2.1.cell (p := ⟨w.heap.size, 3, none⟩) zy).trans e3, (s2.1.cell (p := ⟨w.heap.size, 4, none⟩) zy).trans e4⟩ (fun hHeld => ?_)
            clear hK
            obtain ⟨W2, hwW2⟩ : ∃ X, X = W1.alloc (.cells #[.int .i64 0, .int .i64 0] 29) := ⟨_, rfl⟩
            rw [← hwW2] at s2 ⊢
            clear hwW2
            obtain ⟨nb, hnnb⟩ : ∃ q, q = W1.heap.size := ⟨_, rfl⟩
            rw [← hnnb] at s2 ⊢
            clear hnnb
            refine wpAnyH_ready (rs := [0]) (by kernel_rfl) (by simp) ?_
            refine AllReadyH.cons rfl (fun K hK => ?_) ?_
            · go_simp
              have s3 := s2.empty
              refine hK.out _ _ ⟨(s3.1.cell (p := ⟨w.heap.size, 0, none⟩) zy).trans e0, (s3.1.cell (p := ⟨w.heap.size, 1, none⟩) zy).trans e1, (s3.1.cell (p := ⟨w.heap.size, 2, none⟩) zy).trans e2, (s3.1.cell (p := ⟨w.heap.size, 3, none⟩) zy).trans e3, (s3.1.cell (p := ⟨w.heap.size, 4, none⟩) zy).trans e4⟩ (fun hHeld => ?_)
              clear hK
              obtain ⟨W3, hwW3⟩ : ∃ X, X = W2.alloc (.cells #[] 43) := ⟨_, rfl⟩
              rw [← hwW3] at s3 ⊢
              clear hwW3
              obtain ⟨eb, hneb⟩ : ∃ q, q = W2.heap.size := ⟨_, rfl⟩
              rw [← hneb] at s3 ⊢
              clear hneb
              refine wpAnyH_ready (rs := [2]) (by kernel_rfl) (by simp) ?_
              refine AllReadyH.cons rfl (fun K hK => ?_) ?_
              · refine step_append_reads (en := At.enc) (sz := 5) (by rfl) _ _ _ (by rfl) At.enc_len At.enc_one w6.heap.size 43 i0 _ 40 Try.underlying22 HI.out hz0 hz1 hz2 rfl (by decide) (.slice (some ⟨eb, 0, none⟩) 0 0) [] (by rfl) s3.row _ A c xs (by rfl) (RL.out.below s3.1) hnc (by simp [maxLen]; omega) (by simp; omega) s3.1.size ?_
                intro v4 W4 k1 k2 k3
                rw [List.nil_append] at k1
                have s4 := s3.app k1 k2 k3
                obtain ⟨A1, c1x, rfl, _, _⟩ := k1.shape
                clear k1 k2 k3
                refine hK.out _ _ ⟨(s4.1.cell (p := ⟨w.heap.size, 0, none⟩) zy).trans e0, (s4.1.cell (p := ⟨w.heap.size, 1, none⟩) zy).trans e1, (s4.1.cell (p := ⟨w.heap.size, 2, none⟩) zy).trans e2, (s4.1.cell (p := ⟨w.heap.size, 3, none⟩) zy).trans e3, (s4.1.cell (p := ⟨w.heap.size, 4, none⟩) zy).trans e4⟩ (fun hHeld => ?_)
                clear hK
                refine wpAnyH_ready (rs := [5]) (by kernel_rfl) (by simp) ?_
                refine AllReadyH.cons rfl (fun K hK => ?_) ?_
                · refine step_append_reads (en := At.enc) (sz := 5) (by rfl) _ _ _ (by rfl) At.enc_len At.enc_one w6.heap.size 43 i0 _ 40 Try.underlying22 HI.out hz0 hz1 hz2 rfl (by decide) (.slice A1 xs.length c1x) xs (by rfl) s4.row _ (some ⟨yb, 0, none⟩) 1 [⟨y0, y1, y2, y3, y4⟩] (by rfl) s4.one (fun h => by cases h) (by simp [maxLen]; omega) (by simp; omega) s4.1.size ?_
                  intro v5 W5 k1 k2 k3
                  have s5 := s4.app k1 k2 k3
                  obtain ⟨A2, c2x, rfl, _, _⟩ := k1.shape
                  rw [HZ.out.1] at s5 ⊢
                  clear k1 k2 k3
                  refine hK.out _ _ ⟨(s5.1.cell (p := ⟨w.heap.size, 0, none⟩) zy).trans e0, (s5.1.cell (p := ⟨w.heap.size, 1, none⟩) zy).trans e1, (s5.1.cell (p := ⟨w.heap.size, 2, none⟩) zy).trans e2, (s5.1.cell (p := ⟨w.heap.size, 3, none⟩) zy).trans e3, (s5.1.cell (p := ⟨w.heap.size, 4, none⟩) zy).trans e4⟩ (fun hHeld => ?_)
                  clear hK
                  refine wpAnyH_ready (rs := [6]) (by kernel_rfl) (by simp) ?_
                  refine AllReadyH.cons rfl (fun K hK => ?_) ?_
                  · go_simp
                    refine (CV.out _ _ _ (s5.row.reads At.enc_len)).mono ?_
                    rintro e W6 ⟨rfl, hb6⟩
                    have s6 := s5.call hb6
                    clear hb6
                    refine hK.out _ _ ⟨(s6.1.cell (p := ⟨w.heap.size, 0, none⟩) zy).trans e0, (s6.1.cell (p := ⟨w.heap.size, 1, none⟩) zy).trans e1, (s6.1.cell (p := ⟨w.heap.size, 2, none⟩) zy).trans e2, (s6.1.cell (p := ⟨w.heap.size, 3, none⟩) zy).trans e3, (s6.1.cell (p := ⟨w.heap.size, 4, none⟩) zy).trans e4⟩ (fun hHeld => ?_)
                    clear hK
                    refine wpAnyH_take (i := 7) (v := ?_) rfl (by kernel_rfl) (by kernel_rfl) (by kernel_rfl) (fun _ _ _ h => h) (Or.inl ⟨by rfl, ?_⟩) (by assumption) ?_
                    rotate_left
                    · intro w hSw
                      (try dsimp only at hSw)
                      go_simp
                      try with_reducible rfl
                    simp only [Act.put, List.setIfInBounds_toArray, List.set_cons_zero, List.set_cons_succ]
                    refine wpAnyH_take (i := 8) (v := ?_) rfl (by kernel_rfl) (by kernel_rfl) (by kernel_rfl) (fun _ _ _ h => h) (Or.inl ⟨by rfl, ?_⟩) (by assumption) ?_
                    rotate_left
                    · intro w hSw
                      (try dsimp only at hSw)
                      go_simp
                      try with_reducible rfl
                    simp only [Act.put, List.setIfInBounds_toArray, List.set_cons_zero, List.set_cons_succ]
                    refine wpAnyH_take (i := 9) (v := ?_) rfl (by kernel_rfl) (by kernel_rfl) (by kernel_rfl) (fun _ _ _ h => h) (Or.inl ⟨by rfl, ?_⟩) (by assumption) ?_
                    rotate_left
                    · intro w hSw
                      (try dsimp only at hSw)
                      go_simp
                      try with_reducible rfl
                    simp only [Act.put, List.setIfInBounds_toArray, List.set_cons_zero, List.set_cons_succ]
                    refine wpAnyH_ready (rs := [11]) (by kernel_rfl) (by simp) ?_
                    refine AllReadyH.cons rfl (fun K hK => ?_) ?_
                    · obtain ⟨b1, b2, b3, b4, b5, b6⟩ := s6.boxed
                      go_simp
                      have hBs : Below w6.heap.size w6 ((W6.setCell ⟨nb, 0, none⟩ (.int .i64 n2)).setCell ⟨nb, 1, none⟩ (.int .i64 d2)) := (s6.1.setCell (p := ⟨nb, 0, none⟩) b1 _).setCell (p := ⟨nb, 1, none⟩) b1 _
                      have hcs := setB (setA ⟨b3, b4⟩ (.int .i64 n2)) (.int .i64 d2)
                      have hsz : nb < ((W6.setCell ⟨nb, 0, none⟩ (.int .i64 n2)).setCell ⟨nb, 1, none⟩ (.int .i64 d2)).heap.size := by rw [World.size_setCell, World.size_setCell]; exact b2
                      have HCS := Lib.hid (And.intro hcs (And.intro hsz hBs))
                      clear hcs hsz
                      refine hK.out _ _ ⟨(hBs.cell (p := ⟨w.heap.size, 0, none⟩) zy).trans e0, (hBs.cell (p := ⟨w.heap.size, 1, none⟩) zy).trans e1, (hBs.cell (p := ⟨w.heap.size, 2, none⟩) zy).trans e2, (hBs.cell (p := ⟨w.heap.size, 3, none⟩) zy).trans e3, (hBs.cell (p := ⟨w.heap.size, 4, none⟩) zy).trans e4⟩ (fun hHeld => ?_)
                      clear hK
                      refine wpAnyH_ready (rs := [12]) (by kernel_rfl) (by simp) ?_
                      refine AllReadyH.cons rfl (fun K hK => ?_) ?_
                      · go_simp
                        refine hK.out _ _ (by assumption) (fun hHeld => ?_)
                        clear hK
                        refine wpAnyH_done (by kernel_rfl) ?_ _
                        go_wp2_with fail
                        go_meet
                        exact ⟨nb, rfl, rfl, ⟨HCS.out.1.1, HCS.out.2.1⟩, ⟨HCS.out.1.2, HCS.out.2.1⟩, HCS.out.2.2⟩
                      exact AllReadyH.nil
                    exact AllReadyH.nil
                  exact AllReadyH.nil
                exact AllReadyH.nil
              exact AllReadyH.nil
            exact AllReadyH.nil
          exact AllReadyH.nil
        refine AllReadyH.cons rfl (fun K hK => ?_) ?_
        · go_simp
          have s1 := s0.box
          refine hK.out _ _ ⟨(s1.1.cell (p := ⟨w.heap.size, 0, none⟩) zy).trans e0, (s1.1.cell (p := ⟨w.heap.size, 1, none⟩) zy).trans e1, (s1.1.cell (p := ⟨w.heap.size, 2, none⟩) zy).trans e2, (s1.1.cell (p := ⟨w.heap.size, 3, none⟩) zy).trans e3, (s1.1.cell (p := ⟨w.heap.size, 4, none⟩) zy).trans e4⟩ (fun hHeld => ?_)
          clear hK
          obtain ⟨W1, hwW1⟩ : ∃ X, X = W0.alloc (.cells #[.int .i64 0, .int .i64 0] 29) := ⟨_, rfl⟩
          rw [← hwW1] at s1 ⊢
          clear hwW1
          obtain ⟨nb, hnnb⟩ : ∃ q, q = W0.heap.size := ⟨_, rfl⟩
          rw [← hnnb] at s1 ⊢
          clear hnnb
          refine wpAnyH_ready (rs := [0, 4]) (by kernel_rfl) (by simp) ?_
          refine AllReadyH.cons rfl (fun K hK => ?_) ?_
          · go_simp
            have s2 := s1.empty
            refine hK.out _ _ ⟨(s2.1.cell (p := ⟨w.heap.size, 0, none⟩) zy).trans e0, (s2.1.cell (p := ⟨w.heap.size, 1, none⟩) zy).trans e1, (s2.1.cell (p := ⟨w.heap.size, 2, none⟩) zy).trans e2, (s2.1.cell (p := ⟨w.heap.size, 3, none⟩) zy).trans e3, (s2.1.cell (p := ⟨w.heap.size, 4, none⟩) zy).trans e4⟩ (fun hHeld => ?_)
            clear hK
            obtain ⟨W2, hwW2⟩ : ∃ X, X = W1.alloc (.cells #[] 43) := ⟨_, rfl⟩
            rw [← hwW2] at s2 ⊢
            clear hwW2
            obtain ⟨eb, hneb⟩ : ∃ q, q = W1.heap.size := ⟨_, rfl⟩
            rw [← hneb] at s2 ⊢
            clear hneb
            refine wpAnyH_ready (rs := [2, 4]) (by kernel_rfl) (by simp) ?_
            refine AllReadyH.cons rfl (fun K hK => ?_) ?_
            · refine step_append_reads (en := At.enc) (sz := 5) (by rfl) _ _ _ (by rfl) At.enc_len At.enc_one w6.heap.size 43 i0 _ 40 Try.underlying22 HI.out hz0 hz1 hz2 rfl (by decide) (.slice (some ⟨eb, 0, none⟩) 0 0) [] (by rfl) s2.row _ A c xs (by rfl) (RL.out.below s2.1) hnc (by simp [maxLen]; omega) (by simp; omega) s2.1.size ?_
              intro v3 W3 k1 k2 k3
              rw [List.nil_append] at k1
              have s3 := s2.app k1 k2 k3
              obtain ⟨A1, c1x, rfl, _, _⟩ := k1.shape
              clear k1 k2 k3
              refine hK.out _ _ ⟨(s3.1.cell (p := ⟨w.heap.size, 0, none⟩) zy).trans e0, (s3.1.cell (p := ⟨w.heap.size, 1, none⟩) zy).trans e1, (s3.1.cell (p := ⟨w.heap.size, 2, none⟩) zy).trans e2, (s3.1.cell (p := ⟨w.heap.size, 3, none⟩) zy).trans e3, (s3.1.cell (p := ⟨w.heap.size, 4, none⟩) zy).trans e4⟩ (fun hHeld => ?_)
              clear hK
              refine wpAnyH_ready (rs := [4]) (by kernel_rfl) (by simp) ?_
              refine AllReadyH.cons rfl (fun K hK => ?_) ?_
              · go_simp
                have s4 := s3.lit
                refine hK.out _ _ ⟨(s4.1.cell (p := ⟨w.heap.size, 0, none⟩) zy).trans e0, (s4.1.cell (p := ⟨w.heap.size, 1, none⟩) zy).trans e1, (s4.1.cell (p := ⟨w.heap.size, 2, none⟩) zy).trans e2, (s4.1.cell (p := ⟨w.heap.size, 3, none⟩) zy).trans e3, (s4.1.cell (p := ⟨w.heap.size, 4, none⟩) zy).trans e4⟩ (fun hHeld => ?_)
                clear hK
                obtain ⟨W4, hwW4⟩ : ∃ X, X = W3.alloc (.cells #[.int .i64 y0, .int .i64 y1, .int .i64 y2, .int .i64 y3, .int .i64 y4] 43) := ⟨_, rfl⟩
                rw [← hwW4] at s4 ⊢
                clear hwW4
                obtain ⟨yb, hnyb⟩ : ∃ q, q = W3.heap.size := ⟨_, rfl⟩
                rw [← hnyb] at s4 ⊢
                clear hnyb
                refine wpAnyH_ready (rs := [5]) (by kernel_rfl) (by simp) ?_
                refine AllReadyH.cons rfl (fun K hK => ?_) ?_
                · refine step_append_reads (en := At.enc) (sz := 5) (by rfl) _ _ _ (by rfl) At.enc_len At.enc_one w6.heap.size 43 i0 _ 40 Try.underlying22 HI.out hz0 hz1 hz2 rfl (by decide) (.slice A1 xs.length c1x) xs (by rfl) s4.row _ (some ⟨yb, 0, none⟩) 1 [⟨y0, y1, y2, y3, y4⟩] (by rfl) s4.one (fun h => by cases h) (by simp [maxLen]; omega) (by simp; omega) s4.1.size ?_
                  intro v5 W5 k1 k2 k3
                  have s5 := s4.app k1 k2 k3
                  obtain ⟨A2, c2x, rfl, _, _⟩ := k1.shape
                  rw [HZ.out.1] at s5 ⊢
                  clear k1 k2 k3
                  refine hK.out _ _ ⟨(s5.1.cell (p := ⟨w.heap.size, 0, none⟩) zy).trans e0, (s5.1.cell (p := ⟨w.heap.size, 1, none⟩) zy).trans e1, (s5.1.cell (p := ⟨w.heap.size, 2, none⟩) zy).trans e2, (s5.1.cell (p := ⟨w.heap.size, 3, none⟩) zy).trans e3, (s5.1.cell (p := ⟨w.heap.size, 4, none⟩) zy).trans e4⟩ (fun hHeld => ?_)
                  clear hK
                  refine wpAnyH_ready (rs := [6]) (by kernel_rfl) (by simp) ?_
                  refine AllReadyH.cons rfl (fun K hK => ?_) ?_
                  · go_simp
                    refine (CV.out _ _ _ (s5.row.reads At.enc_len)).mono ?_
                    rintro e W6 ⟨rfl, hb6⟩
                    have s6 := s5.call hb6
                    clear hb6
                    refine hK.out _ _ ⟨(s6.1.cell (p := ⟨w.heap.size, 0, none⟩) zy).trans e0, (s6.1.cell (p := ⟨w.heap.size, 1, none⟩) zy).trans e1, (s6.1.cell (p := ⟨w.heap.size, 2, none⟩) zy).trans e2, (s6.1.cell (p := ⟨w.heap.size, 3, none⟩) zy).trans e3, (s6.1.cell (p := ⟨w.heap.size, 4, none⟩) zy).trans e4⟩ (fun hHeld => ?_)
                    clear hK
                    refine wpAnyH_take (i := 7) (v := ?_) rfl (by kernel_rfl) (by kernel_rfl) (by kernel_rfl) (fun _ _ _ h => h) (Or.inl ⟨by rfl, ?_⟩) (by assumption) ?_
                    rotate_left
                    · intro w hSw
                      (try dsimp only at hSw)
                      go_simp
                      try with_reducible rfl
                    simp only [Act.put, List.setIfInBounds_toArray, List.set_cons_zero, List.set_cons_succ]
                    refine wpAnyH_take (i := 8) (v := ?_) rfl (by kernel_rfl) (by kernel_rfl) (by kernel_rfl) (fun _ _ _ h => h) (Or.inl ⟨by rfl, ?_⟩) (by assumption) ?_
                    rotate_left
                    · intro w hSw
                      (try dsimp only at hSw)
                      go_simp
                      try with_reducible rfl
                    simp only [Act.put, List.setIfInBounds_toArray, List.set_cons_zero, List.set_cons_succ]
                    refine wpAnyH_take (i := 9) (v := ?_) rfl (by kernel_rfl) (by kernel_rfl) (by kernel_rfl) (fun _ _ _ h => h) (Or.inl ⟨by rfl, ?_⟩) (by assumption) ?_
                    rotate_left
                    · intro w hSw
                      (try dsimp only at hSw)
                      go_simp
                      try with_reducible rfl
                    simp only [Act.put, List.setIfInBounds_toArray, List.set_cons_zero, List.set_cons_succ]
                    refine wpAnyH_ready (rs := [11]) (by kernel_rfl) (by simp) ?_
                    refine AllReadyH.cons rfl (fun K hK => ?_) ?_
                    · obtain ⟨b1, b2, b3, b4, b5, b6⟩ := s6.boxed
                      go_simp
                      have hBs : Below w6.heap.size w6 ((W6.setCell ⟨nb, 0, none⟩ (.int .i64 n2)).setCell ⟨nb, 1, none⟩ (.int .i64 d2)) := (s6.1.setCell (p := ⟨nb, 0, none⟩) b1 _).setCell (p := ⟨nb, 1, none⟩) b1 _
                      have hcs := setB (setA ⟨b3, b4⟩ (.int .i64 n2)) (.int .i64 d2)
                      have hsz : nb < ((W6.setCell ⟨nb, 0, none⟩ (.int .i64 n2)).setCell ⟨nb, 1, none⟩ (.int .i64 d2)).heap.size := by rw [World.size_setCell, World.size_setCell]; exact b2
                      have HCS := Lib.hid (And.intro hcs (And.intro hsz hBs))
                      clear hcs hsz
                      refine hK.out _ _ ⟨(hBs.cell (p := ⟨w.heap.size, 0, none⟩) zy).trans e0, (hBs.cell (p := ⟨w.heap.size, 1, none⟩) zy).trans e1, (hBs.cell (p := ⟨w.heap.size, 2, none⟩) zy).trans e2, (hBs.cell (p := ⟨w.heap.size, 3, none⟩) zy).trans e3, (hBs.cell (p := ⟨w.heap.size, 4, none⟩) zy).trans e4⟩ (fun hHeld => ?_)
                      clear hK
                      refine wpAnyH_ready (rs := [12]) (by kernel_rfl) (by simp) ?_
                      refine AllReadyH.cons rfl (fun K hK => ?_) ?_
                      · go_simp
                        refine hK.out _ _ (by assumption) (fun hHeld => ?_)
                        clear hK
                        refine wpAnyH_done (by kernel_rfl) ?_ _
                        go_wp2_with fail
                        go_meet
                        exact ⟨nb, rfl, rfl, ⟨HCS.out.1.1, HCS.out.2.1⟩, ⟨HCS.out.1.2, HCS.out.2.1⟩, HCS.out.2.2⟩
                      exact AllReadyH.nil
                    exact AllReadyH.nil
                  exact AllReadyH.nil
                exact AllReadyH.nil
              exact AllReadyH.nil
            refine AllReadyH.cons rfl (fun K hK => ?_) ?_
            · go_simp
              have s3 := s2.lit
              refine hK.out _ _ ⟨(s3.1.cell (p := ⟨w.heap.size, 0, none⟩) zy).trans e0, (s3.1.cell (p := ⟨w.heap.size, 1, none⟩) zy).trans e1, (s3.1.cell (p := ⟨w.heap.size, 2, none⟩) zy).trans e2, (s3.1.cell (p := ⟨w.heap.size, 3, none⟩) zy).trans e3, (s3.1.cell (p := ⟨w.heap.size, 4, none⟩) zy).trans e4⟩ (fun hHeld => ?_)
              clear hK
              obtain ⟨W3, hwW3⟩ : ∃ X, X = W2.alloc (.cells #[.int .i64 y0, .int .i64 y1, .int .i64 y2, .int .i64 y3, .int .i64 y4] 43) := ⟨_, rfl⟩
              rw [← hwW3] at s3 ⊢
              clear hwW3
              obtain ⟨yb, hnyb⟩ : ∃ q, q = W2.heap.size := ⟨_, rfl⟩
              rw [← hnyb] at s3 ⊢
              clear hnyb
              refine wpAnyH_ready (rs := [2]) (by kernel_rfl) (by simp) ?_
              refine AllReadyH.cons rfl (fun K hK => ?_) ?_
              · refine step_append_reads (en := At.enc) (sz := 5) (by rfl) _ _ _ (by rfl) At.enc_len At.enc_one w6.heap.size 43 i0 _ 40 Try.underlying22 HI.out hz0 hz1 hz2 rfl (by decide) (.slice (some ⟨eb, 0, none⟩) 0 0) [] (by rfl) s3.row _ A c xs (by rfl) (RL.out.below s3.1) hnc (by simp [maxLen]; omega) (by simp; omega) s3.1.size ?_
                intro v4 W4 k1 k2 k3
                rw [List.nil_append] at k1
                have s4 := s3.app k1 k2 k3
                obtain ⟨A1, c1x, rfl, _, _⟩ := k1.shape
                clear k1 k2 k3
                refine hK.out _ _ ⟨(s4.1.cell (p := ⟨w.heap.size, 0, none⟩) zy).trans e0, (s4.1.cell (p := ⟨w.heap.size, 1, none⟩) zy).trans e1, (s4.1.cell (p := ⟨w.heap.size, 2, none⟩) zy).trans e2, (s4.1.cell (p := ⟨w.heap.size, 3, none⟩) zy).trans e3, (s4.1.cell (p := ⟨w.heap.size, 4, none⟩) zy).trans e4⟩ (fun hHeld => ?_)
                clear hK
                refine wpAnyH_ready (rs := [5]) (by kernel_rfl) (by simp) ?_
                refine AllReadyH.cons rfl (fun K hK => ?_) ?_
                · refine step_append_reads (en := At.enc) (sz := 5) (by rfl) _ _ _ (by rfl) At.enc_len At.enc_one w6.heap.size 43 i0 _ 40 Try.underlying22 HI.out hz0 hz1 hz2 rfl (by decide) (.slice A1 xs.length c1x) xs (by rfl) s4.row _ (some ⟨yb, 0, none⟩) 1 [⟨y0, y1, y2, y3, y4⟩] (by rfl) s4.one (fun h => by cases h) (by simp [maxLen]; omega) (by simp; omega) s4.1.size ?_
                  intro v5 W5 k1 k2 k3
                  have s5 := s4.app k1 k2 k3
                  obtain ⟨A2, c2x, rfl, _, _⟩ := k1.shape
                  rw [HZ.out.1] at s5 ⊢
                  clear k1 k2 k3
                  refine hK.out _ _ ⟨(s5.1.cell (p := ⟨w.heap.size, 0, none⟩) zy).trans e0, (s5.1.cell (p := ⟨w.heap.size, 1, none⟩) zy).trans e1, (s5.1.cell (p := ⟨w.heap.size, 2, none⟩) zy).trans e2, (s5.1.cell (p := ⟨w.heap.size, 3, none⟩) zy).trans e3, (s5.1.cell (p := ⟨w.heap.size, 4, none⟩) zy).trans e4⟩ (fun hHeld => ?_)
                  clear hK
                  refine wpAnyH_ready (rs := [6]) (by kernel_rfl) (by simp) ?_
                  refine AllReadyH.cons rfl (fun K hK => ?_) ?_
                  · go_simp
                    refine (CV.out _ _ _ (s5.row.reads At.enc_len)).mono ?_
                    rintro e W6 ⟨rfl, hb6⟩
                    have s6 := s5.call hb6
                    clear hb6
                    refine hK.out _ _ ⟨(s6.1.cell (p := ⟨w.heap.size, 0, none⟩) zy).trans e0, (s6.1.cell (p := ⟨w.heap.size, 1, none⟩) zy).trans e1, (s6.1.cell (p := ⟨w.heap.size, 2, none⟩) zy).trans e2, (s6.1.cell (p := ⟨w.heap.size, 3, none⟩) zy).trans e3, (s6.1.cell (p := ⟨w.heap.size, 4, none⟩) zy).trans e4⟩ (fun hHeld => ?_)
                    clear hK
                    refine wpAnyH_take (i := 7) (v := ?_) rfl (by kernel_rfl) (by kernel_rfl) (by kernel_rfl) (fun _ _ _ h => h) (Or.inl ⟨by rfl, ?_⟩) (by assumption) ?_
                    rotate_left
                    · intro w hSw
                      (try dsimp only at hSw)
                      go_simp
                      try with_reducible rfl
                    simp only [Act.put, List.setIfInBounds_toArray, List.set_cons_zero, List.set_cons_succ]
                    refine wpAnyH_take (i := 8) (v := ?_) rfl (by kernel_rfl) (by kernel_rfl) (by kernel_rfl) (fun _ _ _ h => h) (Or.inl ⟨by rfl, ?_⟩) (by assumption) ?_
                    rotate_left
                    · intro w hSw
                      (try dsimp only at hSw)
                      go_simp
                      try with_reducible rfl
                    simp only [Act.put, List.setIfInBounds_toArray, List.set_cons_zero, List.set_cons_succ]
                    refine wpAnyH_take (i := 9) (v := ?_) rfl (by kernel_rfl) (by kernel_rfl) (by kernel_rfl) (fun _ _ _ h => h) (Or.inl ⟨by rfl, ?_⟩) (by assumption) ?_
                    rotate_left
                    · intro w hSw
                      (try dsimp only at hSw)
                      go_simp
                      try with_reducible rfl
                    simp only [Act.put, List.setIfInBounds_toArray, List.set_cons_zero, List.set_cons_succ]
                    refine wpAnyH_ready (rs := [11]) (by kernel_rfl) (by simp) ?_
                    refine AllReadyH.cons rfl (fun K hK => ?_) ?_
                    · obtain ⟨b1, b2, b3, b4, b5, b6⟩ := s6.boxed
                      go_simp
                      have hBs : Below w6.heap.size w6 ((W6.setCell ⟨nb, 0, none⟩ (.int .i64 n2)).setCell ⟨nb, 1, none⟩ (.int .i64 d2)) := (s6.1.setCell (p := ⟨nb, 0, none⟩) b1 _).setCell (p := ⟨nb, 1, none⟩) b1 _
                      have hcs := setB (setA ⟨b3, b4⟩ (.int .i64 n2)) (.int .i64 d2)
                      have hsz : nb < ((W6.setCell ⟨nb, 0, none⟩ (.int .i64 n2)).setCell ⟨nb, 1, none⟩ (.int .i64 d2)).heap.size := by rw [World.size_setCell, World.size_setCell]; exact b2
                      have HCS := Lib.hid (And.intro hcs (And.intro hsz hBs))
                      clear hcs hsz
                      refine hK.out _ _ ⟨(hBs.cell (p := ⟨w.heap.size, 0, none⟩) zy).trans e0, (hBs.cell (p := ⟨w.heap.size, 1, none⟩) zy).trans e1, (hBs.cell (p := ⟨w.heap.size, 2, none⟩) zy).trans e2, (hBs.cell (p := ⟨w.heap.size, 3, none⟩) zy).trans e3, (hBs.cell (p := ⟨w.heap.size, 4, none⟩) zy).trans e4⟩ (fun hHeld => ?_)
                      clear hK
                      refine wpAnyH_ready (rs := [12]) (by kernel_rfl) (by simp) ?_
                      refine AllReadyH.cons rfl (fun K hK => ?_) ?_
                      · go_simp
                        refine hK.out _ _ (by assumption) (fun hHeld => ?_)
                        clear hK
                        refine wpAnyH_done (by kernel_rfl) ?_ _
                        go_wp2_with fail
                        go_meet
                        exact ⟨nb, rfl, rfl, ⟨HCS.out.1.1, HCS.out.2.1⟩, ⟨HCS.out.1.2, HCS.out.2.1⟩, HCS.out.2.2⟩
                      exact AllReadyH.nil
                    exact AllReadyH.nil
                  exact AllReadyH.nil
                exact AllReadyH.nil
              exact AllReadyH.nil
            exact AllReadyH.nil
          refine AllReadyH.cons rfl (fun K hK => ?_) ?_
          · go_simp
            have s2 := s1.lit
            refine hK.out _ _ ⟨(s2.1.cell (p := ⟨w.heap.size, 0, none⟩) zy).trans e0, (s2.1.cell (p := ⟨w.heap.size, 1, none⟩) zy).trans e1, (s2.1.cell (p := ⟨w.heap.size, 2, none⟩) zy).trans e2, (s2.1.cell (p := ⟨w.heap.size, 3, none⟩) zy).trans e3, (s2.1.cell (p := ⟨w.heap.size, 4, none⟩) zy).trans e4⟩ (fun hHeld => ?_)
            clear hK
            obtain ⟨W2, hwW2⟩ : ∃ X, X = W1.alloc (.cells #[.int .i64 y0, .int .i64 y1, .int .i64 y2, .int .i64 y3, .int .i64 y4] 43) := ⟨_, rfl⟩
            rw [← hwW2] at s2 ⊢
            clear hwW2
            obtain ⟨yb, hnyb⟩ : ∃ q, q = W1.heap.size := ⟨_, rfl⟩
            rw [← hnyb] at s2 ⊢
            clear hnyb
            refine wpAnyH_ready (rs := [0]) (by kernel_rfl) (by simp) ?_
            refine AllReadyH.cons rfl (fun K hK => ?_) ?_
            · go_simp
              have s3 := s2.empty
              refine hK.out _ _ ⟨(s3.1.cell (p := ⟨w.heap.size, 0, none⟩) zy).trans e0, (s3.1.cell (p := ⟨w.heap.size, 1, none⟩) zy).trans e1, (s3.1.cell (p := ⟨w.heap.size, 2, none⟩) zy).trans e2, (s3.1.cell (p := ⟨w.heap.size, 3, none⟩) zy).trans e3, (s3.1.cell (p := ⟨w.heap.size, 4, none⟩) zy).trans e4⟩ (fun hHeld => ?_)
              clear hK
              obtain ⟨W3, hwW3⟩ : ∃ X, X = W2.alloc (.cells #[] 43) := ⟨_, rfl⟩
              rw [← hwW3] at s3 ⊢
              clear hwW3
              obtain ⟨eb, hneb⟩ : ∃ q, q = W2.heap.size := ⟨_, rfl⟩
              rw [← hneb] at s3 ⊢
              clear hneb
              refine wpAnyH_ready (rs := [2]) (by kernel_rfl) (by simp) ?_
              refine AllReadyH.cons rfl (fun K hK => ?_) ?_
              · refine step_append_reads (en := At.enc) (sz := 5) (by rfl) _ _ _ (by rfl) At.enc_len At.enc_one w6.heap.size 43 i0 _ 40 Try.underlying22 HI.out hz0 hz1 hz2 rfl (by decide) (.slice (some ⟨eb, 0, none⟩) 0 0) [] (by rfl) s3.row _ A c xs (by rfl) (RL.out.below s3.1) hnc (by simp [maxLen]; omega) (by simp; omega) s3.1.size ?_
                intro v4 W4 k1 k2 k3
                rw [List.nil_append] at k1
                have s4 := s3.app k1 k2 k3
                obtain ⟨A1, c1x, rfl, _, _⟩ := k1.shape
                clear k1 k2 k3
                refine hK.out _ _ ⟨(s4.1.cell (p := ⟨w.heap.size, 0, none⟩) zy).trans e0, (s4.1.cell (p := ⟨w.heap.size, 1, none⟩) zy).trans e1, (s4.1.cell (p := ⟨w.heap.size, 2, none⟩) zy).trans e2, (s4.1.cell (p := ⟨w.heap.size, 3, none⟩) zy).trans e3, (s4.1.cell (p := ⟨w.heap.size, 4, none⟩) zy).trans e4⟩ (fun hHeld => ?_)
                clear hK
                refine wpAnyH_ready (rs := [5]) (by kernel_rfl) (by simp) ?_
                refine AllReadyH.cons rfl (fun K hK => ?_) ?_
                · refine step_append_reads (en := At.enc) (sz := 5) (by rfl) _ _ _ (by rfl) At.enc_len At.enc_one w6.heap.size 43 i0 _ 40 Try.underlying22 HI.out hz0 hz1 hz2 rfl (by decide) (.slice A1 xs.length c1x) xs (by rfl) s4.row _ (some ⟨yb, 0, none⟩) 1 [⟨y0, y1, y2, y3, y4⟩] (by rfl) s4.one (fun h => by cases h) (by simp [maxLen]; omega) (by simp; omega) s4.1.size ?_
                  intro v5 W5 k1 k2 k3
                  have s5 := s4.app k1 k2 k3
                  obtain ⟨A2, c2x, rfl, _, _⟩ := k1.shape
                  rw [HZ.out.1] at s5 ⊢
                  clear k1 k2 k3
                  refine hK.out _ _ ⟨(s5.1.cell (p := ⟨w.heap.size, 0, none⟩) zy).trans e0, (s5.1.cell (p := ⟨w.heap.size, 1, none⟩) zy).trans e1, (s5.1.cell (p := ⟨w.heap.size, 2, none⟩) zy).trans e2, (s5.1.cell (p := ⟨w.heap.size, 3, none⟩) zy).trans e3, (s5.1.cell (p := ⟨w.heap.size, 4, none⟩) zy).trans e4⟩ (fun hHeld => ?_)
                  clear hK
                  refine wpAnyH_ready (rs := [6]) (by kernel_rfl) (by simp) ?_
                  refine AllReadyH.cons rfl (fun K hK => ?_) ?_
                  · go_simp
                    refine (CV.out _ _ _ (s5.row.reads At.enc_len)).mono ?_
                    rintro e W6 ⟨rfl, hb6⟩
                    have s6 := s5.call hb6
                    clear hb6
                    refine hK.out _ _ ⟨(s6.1.cell (p := ⟨w.heap.size, 0, none⟩) zy).trans e0, (s6.1.cell (p := ⟨w.heap.size, 1, none⟩) zy).trans e1, (s6.1.cell (p := ⟨w.heap.size, 2, none⟩) zy).trans e2, (s6.1.cell (p := ⟨w.heap.size, 3, none⟩) zy).trans e3, (s6.1.cell (p := ⟨w.heap.size, 4, none⟩) zy).trans e4⟩ (fun hHeld => ?_)
                    clear hK
                    refine wpAnyH_take (i := 7) (v := ?_) rfl (by kernel_rfl) (by kernel_rfl) (by kernel_rfl) (fun _ _ _ h => h) (Or.inl ⟨by rfl, ?_⟩) (by assumption) ?_
                    rotate_left
                    · intro w hSw
                      (try dsimp only at hSw)
                      go_simp
                      try with_reducible rfl
                    simp only [Act.put, List.setIfInBounds_toArray, List.set_cons_zero, List.set_cons_succ]
                    refine wpAnyH_take (i := 8) (v := ?_) rfl (by kernel_rfl) (by kernel_rfl) (by kernel_rfl) (fun _ _ _ h => h) (Or.inl ⟨by rfl, ?_⟩) (by assumption) ?_
                    rotate_left
                    · intro w hSw
                      (try dsimp only at hSw)
                      go_simp
                      try with_reducible rfl
                    simp only [Act.put, List.setIfInBounds_toArray, List.set_cons_zero, List.set_cons_succ]
                    refine wpAnyH_take (i := 9) (v := ?_) rfl (by kernel_rfl) (by kernel_rfl) (by kernel_rfl) (fun _ _ _ h => h) (Or.inl ⟨by rfl, ?_⟩) (by assumption) ?_
                    rotate_left
                    · intro w hSw
                      (try dsimp only at hSw)
                      go_simp
                      try with_reducible rfl
                    simp only [Act.put, List.setIfInBounds_toArray, List.set_cons_zero, List.set_cons_succ]
                    refine wpAnyH_ready (rs := [11]) (by kernel_rfl) (by simp) ?_
                    refine AllReadyH.cons rfl (fun K hK => ?_) ?_
                    · obtain ⟨b1, b2, b3, b4, b5, b6⟩ := s6.boxed
                      go_simp
                      have hBs : Below w6.heap.size w6 ((W6.setCell ⟨nb, 0, none⟩ (.int .i64 n2)).setCell ⟨nb, 1, none⟩ (.int .i64 d2)) := (s6.1.setCell (p := ⟨nb, 0, none⟩) b1 _).setCell (p := ⟨nb, 1, none⟩) b1 _
                      have hcs := setB (setA ⟨b3, b4⟩ (.int .i64 n2)) (.int .i64 d2)
                      have hsz : nb < ((W6.setCell ⟨nb, 0, none⟩ (.int .i64 n2)).setCell ⟨nb, 1, none⟩ (.int .i64 d2)).heap.size := by rw [World.size_setCell, World.size_setCell]; exact b2
                      have HCS := Lib.hid (And.intro hcs (And.intro hsz hBs))
                      clear hcs hsz
                      refine hK.out _ _ ⟨(hBs.cell (p := ⟨w.heap.size, 0, none⟩) zy).trans e0, (hBs.cell (p := ⟨w.heap.size, 1, none⟩) zy).trans e1, (hBs.cell (p := ⟨w.heap.size, 2, none⟩) zy).trans e2, (hBs.cell (p := ⟨w.heap.size, 3, none⟩) zy).trans e3, (hBs.cell (p := ⟨w.heap.size, 4, none⟩) zy).trans e4⟩ (fun hHeld => ?_)
                      clear hK
                      refine wpAnyH_ready (rs := [12]) (by kernel_rfl) (by simp) ?_
                      refine AllReadyH.cons rfl (fun K hK => ?_) ?_
                      · go_simp
                        refine hK.out _ _ (by assumption) (fun hHeld => ?_)
                        clear hK
                        refine wpAnyH_done (by kernel_rfl) ?_ _
                        go_wp2_with fail
                        go_meet
                        exact ⟨nb, rfl, rfl, ⟨HCS.out.1.1, HCS.out.2.1⟩, ⟨HCS.out.1.2, HCS.out.2.1⟩, HCS.out.2.2⟩
                      exact AllReadyH.nil
                    exact AllReadyH.nil
                  exact AllReadyH.nil
                exact AllReadyH.nil
              exact AllReadyH.nil
            exact AllReadyH.nil
          exact AllReadyH.nil
        exact AllReadyH.nil
      case rest =>
        obtain ⟨nb, rfl, rfl, n0, n1, hb7⟩ := hcut
        have hz7 := hb7.size
        have zb : w.heap.size < wc.heap.size := by omega
        have p2 : wc.cell? ⟨w.heap.size, 2, none⟩ = some (.int .i64 y2) := (hb7.cell (p := ⟨w.heap.size, 2, none⟩) zy).trans e2
        have HB7 := Lib.hid hb7
        have ME := mean_error (xs := zs) (by rw [HZ.out.2.1, HZ.out.1]; omega)
        rw [← HZ.out.2.2] at ME
        have G7 := Lib.hid (G.out.trans (hb7.mono G.out.size))
        have M07 := Lib.hid (M0.out.step hb7)
        have M17 := Lib.hid (M1.out.step hb7)
        clear hb7 e0 e1 e2 e3 e4 zy hz0 hz1 hz2
        rcases ME with ⟨hE, hbz⟩ | ⟨hE, hbz⟩
        rotate_left
        · simp only [Prod.mk.injEq, Ra.mk.injEq] at hE
          obtain ⟨⟨rfl, rfl⟩, rfl⟩ := hE
          go_wp2_with fail
          go_ret
          exact ⟨rfl, G7.out⟩
        simp only at hE
        subst hE
        by_cases hlow : y2 < mo
        · have hd : decide (y2 < mo) = true := by simpa using hlow
          go_wp2_with fail
          go_ret
          exact ⟨rfl, G7.out⟩
        have hd : decide (y2 < mo) = false := by simpa using hlow
        have hyg := good_at (all_good hbz ⟨y0, y1, y2, y3, y4⟩ (by rw [HZ.out.2.1]; simp))
        simp only at hyg
        obtain ⟨_, _, hc0, _, _, _⟩ := hyg
        have q1 : sC zs = sC xs + y4 := by rw [HZ.out.2.1, sC_snoc]
        have q2 : sP zs = sP xs + y2 * y4 := by rw [HZ.out.2.1, sP_snoc]
        obtain ⟨r2, hr2, hor2, hre2⟩ := mean_good hbz (by rw [HZ.out.2.1, HZ.out.1]; omega) (by rw [q1]; omega)
        have hmi2 := meanA_i64 zs
        rw [← HZ.out.2.2] at hr2 hmi2
        simp only [Prod.mk.injEq, and_true] at hr2
        subst hr2
        rw [q1, q2] at hre2
        have hA6 : sP xs ≤ y2 * sC xs := Int.le_trans A6.out (Int.mul_le_mul_of_nonneg_right (by omega) (by omega))
        obtain ⟨c3, hc3, hc3le⟩ := up_law HOR.out hor2 HRE.out hre2 hcp hc0 hA6
        have HC3 := Lib.hid hc3
        have HM2 := Lib.hid hmi2
        have d3 : decide (c3 ≤ 0) = true := by simpa using hc3le
        obtain ⟨m0, mz⟩ := M07.out
        obtain ⟨m1, _⟩ := M17.out
        obtain ⟨k0, kz⟩ := n0
        obtain ⟨k1, _⟩ := n1
        clear hc3 hmi2 hA6 hre2 hor2 q1 q2 hbz hlow hc0
        go_wp2_with fail
        refine (RaCompare_any ⟨n, d⟩ ⟨n2, d2⟩ HMI.out HM2.out _).mono ?_
        rw [HC3.out]
        rintro e w8 ⟨rfl, hb8⟩
        have G8 := Lib.hid (G7.out.trans (hb8.mono G7.out.size))
        clear hb8
        go_wp2_with fail
        go_ret
        exact ⟨rfl, G8.out⟩
end Go.Proofs.Ytimaealmmjdjkaa
