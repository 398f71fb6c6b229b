/- TopDegree, what its proof leans on: the texts FlowF. -/
import Derived.Test.YtalmbigebjbaoaaGreatDoorM14
import Derived.RegionTactic
import Derived.BigRegion
import Derived.Deep.LoopGhost
import Derived.WalkMore
namespace Go.Proofs.YtalmbigebjbaoaaGreatDoor.Fl
open Go.RowKit Go.Shelf
set_option linter.unusedSimpArgs false
set_option linter.unusedVariables false
attribute [local go_sem] Oper.semAt_some
def Srch (n : Nat) (l : List Ed) (xs : List Int) (a : Int) (bys ord : List Int) : Prop :=
 bys.length = n ∧ Bfs l xs a ord (fun v => (bys.getD v.toNat 0).toNat) ∧ (∀ v ∈ ord, 0 ≤ v ∧ v < n) ∧ (∀ i : Nat, i < n → ((i : Int) ∈ ord ↔ 0 ≤ bys.getD i 0)) ∧ ∀ i : Nat, i < n → -1 ≤ bys.getD i 0 ∧ bys.getD i 0 ≤ 2 * (l.length : Int)
section
variable {n : Nat} {l : List Ed} {xs : List Int} {a : Int} {bys ord : List Int}
theorem Srch.start (l : List Ed) (xs : List Int) (k : Nat) (hk : k < n) : Srch n l xs (k : Int) ((List.replicate n (-1)).set k (2 * (l.length : Int))) [(k : Int)] := by
 have hg : ∀ i, i < n → ((List.replicate n (-1 : Int)).set k (2 * (l.length : Int))).getD i 0 = if k = i then 2 * (l.length : Int) else -1 := fun i hi => by
  rw [getD_set _ _ _ _ (by simpa using hk)]
  split
  ·rfl
  ·simp [List.getD_eq_getElem?_getD, List.getElem?_replicate, hi]
 refine ⟨by simp, Bfs.one _, by simp; omega, fun i hi => ?_, fun i hi => ?_⟩
 ·rw [hg i hi]
  simp
  split
  ·constructor <;> intro <;> omega
  ·constructor
   ·intro h; omega
   ·intro h; omega
 ·rw [hg i hi]
  split <;> omega
theorem Srch.next (h : Srch n l xs a bys ord) {r : Nat} {u : Nat} (hr : r < 2 * l.length) (hs : startR l r ∈ ord) (hc : 0 < capR l xs r) (hu : endR l r = (u : Int)) (hun : u < n) (hb : ¬ 0 ≤ bys.getD u 0) :
 Srch n l xs a (bys.set u (r : Int)) (ord ++ [(u : Int)]) := by
 obtain ⟨h1, h2, h3, h4, h5⟩ := h
 have hno : (u : Int) ∉ ord := fun hm => hb ((h4 u hun).1 hm)
 have hg : ∀ i, (bys.set u (r : Int)).getD i 0 = if u = i then (r : Int) else bys.getD i 0 := fun i => getD_set _ _ _ _ (by omega)
 refine ⟨by simpa using h1, ?_, ?_, fun i hi => ?_, fun i hi => ?_⟩
 ·rw [← hu]
  refine h2.snoc hr hs hc (by rw [hu]; exact hno) (fun v hv _ => ?_) ?_
  ·show ((bys.set u (r : Int)).getD v.toNat 0).toNat = (bys.getD v.toNat 0).toNat
   rw [hg, if_neg]
   intro e
   have := h3 v hv
   exact hno (by rw [show (u : Int) = v by omega]; exact hv)
  ·show ((bys.set u (r : Int)).getD (endR l r).toNat 0).toNat = r
   rw [hg, hu, Int.toNat_natCast, if_pos rfl, Int.toNat_natCast]
 ·intro v hv
  rcases List.mem_append.1 hv with hv | hv
  ·exact h3 v hv
  ·simp at hv; omega
 ·rw [hg, List.mem_append, h4 i hi]
  split
  ·rename_i e
   subst e
   constructor
   ·intro; omega
   ·intro; exact .inr (by simp)
  ·rename_i e
   constructor
   ·rintro (h | h)
    ·exact h
    ·simp at h; omega
   ·intro h; exact .inl h
 ·rw [hg]
  split
  ·omega
  ·exact h5 i hi
end
def AdjOk (l : List Ed) (n : Nat) (adj : List (List Nat)) : Prop := adj.length = n ∧ ∀ (v : Nat) (ls : List Nat), adj[v]? = some ls → ∀ r, r ∈ ls ↔ r < 2 * l.length ∧ startR l r = (v : Int)
def Marks (B : Nat) (Ds : List Nat) (w : World) : Prop := Ds.Nodup ∧ ∀ D ∈ Ds, B ≤ D ∧ w.heap[D]? = some (.deferred (some []))
def marks (Ds : List Nat) : List Deferred := Ds.map fun D => { target := .collected D, args := #[] }
theorem leaves_marks {F : Fence} {n : Nat} {P : Program} {fn : Func} {tmps : Array Value} {R : Ending → World → Prop} {B : Nat} : ∀ (Ds : List Nat) (w : World), Marks B Ds w → B ≤ w.heap.size →
 (∀ w', Below B w w' → (∀ b, b ∉ Ds → w'.heap[b]? = w.heap[b]?) → ∃ v, (results fn tmps).run P w' = .ok v w' ∧ R (.returned v) w') → LeavesInM F n P fn tmps R (marks Ds) .returning w
 | [], w, hM, hz, h => by
   obtain ⟨v, h1, h2⟩ := h w (Below.refl _ _) (fun _ _ => rfl)
   exact ⟨v, h1, h2⟩
 | D :: Ds, w, hM, hz, h => by
   obtain ⟨hn, hD⟩ := hM
   obtain ⟨hB, hK⟩ := hD D (by simp)
   have hg := grownBy_putObj' w D (.deferred none)
   have hb : Below B w (w.putObj D (.deferred none)) := (Below.refl B w).grown hg hz (fun k e => by cases e; exact hB)
   have hnd := List.nodup_cons.1 hn
   refine ⟨by simp, .inl ⟨D, _, rfl, run_takeDeferred hK, leaves_marks Ds _ ⟨hnd.2, fun E hE => ⟨(hD E (by simp [hE])).1, ?_⟩⟩ (Nat.le_trans hz hb.size) (fun w' h1 h2 => h w' (hb.trans h1) (fun b hb' => ?_))⟩⟩
   ·rw [World.putObj_heap_other (fun e => hnd.1 (by rw [← e]; exact hE))]
    exact (hD E (by simp [hE])).2
   ·simp at hb'
    rw [h2 b hb'.2, World.putObj_heap_other hb'.1]
def One (w : World) (b : Nat) (v : Value) (t : TypeId) : Prop := w.heap[b]? = some (.cells #[v] t (0, 0))
section
variable {w w' : World} {b : Nat} {v : Value} {t : TypeId}
theorem One.cell (h : One w b v t) : w.cell? ⟨b, 0, none⟩ = some v := by unfold One at h; simp [World.cell?, h]
theorem One.free (h : One w b v t) : w.frozen? ⟨b, 0, none⟩ = false := by unfold One at h; simp [World.frozen?, h]
theorem One.lt (h : One w b v t) : b < w.heap.size := (Array.getElem?_eq_some_iff.1 h).1
theorem One.step (h : One w b v t) (hb : Below w.heap.size w w') : One w' b v t := (hb.block b h.lt).trans h
theorem One.set (h : One w b v t) (u : Value) : One (w.setCell ⟨b, 0, none⟩ u) b u t := by
 have := heap_setCell_same w b 0 #[v] t u h
 simpa [One] using this
theorem One.far (h : One w b v t) {a : Addr} (ha : b ≠ a.block) (u : Value) : One (w.setCell a u) b v t := (Below.heap_setCell _ _ _ _ ha).trans h
theorem One.of_block (h : One w b v t) (he : w'.heap[b]? = w.heap[b]?) : One w' b v t := he.trans h
theorem FlAt.far {F : Nat} {xs : List Int} (h : FlAt w F xs) {a : Addr} (ha : F ≠ a.block) (u : Value) : FlAt (w.setCell a u) F xs := (Below.heap_setCell _ _ _ _ ha).trans h
theorem FlAt.of_block {F : Nat} {xs : List Int} (h : FlAt w F xs) (he : w'.heap[F]? = w.heap[F]?) : FlAt w' F xs := he.trans h
theorem Tail.far {base : Nat} {e : TypeId} {xs : List Value} (h : Tail w base e v xs) {a : Addr} (ha : ∀ g, v.ownBlock = some g → g ≠ a.block) (u : Value) : Tail (w.setCell a u) base e v xs := h.of_block fun g hg => Below.heap_setCell _ _ _ _ (ha g hg)
end
theorem nodup_len : ∀ (n : Nat) (l : List Int), l.Nodup → (∀ v ∈ l, 0 ≤ v ∧ v < (n : Int)) → l.length ≤ n
 | 0, l, _, h => by
   cases l with
   | nil => simp
   | cons v l => have := h v (by simp); omega
 | n + 1, l, hd, h => by
   have h1 := nodup_len n (l.filter (· ≠ (n : Int))) (hd.filter _) (fun v hv => by
    have := List.mem_filter.1 hv
    have h2 := h v this.1
    have h3 := this.2
    simp at h3
    omega)
   have h2 : l.count (n : Int) ≤ 1 := List.nodup_iff_count.1 hd _
   have h3 : l.length = (l.filter (· ≠ (n : Int))).length + l.count (n : Int) := by
    have := List.length_eq_countP_add_countP (fun v => decide (v ≠ (n : Int))) (l := l)
    rw [this, ← List.countP_eq_length_filter]
    congr 1
    unfold List.count
    apply List.countP_congr
    intro x _
    simp
   omega
theorem Srch.len {n : Nat} {l : List Ed} {xs : List Int} {a : Int} {bys ord : List Int} (h : Srch n l xs a bys ord) : ord.length ≤ n := nodup_len n ord h.2.1.nd h.2.2.1
def SI (w : World) (n : Nat) (l : List Ed) (xs : List Int) (a b : Int) (M Y q : Nat) (done rest tl bys : List Int) (qv : Value) (W : World) : Prop :=
 Srch n l xs a bys (done ++ rest) ∧ (∀ v ∈ done, Clos l xs (done ++ rest) v) ∧ b ∉ done ++ rest ∧
 One W M (.int .i64 b) 3 ∧ One W (M + 1) (.slice (some ⟨Y, 0, none⟩) n n) 64 ∧ FlAt W Y bys ∧ One W (q + 1) qv 64 ∧ Tail W (M + 2) 3 qv (tl.map (Value.int .i64)) ∧
 (∀ g, qv.ownBlock = some g → g ≠ Y ∧ g ≠ q + 1) ∧ Below w.heap.size w W ∧ q + 2 ≤ W.heap.size
def Other (W W' : World) (row : Option Nat) : Prop := W.grownBy W' row ∧ ∀ r, row = some r → ∃ o : Obj, W.heap[r]? = some o ∧ o.isCells = false
theorem Other.cells {W W' : World} {row : Option Nat} (h : Other W W' row) {b : Nat} {cs : Array Value} {t : TypeId} {fr : Nat × Nat} (hb : W.heap[b]? = some (.cells cs t fr)) : W'.heap[b]? = W.heap[b]? :=
 h.1.block b (Array.getElem?_eq_some_iff.1 hb).1 (fun e => by
  obtain ⟨o, h1, h2⟩ := h.2 b e.symm
  rw [hb] at h1
  cases h1
  cases h2)
theorem Other.one {W W' : World} {row : Option Nat} (h : Other W W' row) {b : Nat} {v : Value} {t : TypeId} (k : One W b v t) : One W' b v t := k.of_block (h.cells k)
theorem Other.fl {W W' : World} {row : Option Nat} (h : Other W W' row) {b : Nat} {xs : List Int} (k : FlAt W b xs) : FlAt W' b xs := k.of_block (h.cells k)
theorem Other.tail {W W' : World} {row : Option Nat} (h : Other W W' row) {base : Nat} {e : TypeId} {v : Value} {xs : List Value} (k : Tail W base e v xs) : Tail W' base e v xs := k.of_block (fun g hg => by
 obtain ⟨g', off, cap, cs, rfl, h2, h3, h4⟩ := k
 simp [Value.ownBlock] at hg
 subst hg
 exact h.cells h3)
theorem SI.other {w : World} {n : Nat} {l : List Ed} {xs : List Int} {a b : Int} {M Y q : Nat} {done rest tl bys : List Int} {qv : Value} {W W' : World} {row : Option Nat} (h : SI w n l xs a b M Y q done rest tl bys qv W) (ho : Other W W' row) (hr : ∀ r, row = some r → w.heap.size ≤ r) : SI w n l xs a b M Y q done rest tl bys qv W' := by
 obtain ⟨s1, s2, s3, s4, s5, s6, s7, s8, s9, s10, s11⟩ := h
 have := s10.size
 exact ⟨s1, s2, s3, ho.one s4, ho.one s5, ho.fl s6, ho.one s7, ho.tail s8, s9, s10.grown ho.1 this hr, Nat.le_trans s11 ho.1.size⟩
theorem Marks.other {B : Nat} {Ds : List Nat} {W W' : World} {row : Option Nat} (h : Marks B Ds W) (hg : W.grownBy W' row) (hr : ∀ D ∈ Ds, row ≠ some D) : Marks B Ds W' :=
 ⟨h.1, fun D hD => ⟨(h.2 D hD).1, (hg.block D (Array.getElem?_eq_some_iff.1 (h.2 D hD).2).1 (fun e => hr D hD e.symm)).trans (h.2 D hD).2⟩⟩
theorem Marks.lt {B : Nat} {Ds : List Nat} {W : World} (h : Marks B Ds W) : ∀ D ∈ Ds, D < W.heap.size := fun D hD => (Array.getElem?_eq_some_iff.1 (h.2 D hD).2).1
theorem Marks.others {B : Nat} {Ds : List Nat} {W W' : World} (h : Marks B Ds W) (ho : KeepsOthers W W') : Marks B Ds W' := ⟨h.1, fun D hD => ⟨(h.2 D hD).1, ho.same D _ (h.2 D hD).2 rfl⟩⟩
def SEnd (w : World) (n : Nat) (l : List Ed) (xs : List Int) (a b : Int) (M Y : Nat) (W : World) : Prop :=
 ∃ bys ord, Srch n l xs a bys ord ∧ (b ∉ ord → ∀ v ∈ ord, Clos l xs ord v) ∧ One W (M + 1) (.slice (some ⟨Y, 0, none⟩) n n) 64 ∧ FlAt W Y bys ∧ Below w.heap.size w W
theorem SEnd.cell {w : World} {n : Nat} {l : List Ed} {xs : List Int} {a b : Int} {M Y : Nat} {W : World} (h : SEnd w n l xs a b M Y W) : W.cell? ⟨M + 1, 0, none⟩ = some (.slice (some ⟨Y, 0, none⟩) n n) := by
 obtain ⟨_, _, _, _, h, _⟩ := h
 exact h.cell
theorem SEnd.free {w : World} {n : Nat} {l : List Ed} {xs : List Int} {a b : Int} {M Y : Nat} {W : World} (h : SEnd w n l xs a b M Y W) : W.frozen? ⟨M + 1, 0, none⟩ = false := by
 obtain ⟨_, _, _, _, h, _⟩ := h
 exact h.free
theorem SEnd.lt {w : World} {n : Nat} {l : List Ed} {xs : List Int} {a b : Int} {M Y : Nat} {W : World} (h : SEnd w n l xs a b M Y W) : M + 1 < W.heap.size := by
 obtain ⟨_, _, _, _, h, _⟩ := h
 exact h.lt
theorem search_end {w : World} {n : Nat} {l : List Ed} {xs : List Int} {a b : Int} {M Y q k : Nat} {W : World} (Ds : List Nat) (tmps : Array Value) (htm : tmps[6]? = some (.pointer (some ⟨M + 1, 0, none⟩))) (h : SEnd w n l xs a b M Y W) (hm : Marks (q + 2) Ds W) (hM : M = w.heap.size) (hY : M + 1 < Y) (hq : M < q) :
 LeavesInM Fence.wide k Tryz.prog Tryz.f83 tmps (fun e w' => (∃ Y bys ord, e = .returned (.slice (some ⟨Y, 0, none⟩) n n) ∧ w.heap.size ≤ Y ∧ FlAt w' Y bys ∧ Srch n l xs a bys ord ∧ (b ∉ ord → ∀ v ∈ ord, Clos l xs ord v)) ∧ Below w.heap.size w w') (marks Ds) .returning (W.setCell ⟨M + 1, 0, none⟩ (.slice (some ⟨Y, 0, none⟩) n n)) := by
 obtain ⟨bys, ord, h1, h2, h3, h4, h5⟩ := h
 have z := h5.size
 have hm2 : Marks w.heap.size Ds (W.setCell ⟨M + 1, 0, none⟩ (.slice (some ⟨Y, 0, none⟩) n n)) := by
  have := hm.others (KeepsOthers.setCell W ⟨M + 1, 0, none⟩ (.slice (some ⟨Y, 0, none⟩) n n))
  exact ⟨this.1, fun D hD => ⟨by have := (this.2 D hD).1; omega, (this.2 D hD).2⟩⟩
 refine leaves_marks Ds _ hm2 (by rw [World.size_setCell]; exact z) (fun w' hb hk => ?_)
 have o := h3.set (.slice (some ⟨Y, 0, none⟩) n n)
 have y := h4.far (a := ⟨M + 1, 0, none⟩) (by show Y ≠ M + 1; omega) (.slice (some ⟨Y, 0, none⟩) n n)
 have no : ∀ b cs t fr, (W.setCell ⟨M + 1, 0, none⟩ (.slice (some ⟨Y, 0, none⟩) n n)).heap[b]? = some (.cells cs t fr) → b ∉ Ds := fun b cs t fr hb hm => by
  have := (hm2.2 b hm).2
  rw [hb] at this
  cases this
 have o' := (o.of_block (hk _ (no _ _ _ _ o))).cell
 refine ⟨.slice (some ⟨Y, 0, none⟩) n n, ?_, ⟨Y, bys, ord, rfl, by omega, y.of_block (hk _ (no _ _ _ _ y)), h1, h2⟩, (h5.setCell (by show w.heap.size ≤ M + 1; omega) _).trans hb⟩
 simp [results, Tryz.results83, go_sem, htm, o']
set_option maxRecDepth 100000 in
set_option maxHeartbeats 8000000 in
theorem search_any {P : Nat → Prop} {B F n : Nat} {l : List Ed} {adj : List (List Nat)} {xs : List Int} (a b : Nat) (w : World) (hN : Net w P B F n l adj) (hf : FlAt w F xs) (hb : Bd l xs) (hm : ∀ e ∈ l, e.m ≤ 1073741824) (hll : l.length ≤ 65536) (hA : AdjOk l n adj)
 (hin : InN n l) (h1 : 1 ≤ n) (hn : n ≤ 4096) (ha : a < n) (hbn : b < n) (hab : a ≠ b) (hP : ∀ b, P b → b < w.heap.size) :
 Calls Tryz.prog 83 #[.pointer (some ⟨B, 0, none⟩), .int .i64 a, .int .i64 b] w fun e w' => (∃ Y bys ord, e = .returned (.slice (some ⟨Y, 0, none⟩) n n) ∧ w.heap.size ≤ Y ∧ FlAt w' Y bys ∧ Srch n l xs a bys ord ∧ ((b : Int) ∉ ord → ∀ v ∈ ord, Clos l xs ord v)) ∧ Below w.heap.size w w' := by
 have HN := Lib.hid hN
 have HFl := Lib.hid hf
 have HB := Lib.hid hb
 have HM := Lib.hid hm
 have HA := Lib.hid hA
 have HIN := Lib.hid hin
 have HP := Lib.hid hP
 have HAB := Lib.hid hab
 obtain ⟨A, c, g, k0, k1, k2, _, _, hB, _⟩ := hN
 clear hf hb hm hA hin hP hab
 refine (callsIn_wide (n := 6)).1 ?_
 refine callsIn_of_wp_marks Tryz.func83 rfl trivial ?_ rfl
 simp only [Tryz.ntmps83, List.size_toArray, List.length_cons, List.length_nil, Nat.reduceAdd, Nat.reduceSub, Array.replicate_succ, Array.replicate_zero, List.push_toArray, List.append_toArray, List.nil_append, List.cons_append]
 refine wpIn_wide.2 ?_
 go_wp2_with fail
 go_step3
 obtain ⟨w0, hw0⟩ : ∃ W, W = (w.alloc (.cells #[.int .i64 b] 3)).alloc (.cells #[.slice none 0 0] 64) := ⟨_, rfl⟩
 have b0 : Below w.heap.size w w0 := by rw [hw0]; exact ((Below.refl _ _).alloc (Nat.le_refl _) _).alloc (by simp) _
 have z0 : w0.heap.size = w.heap.size + 2 := by rw [hw0]; simp
 have t0 : One w0 w.heap.size (.int .i64 b) 3 := by rw [hw0]; exact (Below.heap_alloc _ _ _ (by simp)).trans (heap_alloc_new w _)
 have t1 : One w0 (w.heap.size + 1) (.slice none 0 0) 64 := by rw [hw0]; have := heap_alloc_new (w.alloc (.cells #[.int .i64 b] 3)) (.cells #[.slice none 0 0] 64); rwa [World.size_alloc] at this
 have k2' : w0.cell? ⟨B, 2, none⟩ = some (.slice (some ⟨g, 0, none⟩) n n) := (b0.cell (p := ⟨B, 2, none⟩) hB).trans k2
 have hB2 : B < w0.heap.size := by omega
 rw [← hw0]
 have HZ0 := Lib.hid z0
 have k0' : w0.cell? ⟨B, 0, none⟩ = some (.slice A l.length c) := (b0.cell (p := ⟨B, 0, none⟩) hB).trans k0
 have HB0 := Lib.hid b0
 clear hw0 k0 k1 k2 z0 b0
 go_wp2_with fail
 refine (repeat_any (-1) w0.heap.size n h1 hn _ ⟨by simp [go_sem], by simp⟩).mono ?_
 simp only [World.size_alloc]
 rintro e w1 ⟨⟨rfl, hy⟩, hb1⟩
 have hb01 : Below w0.heap.size w0 w1 := ((Below.refl _ w0).alloc (Nat.le_refl _) _).trans (hb1.mono (by omega))
 have hs1 := hb1.size
 simp only [World.size_alloc] at hs1
 have o0 := t0.step hb01
 have o1 := t1.step hb01
 have u3 := (hb01.cell (p := ⟨B, 0, none⟩) hB2).trans k0'
 have HB1 := Lib.hid (HB0.out.trans (hb01.mono HB0.out.size))
 obtain ⟨Y, hY⟩ : ∃ Y, Y = w0.heap.size + 1 := ⟨_, rfl⟩
 obtain ⟨M, hM⟩ : ∃ M, M = w.heap.size := ⟨_, rfl⟩
 have hMY : M + 1 < Y ∧ Y < w1.heap.size ∧ B < M := by have := HZ0.out; have := hy.lt; omega
 rw [← hY] at hy ⊢
 rw [← hM] at o0 o1 ⊢
 have HO0 := Lib.hid o0
 have HO1 := Lib.hid o1
 have HY := Lib.hid hy
 have i0 := o0.cell
 have i1 := o1.cell
 have i2 := o1.free
 have i3 := hy.cell (i := a) (by simpa using ha)
 have i4 := hy.free a
 obtain ⟨q1, q2, q3⟩ := hMY
 have q4 : M + 1 < w1.heap.size := by omega
 have q5 : M < w1.heap.size := by omega
 have q6 : B < w1.heap.size := by omega
 have HMM := Lib.hid hM
 clear hb1 hb01 hs1 o0 o1 hy k0' k2' t0 t1 HB0 HZ0 hY hB2 hB hM
 go_wp2_with fail
 go_region
 go_wp2_with fail
 obtain ⟨W2, hW2⟩ : ∃ W, W = ((((w1.setCell ⟨M + 1, 0, none⟩ (.slice (some ⟨Y, 0, none⟩) n n)).setCell ⟨Y, a, none⟩ (.int .i64 (l.length * 2))).alloc (.cells #[.int .i64 a] 3)).alloc (.cells #[.slice (some ⟨w1.heap.size, 0, none⟩) 1 1] 64)).drew := ⟨_, rfl⟩
 rw [← hW2]
 obtain ⟨q, hq⟩ : ∃ q, q = w1.heap.size := ⟨_, rfl⟩
 rw [← hq]
 have e1 : ∀ b, b < w1.heap.size → W2.heap[b]? = ((w1.setCell ⟨M + 1, 0, none⟩ (.slice (some ⟨Y, 0, none⟩) n n)).setCell ⟨Y, a, none⟩ (.int .i64 (l.length * 2))).heap[b]? := fun b hb => by
  rw [hW2]; exact (Below.heap_alloc _ _ _ (by simp; omega)).trans (Below.heap_alloc _ _ _ (by simpa using hb))
 have g0 : One W2 M (.int .i64 b) 3 := ((HO0.out.far (a := ⟨M + 1, 0, none⟩) (by show M ≠ M + 1; omega) _).far (a := ⟨Y, a, none⟩) (by show M ≠ Y; omega) _).of_block (e1 M q5)
 have g1 : One W2 (M + 1) (.slice (some ⟨Y, 0, none⟩) n n) 64 := ((HO1.out.set _).far (a := ⟨Y, a, none⟩) (by show M + 1 ≠ Y; omega) _).of_block (e1 _ q4)
 have g2 : FlAt W2 Y ((List.replicate n (-1)).set a (2 * (l.length : Int))) := by
  rw [show 2 * (l.length : Int) = (l.length : Int) * 2 by omega]
  exact ((HY.out.far (a := ⟨M + 1, 0, none⟩) (by show Y ≠ M + 1; omega) _).set a _).of_block (e1 Y q2)
 have g3 : One W2 (q + 1) (.slice (some ⟨q, 0, none⟩) 1 1) 64 := by
  rw [hW2, hq]
  have := heap_alloc_new (((w1.setCell ⟨M + 1, 0, none⟩ (.slice (some ⟨Y, 0, none⟩) n n)).setCell ⟨Y, a, none⟩ (.int .i64 (l.length * 2))).alloc (.cells #[.int .i64 a] 3)) (.cells #[.slice (some ⟨w1.heap.size, 0, none⟩) 1 1] 64)
  rw [World.size_alloc, World.size_setCell, World.size_setCell] at this
  exact this
 have g4 : Tail W2 (M + 2) 3 (.slice (some ⟨q, 0, none⟩) 1 1) ([(a : Int)].map (Value.int .i64)) := by
  have := Tail.one ((w1.setCell ⟨M + 1, 0, none⟩ (.slice (some ⟨Y, 0, none⟩) n n)).setCell ⟨Y, a, none⟩ (.int .i64 (l.length * 2))) (.int .i64 a) 3 (M + 2) (by simp; omega)
  simp only [World.size_setCell] at this
  rw [← hq] at this
  refine this.of_block (fun g hg => ?_)
  simp [Value.ownBlock] at hg
  subst hg
  rw [hW2]
  exact Below.heap_alloc _ _ _ (by simp; omega)
 have g5 : Below w.heap.size w W2 := by
  rw [hW2]
  have z := HB1.out.size
  have hM := HMM.out
  exact ((((HB1.out.setCell (by show w.heap.size ≤ M + 1; omega) _).setCell (by show w.heap.size ≤ Y; omega) _).alloc (by simp; omega) _).alloc (by simp; omega) _).drew
 have g6 : W2.heap.size = q + 2 := by rw [hW2, hq]; simp
 go_step3
 go_wp2_with fail
 have S0 : SI w n l xs a b M Y q [] [(a : Int)] [(a : Int)] ((List.replicate n (-1)).set a (2 * (l.length : Int))) (.slice (some ⟨q, 0, none⟩) 1 1) W2 :=
  ⟨Srch.start l xs a ha, by simp, by simp; intro e; exact HAB.out (by omega), g0, g1, g2, g3, g4, fun g hg => by simp [Value.ownBlock] at hg; omega, g5, by omega⟩
 have HS0 := Lib.hid S0
 have HQ := Lib.hid hq
 have HYQ : Hid (M + 1 < Y ∧ Y < q ∧ B < M) := Lib.hid ⟨q1, by omega, q3⟩
 clear S0 g0 g1 g2 g3 g4 g5 g6 e1 hq hW2 HY HO0 HO1 HB1 i0 i1 i2 i3 i4 u3 q2 q4 q5 q6
 refine wp_loop_ghost_k (fun k A W => ∃ u8 u9 u10 u11 u12 u13 u14 u15 u16 u17 u18 u19 u20 u21 u22 u23 u24 u25 u26 u27 u28 u29 u30 u31 u32 u33 u34 u35 u36 u37 u38 u39 u40 u41 u42 u43 u44 u45 u46 u47 u48 u49 u50 u51 u52 u53 u54 u55 u56 u57 u58 Ds done qs bys qv, A = { tmps := #[.pointer (some ⟨B, 0, none⟩), .int .i64 a, .int .i64 b, undef, undef, .pointer (some ⟨M, 0, none⟩), .pointer (some ⟨M + 1, 0, none⟩), .pointer (some ⟨q + 1, 0, none⟩), u8, u9, u10, u11, u12, u13, u14, u15, u16, u17, u18, u19, u20, u21, u22, u23, u24, u25, u26, u27, u28, u29, u30, u31, u32, u33, u34, u35, u36, u37, u38, u39, u40, u41, u42, u43, u44, u45, u46, u47, u48, u49, u50, u51, u52, u53, u54, u55, u56, u57, u58], defers := marks Ds } ∧ k = n - done.length ∧ SI w n l xs a b M Y q done qs qs bys qv W ∧ Marks (q + 2) Ds W) n ?start ?round
 case start =>
  exact ⟨_, _, _, _, _, _, _, _, _, _, _, _, _, _, _, _, _, _, _, _, _, _, _, _, _, _, _, _, _, _, _, _, _, _, _, _, _, _, _, _, _, _, _, _, _, _, _, _, _, _, _, [], [], [(a : Int)], _, _, rfl, rfl, HS0.out, List.nodup_nil, fun D h => by cases h⟩
 case round =>
  rintro gk _ wr ⟨u8, u9, u10, u11, u12, u13, u14, u15, u16, u17, u18, u19, u20, u21, u22, u23, u24, u25, u26, u27, u28, u29, u30, u31, u32, u33, u34, u35, u36, u37, u38, u39, u40, u41, u42, u43, u44, u45, u46, u47, u48, u49, u50, u51, u52, u53, u54, u55, u56, u57, u58, Ds, done, qs, bys, qv, rfl, rfl, hS, hM⟩
  intro J K hJ hK
  cases qs with
  | nil =>
    obtain ⟨s1, s2, s3, s4, s5, s6, s7, s8, s9, s10, s11⟩ := hS
    obtain ⟨g', off, cap, cs, rfl, t2, t3, t4, t5, t6, t7⟩ := s8
    have m1 := s7.cell
    have m3 := s7.lt
    have p1 := s5.cell
    have p2 := s5.free
    have p3 := s5.lt
    have HE1 : Hid (SEnd w n l xs a b M Y wr) := Lib.hid ⟨bys, done ++ [], s1, fun _ v hv => s2 v (by simpa using hv), s5, s6, s10⟩
    have HE3 := Lib.hid hM
    clear s1 s2 s3 s4 s5 s6 s7 s9 s10 s11 t2 t3 t4 t5 t6 t7 hM
    go_wp2_with fail
    exact search_end Ds _ (by simp) HE1.out HE3.out HMM.out HYQ.out.1 (by have := HYQ.out; omega)
  | cons v qs =>
    obtain ⟨s1, s2, s3, s4, s5, s6, s7, s8, s9, s10, s11⟩ := hS
    have hv := s1.2.2.1 v (by simp)
    obtain ⟨v, rfl⟩ : ∃ m : Nat, v = m := ⟨v.toNat, by omega⟩
    simp only [List.map_cons] at s8
    obtain ⟨g, off, cap, rfl, t1, t2, t3, t4, t5⟩ := s8.head
    simp only [List.length_map] at t1 t5 s7 s9
    obtain ⟨i0, hinf, hz0, hz1, hz2⟩ := info_parts Tryz.infoInt
    have hql0 := s1.len
    have hsl := fun W => run_slice_from (P := Tryz.prog) Tryz.underlying64 hinf (some ⟨g, off, none⟩) (qs.length + 1) cap .i64 1 (by omega) (by omega) W
    rw [hz1] at hsl
    simp only [Int.toNat_one] at hsl
    obtain ⟨A', hA'⟩ : ∃ A', A' = (if cap = 1 then some (⟨g, off, none⟩ : Addr) else (some (⟨g, off, none⟩ : Addr)).map (·.add (1 * 1))) := ⟨_, rfl⟩
    rw [← hA'] at hsl t5
    have hAb : (Value.slice A' (qs.length + 1 - 1) (cap - 1)).ownBlock = some g := by
     rw [hA']
     split
     ·rfl
     ·simp [Value.ownBlock, Go.WideShapes.add_plain]
    have m1 := s7.cell
    have m2 := s7.free
    have m3 := s7.lt
    have HS := Lib.hid (And.intro s1 (And.intro s2 (And.intro s3 (And.intro s4 (And.intro s5 (And.intro s6 (And.intro s7 (And.intro t5 (And.intro s9 (And.intro s10 (And.intro s11 (And.intro hAb t3))))))))))))
    have HMK := Lib.hid hM
    have hq0 : (0 : Int) < (qs.length : Int) + 1 := by omega
    have hql : qs.length + 1 ≤ 4096 := by simp at hql0; omega
    clear s1 s2 s3 s4 s5 s6 s7 s8 s9 s10 s11 t5 hM hz0 hz1 hz2 hinf hql0 hA' hAb
    go_wp2_with fail
    refine (usable_any B v _).mono ?_
    rintro e W3 ⟨rfl, hW3⟩
    go_wp2_with fail
    refine (wpIn_wide (n := 5)).1 ?_
    refine abs_world ?_
    intro W3 hW3
    obtain ⟨N, hN⟩ : ∃ N, N = wr.heap.size := ⟨_, rfl⟩
    rw [← hN]
    have z3 : W3.heap.size = N + 2 := by rw [hW3, hN]; simp
    have x1 : W3.cell? ⟨N, 0, none⟩ = some (.pointer (some ⟨B, 0, none⟩)) := by rw [hW3, hN]; simp [go_sem]
    have x2 : W3.cell? ⟨N + 1, 0, none⟩ = some (.int .i64 v) := by rw [hW3, hN]; simp [go_sem]
    have e3 : ∀ b, b < N → W3.heap[b]? = (wr.setCell ⟨q + 1, 0, none⟩ (.slice A' qs.length (cap - 1))).heap[b]? := fun b hb => by
     rw [hW3]; exact (Below.heap_alloc _ _ _ (by simp; omega)).trans (Below.heap_alloc _ _ _ (by simp; omega))
    have HSI : Hid (SI w n l xs a b M Y q done ((v : Int) :: qs) qs bys (.slice A' qs.length (cap - 1)) W3) := Lib.hid (by
     obtain ⟨s1, s2, s3, s4, s5, s6, s7, s8, s9, s10, s11, s12, s13⟩ := HS.out
     have g9 := s9 g rfl
     have hMm := HMM.out
     have hMq : M + 1 < q := by have := HYQ.out; omega
     have s12' : ∀ m, (Value.slice A' m (cap - 1)).ownBlock = some g := fun m => by cases A' <;> exact s12
     refine ⟨s1, s2, s3, (s4.far (a := ⟨q + 1, 0, none⟩) (by show M ≠ q + 1; omega) _).of_block (e3 _ (by have := s4.lt; omega)), (s5.far (a := ⟨q + 1, 0, none⟩) (by show M + 1 ≠ q + 1; omega) _).of_block (e3 _ (by have := s5.lt; omega)), (s6.far (a := ⟨q + 1, 0, none⟩) (by show Y ≠ q + 1; have := HYQ.out; omega) _).of_block (e3 _ (by have := s6.lt; omega)), (s7.set _).of_block (e3 _ (by have := s7.lt; omega)),
      (s8.far (a := ⟨q + 1, 0, none⟩) (fun g' hg' => ?_) _).of_block (fun g' hg' => e3 g' ?_), fun g' hg' => ?_, ?_, by omega⟩
     ·rw [s12'] at hg'
      injection hg' with hg'
      subst hg'
      exact g9.2
     ·rw [s12'] at hg'
      injection hg' with hg'
      subst hg'
      omega
     ·rw [s12'] at hg'
      injection hg' with hg'
      subst hg'
      exact g9
     ·rw [hW3]
      have zz := s10.size
      exact ((s10.setCell (by show w.heap.size ≤ q + 1; omega) _).alloc (by simp; omega) _).alloc (by simp; omega) _)
    have HG : Hid (∀ g', (Value.slice A' qs.length (cap - 1)).ownBlock = some g' → M ≤ g' ∧ g' < N) := Lib.hid (fun g' hg' => by
     obtain ⟨s1, s2, s3, s4, s5, s6, s7, s8, s9, s10, s11, s12, s13⟩ := HS.out
     have s12' : ∀ m, (Value.slice A' m (cap - 1)).ownBlock = some g := fun m => by cases A' <;> exact s12
     rw [s12'] at hg'
     injection hg' with hg'
     subst hg'
     have := s8.lt g (s12' _)
     omega)
    have HMK3 : Hid (Marks (q + 2) Ds W3 ∧ ∀ D ∈ Ds, D < W3.heap.size) := Lib.hid (by
     have h := HMK.out
     refine ⟨⟨h.1, fun D hD => ⟨(h.2 D hD).1, (e3 D (by rw [hN]; exact h.lt D hD)).trans ((Below.heap_setCell _ _ _ _ ?_).trans (h.2 D hD).2)⟩⟩, fun D hD => by have := h.lt D hD; omega⟩
     have := (h.2 D hD).1
     show D ≠ q + 1
     omega)
    have hMq : M + 1 < q ∧ M + 1 < Y ∧ Y < q ∧ q + 1 < N := by have := HYQ.out; have := HS.out.2.2.2.2.2.2.1.lt; omega
    obtain ⟨hM1, hM2, hM3, hM4⟩ := hMq
    have hBelow : Hid (Below w.heap.size w W3) := Lib.hid HSI.out.2.2.2.2.2.2.2.2.2.1
    have hNet := HN.out.keep (Kp.of_below' (P := P) hBelow.out HP.out)
    have hFl : FlAt W3 F xs := HFl.out.of_block (hBelow.out.block F HFl.out.lt)
    have hvn : v < n := by have := HS.out.1.2.2.1 v (by simp); omega
    obtain ⟨ls, hls⟩ : ∃ ls, adj[v]? = some ls := ⟨_, List.getElem?_eq_getElem (by rw [HA.out.1]; exact hvn)⟩
    have hadj := HA.out.2 v ls hls
    have HADJ := Lib.hid hadj
    clear e3 hW3 HS HMK m1 m2 m3 t1 t2 t3 t4 hq0 hql hN
    refine wpIn_seq (α := Nat) rfl (by decide) (gf := 161) (lb := #[.pointer (some ⟨N, 0, none⟩), .pointer (some ⟨N + 1, 0, none⟩)]) rfl trivial (enters_of Tryz.func161 (by kernel_rfl) rfl)
     (own := fun _ => False) (free := fun b => M ≤ b ∧ b < N) (fun _ h => h.elim)
     (usable_iter (P := P) W3 4 v ls hls N (N + 1) hNet hFl HB.out HM.out hll (fun r hr => ((hadj r).1 hr).1) (fun b hb => by have := HP.out b hb; have := HMM.out; omega) (fun b => M ≤ b ∧ b < N)
       (fun b h => ⟨fun hp => by have := HP.out b hp; have := HMM.out; omega, by have := HFl.out.lt; have := HMM.out; omega, by omega, by omega⟩) x1 x2 (by omega) (by omega))
     (fun _ => rfl) (fun pre W => ∃ bys tl qv, SI w n l xs a b M Y q done ((v : Int) :: tl) tl bys qv W ∧ (∀ r ∈ pre, endR l r ∈ done ++ (v : Int) :: tl) ∧ Marks (q + 2) Ds W ∧ W3.heap.size ≤ W.heap.size ∧ ∀ g, qv.ownBlock = some g → (M ≤ g ∧ g < N) ∨ W3.heap.size ≤ g)
     (fun cc _ W => cc = .exit 0 ∧ SEnd w n l xs a b M Y W ∧ Marks (q + 2) Ds W ∧ W3.heap.size ≤ W.heap.size) ?own ?ownx (fun _ _ _ _ _ h => h.elim) (fun _ _ _ _ _ _ h => h.elim)
     ⟨bys, qs, _, HSI.out, by simp, HMK3.out.1, Nat.le_refl _, fun g' hg' => .inl (HG.out g' hg')⟩
     (fun r a' W => ∃ u8 u11 u12 u13 u14 u15 u16 u17 u18 u19 u20 u21 u22 u23 u24 u25 u26 u27 u28 u29 u30 u31 u32 u33 u34 u35 u36 u37 u38 u39 u40 u41 u42 u43 u44 u45 u46 u47 u48 u49 u50 u51 u52 u53 u54 u55 u56 u57 u58, a' = { tmps := #[.pointer (some ⟨B, 0, none⟩), .int .i64 a, .int .i64 b, undef, undef, .pointer (some ⟨M, 0, none⟩), .pointer (some ⟨M + 1, 0, none⟩), .pointer (some ⟨q + 1, 0, none⟩), u8, .int .i64 r, .int .i64 (endR l r), u11, u12, u13, u14, u15, u16, u17, u18, u19, u20, u21, u22, u23, u24, u25, u26, u27, u28, u29, u30, u31, u32, u33, u34, u35, u36, u37, u38, u39, u40, u41, u42, u43, u44, u45, u46, u47, u48, u49, u50, u51, u52, u53, u54, u55, u56, u57, u58], defers := [] }) (fun _ _ _ _ _ _ h _ _ => h) ?assign ?body ?done ?stop
    case own =>
     rintro pre W W' row ⟨bys, tl, qv, h1, h2, h3, h4, h5⟩ hg hr
     exact ⟨bys, tl, qv, h1.other ⟨hg, fun r e => (hr r e).2⟩ (fun r e => by have := (hr r e).1; have := hBelow.out.size; omega), h2, h3.other hg (fun D hD e => by have := (hr D e).1; have := HMK3.out.2 D hD; omega), Nat.le_trans h4 hg.size, h5⟩
    case ownx =>
     rintro cc pre W W' row ⟨h0, ⟨bys, ord, h1, h2, h3, h4, h5⟩, h6, h7⟩ hg hr
     have ho : Other W W' row := ⟨hg, fun r e => (hr r e).2⟩
     exact ⟨h0, ⟨bys, ord, h1, h2, ho.one h3, ho.fl h4, h5.grown hg h5.size (fun r e => by have := (hr r e).1; have := hBelow.out.size; omega)⟩, h6.other hg (fun D hD e => by have := (hr D e).1; have := HMK3.out.2 D hD; omega), Nat.le_trans h7 hg.size⟩
    case assign =>
     intro L pre r W K hi hpr hz hK
     gi_wp2
     exact hK _ _ (KeepsOthers.refl _) (Below.refl _ _) ⟨_, _, _, _, _, _, _, _, _, _, _, _, _, _, _, _, _, _, _, _, _, _, _, _, _, _, _, _, _, _, _, _, _, _, _, _, _, _, _, _, _, _, _, _, _, _, _, _, _, rfl⟩
    case body =>
     rintro L pre r a' W ⟨bys, tl, qv, h1, h2, h3, h4, h5⟩ hpr hz ⟨u8, u11, u12, u13, u14, u15, u16, u17, u18, u19, u20, u21, u22, u23, u24, u25, u26, u27, u28, u29, u30, u31, u32, u33, u34, u35, u36, u37, u38, u39, u40, u41, u42, u43, u44, u45, u46, u47, u48, u49, u50, u51, u52, u53, u54, u55, u56, u57, u58, rfl⟩
     have hmem : r ∈ ls ∧ openR l xs r = true := by
      obtain ⟨t, ht⟩ := hpr
      exact List.mem_filter.1 (by rw [← ht]; simp)
     obtain ⟨hr1, hr2⟩ := (HADJ.out r).1 hmem.1
     have hcap : 0 < capR l xs r := by simpa [openR] using hmem.2
     have hend : 0 ≤ endR l r ∧ endR l r < n := by
      have hl : r / 2 < l.length := by omega
      have := HIN.out (l.getD (r / 2) default) (by simp [List.getD_eq_getElem?_getD, List.getElem?_eq_getElem hl])
      unfold endR
      split <;> omega
     obtain ⟨u, hu⟩ : ∃ u : Nat, endR l r = (u : Int) := ⟨(endR l r).toNat, by omega⟩
     have hun : u < n := by omega
     obtain ⟨s1, s2, s3, s4, s5, s6, s7, s8, s9, s10, s11⟩ := h1
     have hbl := s1.1
     have p1 := s5.cell
     have p2 := s6.cell (i := u) (by omega)
     have p3 := s6.free u
     have p4 := s4.cell
     have p5 := s7.cell
     have p6 := s7.free
     have p7 := s5.lt
     have p8 := s6.lt
     have p9 := s4.lt
     have p10 := s7.lt
     have hlen := s1.len
     obtain ⟨z, hz⟩ : ∃ z, z = bys.getD u 0 := ⟨_, rfl⟩
     rw [← hz] at p2
     have HU := Lib.hid hu
     have HZ := Lib.hid hz
     have HS1 := Lib.hid (And.intro s1 (And.intro s2 (And.intro s3 (And.intro s4 (And.intro s5 (And.intro s6 (And.intro s7 (And.intro s8 (And.intro s9 (And.intro s10 s11))))))))))
     have HR := Lib.hid (And.intro hr1 (And.intro hr2 hcap))
     have HI2 := Lib.hid h2
     have HI3 := Lib.hid h3
     have HI5 := Lib.hid h5
     rw [hu]
     clear hu hz hpr hmem hr1 hr2 hcap hend s1 s2 s3 s4 s5 s6 s7 s8 s9 s10 s11 h2 h3 h5 hbl
     by_cases hz0 : 0 ≤ z
     ·gi_wp2
      refine ⟨KeepsOthers.refl _, Keep.refl _ _ _, bys, tl, qv, HS1.out, fun r' hr' => ?_, HI3.out, h4, HI5.out⟩
      rcases List.mem_append.1 hr' with hr' | hr'
      ·exact HI2.out r' hr'
      ·simp at hr'
       subst hr'
       rw [HU.out]
       exact (HS1.out.1.2.2.2.1 u hun).2 (by rw [← HZ.out]; exact hz0)
     ·have hz1 : decide (0 ≤ z) = false := by simpa using hz0
      have hnx : Hid (Srch n l xs a (bys.set u (r : Int)) (done ++ (v : Int) :: tl ++ [(u : Int)])) := Lib.hid (HS1.out.1.next HR.out.1 (by rw [HR.out.2.1]; simp) HR.out.2.2 HU.out hun (by rw [← HZ.out]; exact hz0))
      by_cases hub : u = b
      ·have hub2 : ((u : Int) == (b : Int)) = true := by simp [hub]
       have HUB := Lib.hid hub
       clear hub
       gi_wp2
       obtain ⟨s1, s2, s3, s4, s5, s6, s7, s8, s9, s10, s11⟩ := HS1.out
       exact ⟨KeepsOthers.setCell _ _ _, rfl, ⟨bys.set u (r : Int), _, hnx.out, fun hb => absurd (by rw [← HUB.out]; simp) hb, s5.far (a := ⟨Y, u, none⟩) (by show M + 1 ≠ Y; omega) _, s6.set u _, s10.setCell (by show w.heap.size ≤ Y; have := HMM.out; omega) _⟩, HI3.out.others (KeepsOthers.setCell _ _ _), by rw [World.size_setCell]; omega⟩
      ·have hub2 : ((u : Int) == (b : Int)) = false := by simp; omega
       have HUB := Lib.hid hub
       clear hub
       obtain ⟨i0, hi0, hz0', hz1', hz2'⟩ := info_parts Tryz.infoInt
       have HI := Lib.hid hi0
       clear hi0
       gi_wp2_with (gi_at_builtin; refine stop_mk ?_)
       obtain ⟨W4, hW4⟩ : ∃ X, X = (W.setCell ⟨Y, u, none⟩ (.int .i64 r)).alloc (.cells #[.int .i64 u] 3) := ⟨_, rfl⟩
       rw [← hW4]
       have z4 : W4.heap.size = W.heap.size + 1 := by rw [hW4]; simp
       have e4 : ∀ b, b < W.heap.size → b ≠ Y → W4.heap[b]? = W.heap[b]? := fun b hb hne => by
        rw [hW4]; exact (Below.heap_alloc _ _ _ (by simpa using hb)).trans (Below.heap_setCell _ _ _ _ hne)
       have y4 : FlAt W4 Y (bys.set u (r : Int)) := by
        rw [hW4]; exact (HS1.out.2.2.2.2.2.1.set u _).of_block (Below.heap_alloc _ _ _ (by simpa using p8))
       have c4 : W4.cell? ⟨W.heap.size, 0, none⟩ = some (.int .i64 u) := by rw [hW4]; simp [go_sem]
       have t4 : Tail W4 (M + 2) 3 qv (tl.map (Value.int .i64)) := HS1.out.2.2.2.2.2.2.2.1.of_block (fun g hg => e4 g (HS1.out.2.2.2.2.2.2.2.1.lt g hg).2 (HS1.out.2.2.2.2.2.2.2.2.1 g hg).1)
       have b4 : Below w.heap.size w W4 := by
        rw [hW4]
        have := HS1.out.2.2.2.2.2.2.2.2.2.1
        exact (this.setCell (by show w.heap.size ≤ Y; have := HMM.out; omega) _).alloc (by simp; exact this.size) _
       have ko4 : KeepsOthers W W4 := by rw [hW4]; exact (KeepsOthers.setCell _ _ _).trans (KeepsOthers.alloc _ _)
       have kp4 : Keep W3.heap.size (fun b => M ≤ b ∧ b < N) W W4 := by
        rw [hW4]; exact ((Keep.refl _ _ _).setCell (a := ⟨Y, u, none⟩) (.inl (by show M ≤ Y ∧ Y < N; omega)) _).alloc (by simp; omega) _
       have o4 : One W4 (q + 1) qv 64 := HS1.out.2.2.2.2.2.2.1.of_block (e4 _ p10 (by omega))
       have c5 := o4.cell
       have c6 := o4.free
       have htl : tl.length + 1 ≤ 4096 := by simp at hlen; omega
       refine stop_out (wpListIn_append_tail rfl _ _ _ rfl i0 _ 8 Tryz.underlying64 HI.out hz0' hz1' hz2' rfl rfl t4 (.int .i64 u) rfl W.heap.size 0 1 rfl c4 (by simp [maxLen]; omega) (by simp; omega) (by have := HS1.out.2.2.2.2.2.2.2.2.2.1.size; have := HMM.out; omega) ?_)
       intro v' W5 t5 g5 b5
       obtain ⟨vA, vn, vc, rfl⟩ : ∃ vA vn vc, v' = .slice vA vn vc := by obtain ⟨_, _, _, _, h, _⟩ := t5; exact ⟨_, _, _, h⟩
       have e5 : ∀ b, b < W.heap.size → b ≠ Y → (∀ g, qv.ownBlock = some g → b ≠ g) → W5.heap[b]? = W.heap[b]? := fun b hb hne hng => (g5.block b (by omega) (fun e => hng b e.symm rfl)).trans (e4 b hb hne)
       have hq5 : ∀ g, qv.ownBlock = some g → M + 2 ≤ g ∧ g ≠ Y ∧ g ≠ q + 1 := fun g hg => ⟨(HS1.out.2.2.2.2.2.2.2.1.lt g hg).1, HS1.out.2.2.2.2.2.2.2.2.1 g hg⟩
       have o5 : One W5 (q + 1) qv 64 := HS1.out.2.2.2.2.2.2.1.of_block (e5 _ p10 (by omega) (fun g hg => by have := hq5 g hg; omega))
       have d1 := o5.cell
       have d2 := o5.free
       have d3 := o5.lt
       have HT5 := Lib.hid (And.intro t5 (And.intro g5 (And.intro b5 (And.intro e5 (And.intro hq5 (And.intro o5 (And.intro t4 (And.intro y4 (And.intro b4 (And.intro ko4 (And.intro kp4 z4)))))))))))
       clear t5 g5 b5 e5 hq5 o5 t4 y4 b4 ko4 kp4 z4 e4 o4 c5 c6 c4 hW4
       gi_wp2
       obtain ⟨t5, g5, b5, e5, hq5, o5, t4, y4, b4, ko4, kp4, z4⟩ := HT5.out
       obtain ⟨s1, s2, s3, s4, s5, s6, s7, s8, s9, s10, s11⟩ := HS1.out
       have hzw := s10.size
       have hMm := HMM.out
       have z5 := g5.size
       have hvb : ∀ g, (Value.slice vA vn vc).ownBlock = some g → g ≠ Y ∧ g ≠ q + 1 ∧ ((M ≤ g ∧ g < N) ∨ W3.heap.size ≤ g) := fun g hg => by
        rcases b5 with h | ⟨k, h, hk⟩
        ·rw [h] at hg
         have h6 := hq5 g hg
         have h7 := HI5.out g hg
         omega
        ·rw [h] at hg
         injection hg with hg
         subst hg
         omega
       refine ⟨(ko4.trans (KeepsOthers.of_grownBy g5 (fun j o hj ho => ?_))).trans (KeepsOthers.setCell _ _ _), (kp4.grown g5 (by omega) (fun k e => HI5.out k e)).setCell (a := ⟨q + 1, 0, none⟩) (.inl (by show M ≤ q + 1 ∧ q + 1 < N; omega)) _,
        bys.set u (r : Int), tl ++ [(u : Int)], .slice vA vn vc, ⟨?_, ?_, ?_, ?_, ?_, ?_, ?_, ?_, ?_, ?_, ?_⟩, ?_, ?_, ?_, ?_⟩
       ·obtain ⟨o', h3, h4'⟩ := t4.cells j hj
        rw [ho] at h3
        cases h3
        exact h4'
       ·have := hnx.out
        simpa using this
       ·intro x hx
        have := (s2 x hx).more (o := [(u : Int)])
        simpa using this
       ·intro hb
        have : (b : Int) ∈ done ++ (v : Int) :: tl ∨ (b : Int) = u := by simpa [or_assoc] using hb
        rcases this with h | h
        ·exact s3 h
        ·exact HUB.out (by omega)
       ·exact (s4.of_block (e5 _ p9 (by omega) (fun g hg => by have := hq5 g hg; omega))).far (a := ⟨q + 1, 0, none⟩) (by show M ≠ q + 1; omega) _
       ·exact (s5.of_block (e5 _ p7 (by omega) (fun g hg => by have := hq5 g hg; omega))).far (a := ⟨q + 1, 0, none⟩) (by show M + 1 ≠ q + 1; omega) _
       ·exact (y4.of_block (g5.block Y (by omega) (fun e => (hq5 Y e.symm).2.1 rfl))).far (a := ⟨q + 1, 0, none⟩) (by show Y ≠ q + 1; omega) _
       ·exact o5.set _
       ·rw [List.map_append]
        exact t5.far (a := ⟨q + 1, 0, none⟩) (fun g hg => (hvb g hg).2.1) _
       ·exact fun g hg => ⟨(hvb g hg).1, (hvb g hg).2.1⟩
       ·exact ((b4.grown g5 (by omega) (fun k e => by have := hq5 k e; omega))).setCell (by show w.heap.size ≤ q + 1; omega) _
       ·rw [World.size_setCell]; omega
       ·intro r' hr'
        rcases List.mem_append.1 hr' with hr' | hr'
        ·have := HI2.out r' hr'
         simp only [List.mem_append, List.mem_cons] at this ⊢
         rcases this with h | h | h
         ·exact .inl h
         ·exact .inr (.inl h)
         ·exact .inr (.inr (.inl h))
        ·simp at hr'
         subst hr'
         rw [HU.out]
         simp
       ·exact HI3.out.others ((ko4.trans (KeepsOthers.of_grownBy g5 (fun j o hj ho => by
         obtain ⟨o', h3, h4'⟩ := t4.cells j hj
         rw [ho] at h3
         cases h3
         exact h4'))).trans (KeepsOthers.setCell _ _ _))
       ·rw [World.size_setCell]; omega
       ·exact fun g hg => (hvb g hg).2.2
    case done =>
     rintro D' ys W hD rfl ⟨bys, tl, qv, h1, h2, h3, h4, h5⟩ hK'
     refine hK _ _ (Handed.intro (n - (done ++ [(v : Int)]).length) ?_ (hJ _ _ _ ⟨_, _, _, _, _, _, _, _, _, _, _, _, _, _, _, _, _, _, _, _, _, _, _, _, _, _, _, _, _, _, _, _, _, _, _, _, _, _, _, _, _, _, _, _, _, _, _, _, _, _, _, D' :: Ds, done ++ [(v : Int)], tl, bys, qv, rfl, rfl, ?_, ?_⟩))
     ·have := h1.1.len
      simp at this ⊢
      omega
     ·obtain ⟨s1, s2, s3, s4⟩ := h1
      have e : done ++ [(v : Int)] ++ tl = done ++ (v : Int) :: tl := by simp
      unfold SI
      rw [e]
      refine ⟨s1, fun u hu => ?_, s3, s4⟩
      rcases List.mem_append.1 hu with hu | hu
      ·exact s2 u hu
      ·simp at hu
       subst hu
       intro r hr hs hc
       exact h2 r (List.mem_filter.2 ⟨(HADJ.out r).2 ⟨hr, hs⟩, by simp [openR, hc]⟩)
     ·refine ⟨List.nodup_cons.2 ⟨fun hm => by have := HMK3.out.2 D' hm; omega, h3.1⟩, fun E hE => ?_⟩
      rcases List.mem_cons.1 hE with rfl | hE
      ·exact ⟨by omega, hK'⟩
      ·exact h3.2 E hE
    case stop =>
     rintro D' cc pre W hD _ ⟨rfl, h1, h3, h4⟩ hK'
     have HD2 : Hid (q + 2 ≤ D' ∧ W3.heap.size ≤ D') := Lib.hid ⟨by omega, hD⟩
     gi_wp2
     have hc := h1.cell
     have hfz := h1.free
     have HE1 := Lib.hid h1
     have HE3 := Lib.hid h3
     have HK' := Lib.hid hK'
     have hc2 := hc
     have hlt := h1.lt
     clear h1 h3 hK'
     go_wp2_with fail
     rw [Exit.noGoto_ret]
     exact search_end (D' :: Ds) _ (by simp) HE1.out ⟨List.nodup_cons.2 ⟨fun hm => by have := HMK3.out.2 D' hm; have := HD2.out.2; omega, HE3.out.1⟩, fun E hE => by
      rcases List.mem_cons.1 hE with rfl | hE
      ·exact ⟨HD2.out.1, HK'.out⟩
      ·exact HE3.out.2 E hE⟩ HMM.out hM2 (by omega)
end Go.Proofs.YtalmbigebjbaoaaGreatDoor.Fl
