/- TopDegree, what its proof leans on: the texts TqT. -/
import Derived.Test.YtalmbigebjbaoaaGreatDoorM30
import Derived.Test.YtalmbigebjbaoaaGreatDoorM12
import Derived.Test.YtalmbigebjbaoaaGreatDoorM01
import Derived.Lib.SmallJoins
namespace Go.Proofs.YtalmbigebjbaoaaGreatDoor
open Go.RowKit Go.WideShapes Go.ChangeShapes Go.Joins Go.Deep Go.Shelf
set_option linter.unusedSimpArgs false
set_option linter.unusedVariables false
set_option maxRecDepth 100000
theorem Tryz.cells_In : Tryz.prog.cellsOf 3 = 1 := by kernel_rfl
theorem Tryz.cells_Bo : Tryz.prog.cellsOf 4 = 1 := by kernel_rfl
theorem Tryz.cells_St : Tryz.prog.cellsOf 9 = 1 := by kernel_rfl
theorem Tryz.cells_Ra : Tryz.prog.cellsOf 41 = 2 := by kernel_rfl
theorem Tryz.cells_Us : Tryz.prog.cellsOf 109 = 3 := by kernel_rfl
theorem Tryz.cells_Rq : Tryz.prog.cellsOf 67 = 6 := by kernel_rfl
theorem Tryz.cells_Pg : Tryz.prog.cellsOf 44 = 7 := by kernel_rfl
theorem Tryz.cells_SI : Tryz.prog.cellsOf 64 = 1 := by kernel_rfl
theorem Tryz.cells_SS : Tryz.prog.cellsOf 65 = 1 := by kernel_rfl
theorem Tryz.cells_SR : Tryz.prog.cellsOf 42 = 1 := by kernel_rfl
theorem Tryz.cells_Ru : Tryz.prog.cellsOf 121 = 6 := by kernel_rfl
theorem Tryz.cells_SRu : Tryz.prog.cellsOf 119 = 1 := by kernel_rfl
theorem Tryz.cells_Cr : Tryz.prog.cellsOf 123 = 16 := by kernel_rfl
theorem Tryz.cells_SCr : Tryz.prog.cellsOf 22 = 1 := by kernel_rfl
theorem Tryz.cells_SPg : Tryz.prog.cellsOf 23 = 1 := by kernel_rfl
theorem Tryz.cells_SSy : Tryz.prog.cellsOf 24 = 1 := by kernel_rfl
theorem Tryz.cells_Bk : Tryz.prog.cellsOf 26 = 3 := by kernel_rfl
theorem Tryz.cells_Ky : Tryz.prog.cellsOf 86 = 3 := by kernel_rfl
theorem Tryz.cells_Sp : Tryz.prog.cellsOf 181 = 2 := by kernel_rfl
theorem Tryz.cells_Fc : Tryz.prog.cellsOf 183 = 8 := by kernel_rfl
theorem Tryz.cells_SFc : Tryz.prog.cellsOf 27 = 1 := by kernel_rfl
theorem Tryz.cells_Wd : Tryz.prog.cellsOf 29 = 4 := by kernel_rfl
def zero_Wd : Value := .agg #[.slice none 0 0, .slice none 0 0, .slice none 0 0, .slice none 0 0]
def Us.ok (c : Us) : Prop := (Lit.int .i64 c.att).wf = true ∧ (Lit.int .i64 c.req).wf = true ∧ (Lit.int .i64 c.credits).wf = true
def slE (s : Sl) : List Value := [.slice s.a s.n s.c]
def anyB : Nat → Prop := fun _ => True
theorem bulk_one {H : Type} (d : DataW H) : 1 ≤ Rows.uptoBulk d := by
 cases d with
 | lit l => cases l <;> simp [Rows.uptoBulk]
 | _ => simp [Rows.uptoBulk]
theorem bulk_part {H : Type} {d : DataW H} : ∀ {l : List (DataW H)}, d ∈ l → Rows.uptoBulk d ≤ Rows.uptoBulkAll l
 | [], h => by cases h
 | x :: r, h => by
   simp only [Rows.uptoBulkAll]
   rcases List.mem_cons.1 h with rfl | h
   ·omega
   ·have := bulk_part h
    omega
theorem bulk_count {H : Type} : ∀ (l : List (DataW H)), l.length ≤ Rows.uptoBulkAll l
 | [] => by simp [Rows.uptoBulkAll]
 | x :: r => by
   have h1 := bulk_one x
   have h2 := bulk_count r
   simp only [Rows.uptoBulkAll, List.length_cons]
   omega
theorem bulk_slice {H : Type} (el sp : List (DataW H)) : el.length ≤ Rows.uptoBulk (.slice el sp) ∧ ∀ x ∈ el, Rows.uptoBulk x ≤ Rows.uptoBulk (.slice el sp) := by
 have h1 := bulk_count el
 refine ⟨?_, fun x hx => ?_⟩
 ·simp only [Rows.uptoBulk]
  omega
 ·have := bulk_part hx
  simp only [Rows.uptoBulk]
  omega
section
variable {H : Type} {enc : TypeId × Value → H} {w : World} {base b0 : Nat} {r : Reach} {spare : Nat → Bool} {held : Bool} {v : Value} {d : DataW H} {p : List MemPlace}
theorem openE_In {fuel : Nat} {cs : List Value} {x : DataW H × List MemPlace} (h : DataW.trod enc Tryz.prog w base spare held fuel 3 cs = some x) : ∃ y : Int, intE y = cs ∧ (Lit.int .i64 y).wf = true := by
 obtain ⟨a, ha, _, wa⟩ := DataW.trod_int Tryz.underlying3 h
 exact ⟨a, ha.symm, wa⟩
theorem open_hdr {t e : TypeId} {fuel : Nat} {cs : List Value} {x : DataW H × List MemPlace} (ht : Tryz.prog.underlying t = some (.slice e)) (h : DataW.trod enc Tryz.prog w base spare held fuel t cs = some x) : ∃ a l c, cs = [.slice a l c] := by
 rcases open_slice ht h with ⟨hcs, _⟩ | ⟨a, len, cap, m, n, D, Pl, hcs, _⟩
 ·exact ⟨_, _, _, hcs⟩
 ·exact ⟨_, _, _, hcs⟩
theorem open_readsM {α : Type} [Inhabited α] {en : α → List Value} {Q : α → Prop} {Me : DataW H → Prop} {t e : TypeId} {sz fuel : Nat} {a0 : Option Addr} {l0 c0 : Nat} {d : DataW H} {ps : List MemPlace} (ht : Tryz.prog.underlying t = some (.slice e)) (hsz : Tryz.prog.cellsOf e = sz) (hpos : 0 < sz)
 (hel : ∀ fuel cs x, DataW.trod enc Tryz.prog w base spare held fuel e cs = some x → Me x.1 → ∃ y : α, en y = cs ∧ Q y) (hme : ∀ el sp, d = .slice el sp → ∀ x ∈ el, Me x)
 (hf : DataW.trod enc Tryz.prog w base spare held fuel t [.slice a0 l0 c0] = some (d, ps)) :
 ∃ xs : List α, l0 = xs.length ∧ SlR w anyB sz en ⟨a0, l0, c0⟩ xs ∧ ∀ y ∈ xs, Q y := by
 rcases open_slice ht hf with ⟨hcs, _⟩ | ⟨a, len, cap, m, n, D, Pl, hcs, _, hl, hm, hmm, hx, hi⟩
 ·simp at hcs
  obtain ⟨rfl, rfl, rfl⟩ := hcs
  exact ⟨[], rfl, SlR.nil_ _ _ _ _, by simp⟩
 ·simp at hcs
  obtain ⟨rfl, rfl, rfl⟩ := hcs
  have hd : d = .slice ((List.range l0).map D) ((List.range (m - l0)).map fun j => D (l0 + j)) := congrArg Prod.fst hx
  have hlm : l0 ≤ m := by rw [hmm]; split <;> omega
  have key : ∀ i, i < l0 → ∃ y : α, Q y ∧ ∀ j u, (en y)[j]? = some u → w.cell? (a.add (i * sz + j)) = some u := fun i hil => by
   obtain ⟨cs', h1, h2⟩ := hi i (by omega)
   obtain ⟨y, rfl, hq⟩ := hel _ _ _ h2 (hme _ _ hd (D i) (List.mem_map_of_mem (List.mem_range.2 hil)))
   obtain ⟨_, hlen, hc⟩ := World.cells?_some h1
   refine ⟨y, hq, fun j u hj => ?_⟩
   have hjl : j < (en y).length := (List.getElem?_eq_some_iff.1 hj).1
   have := hc j (by omega)
   rw [Go.Deep.add_add, hj, hsz] at this
   exact this
  obtain ⟨f, hfn⟩ := choose_lt (α := α) (p := fun i y => Q y ∧ ∀ j u, (en y)[j]? = some u → w.cell? (a.add (i * sz + j)) = some u) key
  refine ⟨(List.range l0).map f, by simp, ⟨by simp, by simpa using hl, hm, (fun h => by cases h), fun hpos' => ?_, fun _ _ _ => trivial⟩, ?_⟩
  ·have h0 : 0 < l0 := by simpa using hpos'
   obtain ⟨cs', h1, _⟩ := hi 0 (by omega)
   obtain ⟨_, hlen, hc⟩ := World.cells?_some h1
   have hc0 := hc 0 (by omega)
   rw [List.getElem?_eq_getElem (by omega)] at hc0
   obtain ⟨b, off, spot⟩ := a
   have hspot : spot = none := by simpa [Addr.add] using World.cell?_spot hc0
   subst hspot
   have hlt : b < w.heap.size := by
    rw [add_plain, add_plain] at hc0
    exact cell_lt hc0
   refine ⟨b, off, rfl, hlt, fun i x j u hi' hj => ?_⟩
   have hil : i < l0 := by
    have := (List.getElem?_eq_some_iff.1 hi').1
    simpa using this
   have hx : f i = x := by simpa [hil] using hi'
   have := (hfn i hil).2 j u (by rw [hx]; exact hj)
   rw [add_plain] at this
   rw [← this, Nat.add_assoc]
  ·intro y hy
   obtain ⟨i, hi', rfl⟩ := List.mem_map.1 hy
   exact (hfn i (by simpa using hi')).1
theorem openE_Us {fuel : Nat} {cs : List Value} {x : DataW H × List MemPlace} (h : DataW.trod enc Tryz.prog w base spare held fuel 109 cs = some x) : ∃ y : Us, Us.enc y = cs ∧ y.ok := by
 obtain ⟨xs, n, _, _, hl, hxl, hf⟩ := DataW.trod_struct Tryz.underlying109 h
 rw [Tryz.cells_Us] at hl
 obtain ⟨c0, c1, c2, rfl⟩ : ∃ c0 c1 c2, cs = [c0, c1, c2] := by
  match cs, hl with
  | [c0, c1, c2], _ => exact ⟨c0, c1, c2, rfl⟩
 have f0 := hf 0 _ rfl
 have f1 := hf 1 _ rfl
 have f2 := hf 2 _ rfl
 simp at hxl
 simp [Tryz.cells_In] at f0 f1 f2
 rw [List.getElem?_eq_getElem (by omega)] at f0 f1 f2
 obtain ⟨a, ha, _, wa⟩ := DataW.trod_int Tryz.underlying3 f0
 obtain ⟨b, hb, _, wb⟩ := DataW.trod_int Tryz.underlying3 f1
 obtain ⟨c, hc, _, wc⟩ := DataW.trod_int Tryz.underlying3 f2
 simp at ha hb hc
 subst ha hb hc
 exact ⟨⟨a, b, c⟩, rfl, wa, wb, wc⟩
theorem openE_Ra {fuel : Nat} {cs : List Value} {x : DataW H × List MemPlace} (h : DataW.trod enc Tryz.prog w base spare held fuel 41 cs = some x) : ∃ y : Ra, cs = [.int .i64 y.num, .int .i64 y.den] ∧ y.i64 := by
 obtain ⟨xs, n, _, _, hl, hxl, hf⟩ := DataW.trod_struct Tryz.underlying41 h
 rw [Tryz.cells_Ra] at hl
 obtain ⟨c0, c1, rfl⟩ : ∃ c0 c1, cs = [c0, c1] := by
  match cs, hl with
  | [c0, c1], _ => exact ⟨c0, c1, rfl⟩
 have f0 := hf 0 _ rfl
 have f1 := hf 1 _ rfl
 simp at hxl
 simp [Tryz.cells_In] at f0 f1
 rw [List.getElem?_eq_getElem (by omega)] at f0 f1
 obtain ⟨a, ha, _, wa⟩ := DataW.trod_int Tryz.underlying3 f0
 obtain ⟨b, hb, _, wb⟩ := DataW.trod_int Tryz.underlying3 f1
 simp at ha hb
 subst ha hb
 exact ⟨⟨a, b⟩, rfl, by unfold I64; exact bounds_i64 wa, by unfold I64; exact bounds_i64 wb⟩
theorem choose_list {α β : Type} {R : α → β → Prop} : ∀ xs : List α, (∀ x ∈ xs, ∃ y, R x y) → ∃ ys : List β, xs.length = ys.length ∧ ∀ (i : Nat) x y, xs[i]? = some x → ys[i]? = some y → R x y
 | [], _ => ⟨[], rfl, by simp⟩
 | x :: xs, h => by
   obtain ⟨y, hy⟩ := h x (List.mem_cons_self ..)
   obtain ⟨ys, hl, hr⟩ := choose_list xs (fun z hz => h z (List.mem_cons_of_mem _ hz))
   refine ⟨y :: ys, by simp [hl], fun i a b ha hb => ?_⟩
   cases i with
   | zero => simp at ha hb; subst ha hb; exact hy
   | succ i => exact hr i a b (by simpa using ha) (by simpa using hb)
theorem agg_part {xs : List (DataW H × List MemPlace)} {y : DataW H × List MemPlace} (h : y ∈ xs) : Rows.uptoBulk y.1 ≤ Rows.uptoBulk (.agg (xs.map (·.1))) := by
 have h1 : y.1 ∈ xs.map (·.1) := List.mem_map_of_mem h
 have h2 := bulk_part h1
 simp only [Rows.uptoBulk]
 omega
theorem len_bulk {t e : TypeId} {fuel : Nat} {s : Sl} {x : DataW H × List MemPlace} (ht : Tryz.prog.underlying t = some (.slice e)) (h : DataW.trod enc Tryz.prog w base spare held fuel t (slE s) = some x) : s.n ≤ Rows.uptoBulk x.1 := by
 obtain ⟨d, ps⟩ := x
 have h1 := Go.Joins.sliceLen_trod ht (a := s.a) (len := s.n) (cap := s.c) h
 cases d with
 | slice el sp =>
   simp only [Go.Joins.sliceLen] at h1
   rw [← h1]
   exact (bulk_slice _ _).1
 | _ =>
   simp only [Go.Joins.sliceLen] at h1
   rw [← h1]
   exact Nat.zero_le _
theorem open_slB {α : Type} [Inhabited α] {en : α → List Value} {Q : α → Prop} {N : Nat} {t e : TypeId} {sz fuel : Nat} {cs : List Value} {x : DataW H × List MemPlace} (ht : Tryz.prog.underlying t = some (.slice e)) (hsz : Tryz.prog.cellsOf e = sz) (hpos : 0 < sz)
 (hel : ∀ fuel cs x, DataW.trod enc Tryz.prog w base spare held fuel e cs = some x → Rows.uptoBulk x.1 ≤ N → ∃ y : α, en y = cs ∧ Q y) (h : DataW.trod enc Tryz.prog w base spare held fuel t cs = some x) (hN : Rows.uptoBulk x.1 ≤ N) :
 ∃ (s : Sl) (xs : List α), slE s = cs ∧ SlR w anyB sz en s xs ∧ ∀ y ∈ xs, Q y := by
 obtain ⟨a, l, c, rfl⟩ := open_hdr ht h
 obtain ⟨d, ps⟩ := x
 obtain ⟨xs, _, h1, h2⟩ := open_readsM (Me := fun d => Rows.uptoBulk d ≤ N) ht hsz hpos hel (fun el sp e y hy => by
  have h9 := (bulk_slice el sp).2 y hy
  simp only at hN
  rw [e] at hN
  exact Nat.le_trans h9 hN) h
 exact ⟨⟨a, l, c⟩, xs, rfl, h1, h2⟩
theorem openE_Rq {N : Nat} {fuel : Nat} {cs : List Value} {x : DataW H × List MemPlace} (h : DataW.trod enc Tryz.prog w base spare held fuel 67 cs = some x) (hN : Rows.uptoBulk x.1 ≤ N) : ∃ y : RqH, RqH.enc y = cs ∧ ∃ fr, SlR w anyB 1 intE y.fr fr ∧ fr.length ≤ N := by
 obtain ⟨xs, nn, _, hx, hl, hxl, hf⟩ := DataW.trod_struct Tryz.underlying67 h
 rw [Tryz.cells_Rq] at hl
 obtain ⟨c0, c1, c2, c3, c4, c5, rfl⟩ : ∃ c0 c1 c2 c3 c4 c5, cs = [c0, c1, c2, c3, c4, c5] := by
  match cs, hl with
  | [c0, c1, c2, c3, c4, c5], _ => exact ⟨c0, c1, c2, c3, c4, c5, rfl⟩
 have f0 := hf 0 _ rfl
 have f1 := hf 1 _ rfl
 have f2 := hf 2 _ rfl
 have f3 := hf 3 _ rfl
 have f4 := hf 4 _ rfl
 have f5 := hf 5 _ rfl
 simp at hxl
 simp [Tryz.cells_In, Tryz.cells_Bo, Tryz.cells_St, Tryz.cells_Ra, Tryz.cells_SI, Tryz.cells_SS, Tryz.cells_SR, Tryz.cells_Ru, Tryz.cells_SRu, Tryz.cells_SCr, Tryz.cells_SPg, Tryz.cells_SSy, Tryz.cells_SFc, Tryz.cells_Bk, Tryz.cells_Ky, Tryz.cells_Sp] at f0 f1 f2 f3 f4 f5
 rw [List.getElem?_eq_getElem (by omega)] at f0 f1 f2 f3 f4 f5
 have hm5 := agg_part (List.getElem_mem (l := xs) (n := 5) (by omega))
 rw [hx] at hN
 obtain ⟨s, hs, _⟩ := DataW.trod_string Tryz.underlying9 f0
 obtain ⟨a, ha, _, wa⟩ := DataW.trod_int Tryz.underlying3 f1
 obtain ⟨b, hb, _, wb⟩ := DataW.trod_int Tryz.underlying3 f2
 obtain ⟨c, hc, _⟩ := DataW.trod_bool Tryz.underlying4 f3
 obtain ⟨na, nl, nc, hn⟩ := open_hdr Tryz.underlying65 f4
 obtain ⟨sf, xs', e, h1, _⟩ := open_slB (en := intE) (Q := fun y => (Lit.int .i64 y).wf = true) (N := N) Tryz.underlying64 Tryz.cells_In (by omega) (fun _ _ _ h _ => openE_In h) f5 (Nat.le_trans hm5 hN)
 have hlb := len_bulk (s := sf) Tryz.underlying64 (by rw [e]; exact f5)
 have hfl : xs'.length ≤ N := by rw [← h1.1]; exact Nat.le_trans hlb (Nat.le_trans hm5 hN)
 simp [slE] at hs ha hb hc hn e
 subst hs ha hb hc hn e
 exact ⟨⟨s, a, b, c, ⟨na, nl, nc⟩, sf⟩, rfl, xs', h1, hfl⟩
theorem openE_Rs {N : Nat} {fuel : Nat} {cs : List Value} {x : DataW H × List MemPlace} (h : DataW.trod enc Tryz.prog w base spare held fuel 42 cs = some x) (hN : Rows.uptoBulk x.1 ≤ N) : ∃ s : Sl, slE s = cs ∧ ∃ qs, Rqs w anyB s qs ∧ ∀ q ∈ qs, q.fr.length ≤ N := by
 obtain ⟨s, xs, e, h1, h2⟩ := open_slB (en := RqH.enc) (Q := fun y => ∃ fr, SlR w anyB 1 intE y.fr fr ∧ fr.length ≤ N) (N := N) Tryz.underlying42 Tryz.cells_Rq (by omega) (fun _ _ _ h hN => openE_Rq h hN) h hN
 obtain ⟨qs, hl, hr⟩ := choose_list (R := fun (a : RqH) (q : Rq) => (a.credits = q.credits ∧ a.grade = q.grade ∧ a.home = q.home ∧ SlR w anyB 1 intE a.fr q.fr) ∧ q.fr.length ≤ N) xs (fun y hy => by
  obtain ⟨fr, hf, hn⟩ := h2 y hy
  exact ⟨⟨y.credits, y.grade, y.home, fr⟩, ⟨rfl, rfl, rfl, hf⟩, hn⟩)
 refine ⟨s, e, qs, ⟨xs, h1, hl, fun i a q ha hq => (hr i a q ha hq).1⟩, fun q hq => ?_⟩
 obtain ⟨i, hi, rfl⟩ := List.getElem_of_mem hq
 exact (hr i _ _ (List.getElem?_eq_getElem (show i < xs.length by omega)) (List.getElem?_eq_getElem hi)).2
theorem openE_Px {N : Nat} {fuel : Nat} {cs : List Value} {x : DataW H × List MemPlace} (h : DataW.trod enc Tryz.prog w base spare held fuel 44 cs = some x) (hN : Rows.uptoBulk x.1 ≤ N) : ∃ y : Px, Px.enc y = cs ∧ Px.Ok w anyB y ∧ ∀ q ∈ y.p.reqs, q.fr.length ≤ N := by
 obtain ⟨xs, nn, _, hx, hl, hxl, hf⟩ := DataW.trod_struct Tryz.underlying44 h
 rw [Tryz.cells_Pg] at hl
 obtain ⟨c0, c1, c2, c3, c4, c5, c6, rfl⟩ : ∃ c0 c1 c2 c3 c4 c5 c6, cs = [c0, c1, c2, c3, c4, c5, c6] := by
  match cs, hl with
  | [c0, c1, c2, c3, c4, c5, c6], _ => exact ⟨c0, c1, c2, c3, c4, c5, c6, rfl⟩
 have f0 := hf 0 _ rfl
 have f1 := hf 1 _ rfl
 have f2 := hf 2 _ rfl
 have f3 := hf 3 _ rfl
 have f4 := hf 4 _ rfl
 have f5 := hf 5 _ rfl
 simp at hxl
 simp [Tryz.cells_In, Tryz.cells_Bo, Tryz.cells_St, Tryz.cells_Ra, Tryz.cells_SI, Tryz.cells_SS, Tryz.cells_SR, Tryz.cells_Ru, Tryz.cells_SRu, Tryz.cells_SCr, Tryz.cells_SPg, Tryz.cells_SSy, Tryz.cells_SFc, Tryz.cells_Bk, Tryz.cells_Ky, Tryz.cells_Sp] at f0 f1 f2 f3 f4 f5
 rw [List.getElem?_eq_getElem (by omega)] at f0 f1 f2 f3 f4 f5
 have hm5 := agg_part (List.getElem_mem (l := xs) (n := 5) (by omega))
 rw [hx] at hN
 obtain ⟨s, hs, _⟩ := DataW.trod_string Tryz.underlying9 f0
 obtain ⟨a, ha, _, wa⟩ := DataW.trod_int Tryz.underlying3 f1
 obtain ⟨b, hb, _, wb⟩ := DataW.trod_int Tryz.underlying3 f2
 obtain ⟨c, hc, _, wc⟩ := DataW.trod_int Tryz.underlying3 f3
 obtain ⟨m, hm, hmi⟩ := openE_Ra f4
 obtain ⟨sr, e, qs, hq, hqn⟩ := openE_Rs f5 (Nat.le_trans hm5 hN)
 simp [slE] at hs ha hb hc hm e
 obtain ⟨hm1, hm2⟩ := hm
 subst hs ha hb hc hm1 hm2 e
 exact ⟨⟨⟨s, a, b, c, m, qs⟩, sr⟩, rfl, ⟨hq, hmi⟩, hqn⟩
theorem openE_Ru (n : Nat) : ∀ {fuel : Nat} {cs : List Value} {x : DataW H × List MemPlace}, DataW.trod enc Tryz.prog w base spare held fuel 121 cs = some x → SizeOf.sizeOf x.1 < n → ∃ y : RT, RT.enc y = cs ∧ RT.Ok w anyB y := by
 induction n with
 | zero => intro _ _ _ _ hs; omega
 | succ n ih =>
   intro fuel cs x h hsz
   obtain ⟨xs, nn, _, hx, hl, hxl, hf⟩ := DataW.trod_struct Tryz.underlying121 h
   rw [Tryz.cells_Ru] at hl
   obtain ⟨c0, c1, c2, c3, c4, c5, rfl⟩ : ∃ c0 c1 c2 c3 c4 c5, cs = [c0, c1, c2, c3, c4, c5] := by
    match cs, hl with
    | [c0, c1, c2, c3, c4, c5], _ => exact ⟨c0, c1, c2, c3, c4, c5, rfl⟩
   have f0 := hf 0 _ rfl
   have f1 := hf 1 _ rfl
   have f2 := hf 2 _ rfl
   have f3 := hf 3 _ rfl
   have f4 := hf 4 _ rfl
   have f5 := hf 5 _ rfl
   simp at hxl
   simp [Tryz.cells_In, Tryz.cells_Bo, Tryz.cells_St, Tryz.cells_Ra, Tryz.cells_SI, Tryz.cells_SS, Tryz.cells_SR, Tryz.cells_Ru, Tryz.cells_SRu, Tryz.cells_SCr, Tryz.cells_SPg, Tryz.cells_SSy, Tryz.cells_SFc, Tryz.cells_Bk, Tryz.cells_Ky, Tryz.cells_Sp] at f0 f1 f2 f3 f4 f5
   rw [List.getElem?_eq_getElem (by omega)] at f0 f1 f2 f3 f4 f5
   obtain ⟨a, ha, _, wa⟩ := DataW.trod_int Tryz.underlying3 f0
   obtain ⟨b, hb, _, wb⟩ := DataW.trod_int Tryz.underlying3 f1
   obtain ⟨s, hs, _⟩ := DataW.trod_string Tryz.underlying9 f2
   obtain ⟨c, hc, _, wc⟩ := DataW.trod_int Tryz.underlying3 f3
   obtain ⟨e, he, _, we⟩ := DataW.trod_int Tryz.underlying3 f4
   obtain ⟨ka, kl, kc, hk⟩ := open_hdr Tryz.underlying119 f5
   obtain ⟨y5, hy5⟩ : ∃ y, y = xs[5]'(by omega) := ⟨_, rfl⟩
   have hmem : y5.1 ∈ xs.map (·.1) := by rw [hy5]; exact List.mem_map_of_mem (List.getElem_mem (by omega))
   have hs5 : SizeOf.sizeOf y5.1 < n := by
    have h1 := List.sizeOf_lt_of_mem hmem
    rw [hx] at hsz
    simp only [DataW.agg.sizeOf_spec] at hsz
    omega
   rw [← hy5, hk] at f5
   obtain ⟨d5, p5⟩ := y5
   obtain ⟨ks, hkl, h1, h2⟩ := open_readsM (en := RT.enc) (Q := RT.Ok w anyB) (Me := fun d => SizeOf.sizeOf d < n) Tryz.underlying119 Tryz.cells_Ru (by omega) (fun _ _ _ h hm => ih h hm) (fun el sp e2 y hy => by
    have h3 := List.sizeOf_lt_of_mem hy
    simp only at hs5
    rw [e2] at hs5
    simp only [DataW.slice.sizeOf_spec] at hs5
    omega) f5
   simp at ha hb hs hc he hk
   subst ha hb hs hc he hk
   exact ⟨.mk a b s c e ks ⟨ka, kl, kc⟩, rfl, .mk ⟨by unfold I64; exact bounds_i64 wc, by unfold I64; exact bounds_i64 we⟩ h1 h2⟩
theorem openE_Cr {fuel : Nat} {cs : List Value} {x : DataW H × List MemPlace} (h : DataW.trod enc Tryz.prog w base spare held fuel 123 cs = some x) : ∃ y : Cr, Cr.enc y = cs ∧ Cr.Ok w anyB y := by
 obtain ⟨xs, nn, _, hx, hl, hxl, hf⟩ := DataW.trod_struct Tryz.underlying123 h
 rw [Tryz.cells_Cr] at hl
 obtain ⟨c0, c1, c2, c3, c4, c5, c6, c7, c8, c9, c10, c11, c12, c13, c14, c15, rfl⟩ : ∃ c0 c1 c2 c3 c4 c5 c6 c7 c8 c9 c10 c11 c12 c13 c14 c15, cs = [c0, c1, c2, c3, c4, c5, c6, c7, c8, c9, c10, c11, c12, c13, c14, c15] := by
  match cs, hl with
  | [c0, c1, c2, c3, c4, c5, c6, c7, c8, c9, c10, c11, c12, c13, c14, c15], _ => exact ⟨c0, c1, c2, c3, c4, c5, c6, c7, c8, c9, c10, c11, c12, c13, c14, c15, rfl⟩
 have f0 := hf 0 _ rfl
 have f1 := hf 1 _ rfl
 have f2 := hf 2 _ rfl
 have f3 := hf 3 _ rfl
 have f4 := hf 4 _ rfl
 have f5 := hf 5 _ rfl
 simp at hxl
 simp [Tryz.cells_In, Tryz.cells_Bo, Tryz.cells_St, Tryz.cells_Ra, Tryz.cells_SI, Tryz.cells_SS, Tryz.cells_SR, Tryz.cells_Ru, Tryz.cells_SRu, Tryz.cells_SCr, Tryz.cells_SPg, Tryz.cells_SSy, Tryz.cells_SFc, Tryz.cells_Bk, Tryz.cells_Ky, Tryz.cells_Sp] at f0 f1 f2 f3 f4 f5
 rw [List.getElem?_eq_getElem (by omega)] at f0 f1 f2 f3 f4 f5
 obtain ⟨s, hs, _⟩ := DataW.trod_string Tryz.underlying9 f0
 obtain ⟨a, ha, _, wa⟩ := DataW.trod_int Tryz.underlying3 f1
 obtain ⟨b, hb, _, wb⟩ := DataW.trod_int Tryz.underlying3 f2
 obtain ⟨c, hc, _, wc⟩ := DataW.trod_int Tryz.underlying3 f3
 obtain ⟨r1, e1, h1⟩ := openE_Ru _ f4 (Nat.lt_succ_self _)
 obtain ⟨r2, e2, h2⟩ := openE_Ru _ f5 (Nat.lt_succ_self _)
 obtain ⟨o1, g1, m1, n1, d1, ks1, s1⟩ := r1
 obtain ⟨o2, g2, m2, n2, d2, ks2, s2⟩ := r2
 simp [RT.enc] at hs ha hb hc e1 e2
 obtain ⟨i1, i2, i3, i4, i5, i6⟩ := e1
 obtain ⟨j1, j2, j3, j4, j5, j6⟩ := e2
 subst hs ha hb hc i1 i2 i3 i4 i5 i6 j1 j2 j3 j4 j5 j6
 exact ⟨⟨s, a, b, c, .mk o1 g1 m1 n1 d1 ks1 s1, .mk o2 g2 m2 n2 d2 ks2 s2⟩, rfl, h1, h2⟩
theorem openE_Ky {fuel : Nat} {cs : List Value} {x : DataW H × List MemPlace} (h : DataW.trod enc Tryz.prog w base spare held fuel 86 cs = some x) : ∃ k : Int × Int × Int, cs = [.int .i64 k.1, .int .i64 k.2.1, .int .i64 k.2.2] ∧ True := by
 obtain ⟨xs, nn, _, hx, hl, hxl, hf⟩ := DataW.trod_struct Tryz.underlying86 h
 rw [Tryz.cells_Ky] at hl
 obtain ⟨c0, c1, c2, rfl⟩ : ∃ c0 c1 c2, cs = [c0, c1, c2] := by
  match cs, hl with
  | [c0, c1, c2], _ => exact ⟨c0, c1, c2, rfl⟩
 have f0 := hf 0 _ rfl
 have f1 := hf 1 _ rfl
 have f2 := hf 2 _ rfl
 simp at hxl
 simp [Tryz.cells_In, Tryz.cells_Bo, Tryz.cells_St, Tryz.cells_Ra, Tryz.cells_SI, Tryz.cells_SS, Tryz.cells_SR, Tryz.cells_Ru, Tryz.cells_SRu, Tryz.cells_SCr, Tryz.cells_SPg, Tryz.cells_SSy, Tryz.cells_SFc, Tryz.cells_Bk, Tryz.cells_Ky, Tryz.cells_Sp] at f0 f1 f2
 rw [List.getElem?_eq_getElem (by omega)] at f0 f1 f2
 obtain ⟨a, ha, _, wa⟩ := DataW.trod_int Tryz.underlying3 f0
 obtain ⟨b, hb, _, wb⟩ := DataW.trod_int Tryz.underlying3 f1
 obtain ⟨c, hc, _, wc⟩ := DataW.trod_int Tryz.underlying3 f2
 simp at ha hb hc
 subst ha hb hc
 exact ⟨(a, b, c), rfl, trivial⟩
theorem openE_Sp {fuel : Nat} {cs : List Value} {x : DataW H × List MemPlace} (h : DataW.trod enc Tryz.prog w base spare held fuel 181 cs = some x) : ∃ a b : Int, cs = [.int .i64 a, .int .i64 b] := by
 obtain ⟨xs, nn, _, hx, hl, hxl, hf⟩ := DataW.trod_struct Tryz.underlying181 h
 rw [Tryz.cells_Sp] at hl
 obtain ⟨c0, c1, rfl⟩ : ∃ c0 c1, cs = [c0, c1] := by
  match cs, hl with
  | [c0, c1], _ => exact ⟨c0, c1, rfl⟩
 have f0 := hf 0 _ rfl
 have f1 := hf 1 _ rfl
 simp at hxl
 simp [Tryz.cells_In, Tryz.cells_Bo, Tryz.cells_St, Tryz.cells_Ra, Tryz.cells_SI, Tryz.cells_SS, Tryz.cells_SR, Tryz.cells_Ru, Tryz.cells_SRu, Tryz.cells_SCr, Tryz.cells_SPg, Tryz.cells_SSy, Tryz.cells_SFc, Tryz.cells_Bk, Tryz.cells_Ky, Tryz.cells_Sp] at f0 f1
 rw [List.getElem?_eq_getElem (by omega)] at f0 f1
 obtain ⟨a, ha, _, wa⟩ := DataW.trod_int Tryz.underlying3 f0
 obtain ⟨b, hb, _, wb⟩ := DataW.trod_int Tryz.underlying3 f1
 simp at ha hb
 subst ha hb
 exact ⟨a, b, rfl⟩
theorem openE_Fc {fuel : Nat} {cs : List Value} {x : DataW H × List MemPlace} (h : DataW.trod enc Tryz.prog w base spare held fuel 183 cs = some x) : ∃ y : Fc, Fc.enc y = cs ∧ y.val ≤ 9223372036854775807 := by
 obtain ⟨xs, nn, _, hx, hl, hxl, hf⟩ := DataW.trod_struct Tryz.underlying183 h
 rw [Tryz.cells_Fc] at hl
 obtain ⟨c0, c1, c2, c3, c4, c5, c6, c7, rfl⟩ : ∃ c0 c1 c2 c3 c4 c5 c6 c7, cs = [c0, c1, c2, c3, c4, c5, c6, c7] := by
  match cs, hl with
  | [c0, c1, c2, c3, c4, c5, c6, c7], _ => exact ⟨c0, c1, c2, c3, c4, c5, c6, c7, rfl⟩
 have f0 := hf 0 _ rfl
 have f1 := hf 1 _ rfl
 have f2 := hf 2 _ rfl
 have f3 := hf 3 _ rfl
 have f4 := hf 4 _ rfl
 simp at hxl
 simp [Tryz.cells_In, Tryz.cells_Bo, Tryz.cells_St, Tryz.cells_Ra, Tryz.cells_SI, Tryz.cells_SS, Tryz.cells_SR, Tryz.cells_Ru, Tryz.cells_SRu, Tryz.cells_SCr, Tryz.cells_SPg, Tryz.cells_SSy, Tryz.cells_SFc, Tryz.cells_Bk, Tryz.cells_Ky, Tryz.cells_Sp] at f0 f1 f2 f3 f4
 rw [List.getElem?_eq_getElem (by omega)] at f0 f1 f2 f3 f4
 obtain ⟨k, hk, hkk⟩ := openE_Ky f0
 obtain ⟨a, ha, _, wa⟩ := DataW.trod_int Tryz.underlying3 f1
 obtain ⟨p1, p2, hp⟩ := openE_Sp f2
 obtain ⟨b, hb, _, wb⟩ := DataW.trod_int Tryz.underlying3 f3
 obtain ⟨c, hc, _, wc⟩ := DataW.trod_int Tryz.underlying3 f4
 simp at hk ha hp hb hc
 obtain ⟨i1, i2, i3⟩ := hk
 obtain ⟨j1, j2⟩ := hp
 subst ha hb hc i1 i2 i3 j1 j2
 exact ⟨⟨k.1, k.2.1, k.2.2, a, p1, p2, b, c⟩, rfl, (bounds_i64 wa).2⟩
theorem openE_Bk {N : Nat} {fuel : Nat} {cs : List Value} {x : DataW H × List MemPlace} (h : DataW.trod enc Tryz.prog w base spare held fuel 26 cs = some x) (hN : Rows.uptoBulk x.1 ≤ N) : ∃ (sc sp sy : Sl), cs = [.slice sc.a sc.n sc.c, .slice sp.a sp.n sp.c, .slice sy.a sy.n sy.c] ∧ ∃ (cl : List Cr) (pl : List Px), SlR w anyB 16 Cr.enc sc cl ∧ SlR w anyB 7 Px.enc sp pl ∧ (∀ x ∈ cl, Cr.Ok w anyB x) ∧ (∀ x ∈ pl, Px.Ok w anyB x) ∧ ∀ x ∈ pl, ∀ q ∈ x.p.reqs, q.fr.length ≤ N := by
 obtain ⟨xs, nn, _, hx, hl, hxl, hf⟩ := DataW.trod_struct Tryz.underlying26 h
 rw [Tryz.cells_Bk] at hl
 obtain ⟨c0, c1, c2, rfl⟩ : ∃ c0 c1 c2, cs = [c0, c1, c2] := by
  match cs, hl with
  | [c0, c1, c2], _ => exact ⟨c0, c1, c2, rfl⟩
 have f0 := hf 0 _ rfl
 have f1 := hf 1 _ rfl
 have f2 := hf 2 _ rfl
 simp at hxl
 simp [Tryz.cells_In, Tryz.cells_Bo, Tryz.cells_St, Tryz.cells_Ra, Tryz.cells_SI, Tryz.cells_SS, Tryz.cells_SR, Tryz.cells_Ru, Tryz.cells_SRu, Tryz.cells_SCr, Tryz.cells_SPg, Tryz.cells_SSy, Tryz.cells_SFc, Tryz.cells_Bk, Tryz.cells_Ky, Tryz.cells_Sp] at f0 f1 f2
 rw [List.getElem?_eq_getElem (by omega)] at f0 f1 f2
 have hm1 := agg_part (List.getElem_mem (l := xs) (n := 1) (by omega))
 have hm0 := agg_part (List.getElem_mem (l := xs) (n := 0) (by omega))
 rw [hx] at hN
 obtain ⟨sc, cl, ec, h1, h2⟩ := open_slB (en := Cr.enc) (Q := Cr.Ok w anyB) (N := N) Tryz.underlying22 Tryz.cells_Cr (by omega) (fun _ _ _ h _ => openE_Cr h) f0 (Nat.le_trans hm0 hN)
 obtain ⟨sp, pl, ep, h3, h4⟩ := open_slB (en := Px.enc) (Q := fun y => Px.Ok w anyB y ∧ ∀ q ∈ y.p.reqs, q.fr.length ≤ N) (N := N) Tryz.underlying23 Tryz.cells_Pg (by omega) (fun _ _ _ h hN => openE_Px h hN) f1 (Nat.le_trans hm1 hN)
 obtain ⟨ya, yl, yc, ey⟩ := open_hdr Tryz.underlying24 f2
 simp [slE] at ec ep ey
 subst ec ep ey
 exact ⟨sc, sp, ⟨ya, yl, yc⟩, rfl, cl, pl, h1, h3, h2, fun x m => (h4 x m).1, fun x m => (h4 x m).2⟩
theorem openE_Wd {N : Nat} {fuel : Nat} {cs : List Value} {x : DataW H × List MemPlace} (h : DataW.trod enc Tryz.prog w base spare held fuel 29 cs = some x) (hN : Rows.uptoBulk x.1 ≤ N) : ∃ y : Wd, Wd.enc y = cs ∧ Wd.Ok w anyB y ∧ (∀ x ∈ y.ps, ∀ q ∈ x.p.reqs, q.fr.length ≤ N) ∧ ∀ f ∈ y.fs, f.val ≤ 9223372036854775807 := by
 obtain ⟨xs, nn, _, hx, hl, hxl, hf⟩ := DataW.trod_struct Tryz.underlying29 h
 rw [Tryz.cells_Wd] at hl
 obtain ⟨c0, c1, c2, c3, rfl⟩ : ∃ c0 c1 c2 c3, cs = [c0, c1, c2, c3] := by
  match cs, hl with
  | [c0, c1, c2, c3], _ => exact ⟨c0, c1, c2, c3, rfl⟩
 have f0 := hf 0 _ rfl
 have f1 := hf 1 _ rfl
 simp at hxl
 simp [Tryz.cells_In, Tryz.cells_Bo, Tryz.cells_St, Tryz.cells_Ra, Tryz.cells_SI, Tryz.cells_SS, Tryz.cells_SR, Tryz.cells_Ru, Tryz.cells_SRu, Tryz.cells_SCr, Tryz.cells_SPg, Tryz.cells_SSy, Tryz.cells_SFc, Tryz.cells_Bk, Tryz.cells_Ky, Tryz.cells_Sp] at f0 f1
 rw [List.getElem?_eq_getElem (by omega)] at f0 f1
 have hm0 := agg_part (List.getElem_mem (l := xs) (n := 0) (by omega))
 rw [hx] at hN
 obtain ⟨sc, sp, sy, eb, cl, pl, h1, h2, h3, h4, h5⟩ := openE_Bk (N := N) f0 (Nat.le_trans hm0 hN)
 have hm1 := agg_part (List.getElem_mem (l := xs) (n := 1) (by omega))
 obtain ⟨sf, fl, ef, h6, h7⟩ := open_slB (en := Fc.enc) (Q := fun y => y.val ≤ 9223372036854775807) (N := N) Tryz.underlying27 Tryz.cells_Fc (by omega) (fun _ _ _ h _ => openE_Fc h) f1 (Nat.le_trans hm1 hN)
 simp [slE] at eb ef
 obtain ⟨i1, i2, i3⟩ := eb
 subst i1 i2 i3 ef
 exact ⟨⟨sc, sp, sy, sf, cl, pl, fl⟩, rfl, ⟨h1, h2, h6, h3, h4⟩, h5, h7⟩
theorem openV_Wd {N : Nat} (hv : Value.okWide Tryz.prog w r b0 29 v) (h : DataW.Trod enc Tryz.prog w base spare held 29 v d p) (hN : Rows.uptoBulk d ≤ N) : ∃ y : Wd, v = y.v ∧ Wd.Ok w anyB y ∧ (∀ x ∈ y.ps, ∀ q ∈ x.p.reqs, q.fr.length ≤ N) ∧ ∀ f ∈ y.fs, f.val ≤ 9223372036854775807 := by
 obtain ⟨cs, rfl, _⟩ := okWide_struct Tryz.underlying29 hv
 obtain ⟨fuel, hf⟩ := h
 obtain ⟨y, e, h1, h2, h3⟩ := openE_Wd hf hN
 exact ⟨y, by
  have : cs = y.enc.toArray := by apply Array.toList_inj.1; exact e.symm
  rw [this]; rfl, h1, h2, h3⟩
end
theorem RT.Ok.small {w : World} {P : Nat → Prop} {r : RT} (h : RT.Ok w P r) {Q : Nat → Prop} (hq : ∀ b, b < w.heap.size → Q b) : RT.Ok w Q r := by
 induction h with
 | mk hi hs _ ih => exact .mk hi (hs.small hq) ih
theorem Wd.Ok.small {w : World} {P : Nat → Prop} {d : Wd} (h : d.Ok w P) {Q : Nat → Prop} (hq : ∀ b, b < w.heap.size → Q b) : d.Ok w Q :=
 ⟨h.cs.small hq, h.ps.small hq, h.fs.small hq, fun x m => ⟨(h.co x m).1.small hq, (h.co x m).2.small hq⟩, fun x m => ⟨(h.po x m).1.small hq, (h.po x m).2⟩⟩
end Go.Proofs.YtalmbigebjbaoaaGreatDoor
