/- From the form's reading of an argument to what the walks ask of it, and back: plain lemmas, over any program. -/
import Derived.Test.YtgbkhmoplocmkaaLib
import Derived.ProofKit
import Derived.OpenShut
import Derived.Deep.Slices
import Derived.Lib.SmallJoins
namespace Go.Proofs.Ytgbkhmoplocmkaa
open Go.RowKit Go.WideShapes Go.ChangeShapes Go.Deep

section
variable {H : Type} {enc : TypeId × Value → H} {P : Program} {w : World} {base : Nat} {spare : Nat → Bool} {held : Bool}

theorem cell_lt {w : World} {b o : Nat} {v : Value} (h : w.cell? ⟨b, o, none⟩ = some v) : b < w.heap.size := by
  rcases Nat.lt_or_ge b w.heap.size with h1 | h1
  · exact h1
  · simp [World.cell?, Array.getElem?_eq_none h1] at h

/-- a slice of whatever elements: 'R cs y': the cells cs are the element y's -/
theorem open_reads {α : Type} [Inhabited α] {en : α → List Value} {Q : α → Prop} {t e : TypeId} {sz : Nat} {v : Value} {d : DataW H} {ps : List MemPlace} (ht : P.underlying t = some (.slice e)) (hsz : P.cellsOf e = sz) (hpos : 0 < sz)
    (hel : ∀ fuel cs x, DataW.trod enc P w base spare held fuel e cs = some x → ∃ y : α, en y = cs ∧ Q y)
    (hok : ∃ a l c, v = .slice a l c) (h : DataW.Trod enc P w base spare held t v d ps) :
    ∃ A c xs, v = .slice A xs.length c ∧ xs.length ≤ c ∧ c ≤ maxLen ∧ Reads w w.heap.size A sz en xs ∧ (∀ y ∈ xs, Q y) ∧ (A = none → xs = [] ∧ c = 0) := by
  obtain ⟨fuel, hf⟩ := h
  obtain ⟨a0, l0, c0, rfl⟩ := hok
  rcases open_slice ht (by simpa [Value.cells] using hf) with ⟨hcs, _⟩ | ⟨a, len, cap, m, n, D, Pl, hcs, _, hl, hm, hmm, _, hi⟩
  · simp at hcs
    obtain ⟨rfl, rfl, rfl⟩ := hcs
    exact ⟨none, 0, [], by simp, by simp, by simp, Reads.nil_, by simp, fun _ => ⟨rfl, rfl⟩⟩
  · simp at hcs
    obtain ⟨rfl, rfl, rfl⟩ := hcs
    have hlm : l0 ≤ m := by rw [hmm]; split <;> omega
    have key : ∀ i, i < l0 → ∃ y : α, Q y ∧ ∀ j u, (en y)[j]? = some u → w.cell? (a.add (i * sz + j)) = some u := fun i hil => by
      obtain ⟨cs', h1, h2⟩ := hi i (by omega)
      obtain ⟨y, rfl, hq⟩ := hel _ _ _ h2
      obtain ⟨_, hlen, hc⟩ := World.cells?_some h1
      refine ⟨y, hq, fun j u hj => ?_⟩
      have hjl : j < (en y).length := (List.getElem?_eq_some_iff.1 hj).1
      have := hc j (by omega)
      rw [Go.Deep.add_add, hj, hsz] at this
      exact this
    obtain ⟨f, hfn⟩ := choose_lt (α := α) (p := fun i y => Q y ∧ ∀ j u, (en y)[j]? = some u → w.cell? (a.add (i * sz + j)) = some u) key
    refine ⟨some a, c0, (List.range l0).map f, by simp, by simpa using hl, hm, fun hpos' => ?_, ?_, fun h => by cases h⟩
    · have h0 : 0 < l0 := by simpa using hpos'
      obtain ⟨cs', h1, _⟩ := hi 0 (by omega)
      obtain ⟨_, hlen, hc⟩ := World.cells?_some h1
      have hc0 := hc 0 (by omega)
      rw [List.getElem?_eq_getElem (by omega)] at hc0
      obtain ⟨b, off, spot⟩ := a
      have hspot : spot = none := by simpa [Addr.add] using World.cell?_spot hc0
      subst hspot
      have hlt : b < w.heap.size := by
        rw [add_plain, add_plain] at hc0
        exact cell_lt hc0
      refine ⟨b, off, rfl, hlt, fun i x j u hi' hj => ?_⟩
      have hil : i < l0 := by
        have := (List.getElem?_eq_some_iff.1 hi').1
        simpa using this
      have hx : f i = x := by simpa [hil] using hi'
      have := (hfn i hil).2 j u (by rw [hx]; exact hj)
      rw [add_plain] at this
      rw [← this, Nat.add_assoc]
    · intro y hy
      obtain ⟨i, hi', rfl⟩ := List.mem_map.1 hy
      exact (hfn i (by simpa using hi')).1

theorem arg_stays (hl : laidOutB P = true) {t : TypeId} (hr : P.readableRec t = true) (hrow : t < P.types.size) {W W' : World} {v : Value} {d : DataW H} {ps : List MemPlace} {sp : Nat → Bool}
    (h : DataW.Trod enc P W 0 (fun _ => true) true t v d ps) (hb : Below W.heap.size W W') (hlt : ∀ x ∈ ps, x.block < W.heap.size) (hsp : ∀ x ∈ ps, sp x.block = true) :
    DataW.Trod enc P W' 0 sp true t v d ps :=
  WideElems.Trod_stays hl hr hrow h (fun x hx => hb.same (hlt x hx)) (fun x hx => hsp x hx)

theorem args_stay (hl : laidOutB P = true) {W W' : World} {sp : Nat → Bool} (hb : Below W.heap.size W W') :
    ∀ (ts : List TypeId) (vs : List Value) (ds : List (DataW H)) (ps : List MemPlace), (∀ t ∈ ts, P.readableRec t = true ∧ t < P.types.size) →
      DataW.TrodAll enc P W 0 (fun _ => true) true ts vs ds ps → (∀ x ∈ ps, x.block < W.heap.size) → (∀ x ∈ ps, sp x.block = true) → DataW.TrodAll enc P W' 0 sp true ts vs ds ps
  | [], [], [], ps, _, h, _, _ => h
  | t :: ts, v :: vs, d :: ds, ps, hts, h, hlt, hsp => by
    obtain ⟨p, q, h1, h2, rfl⟩ := h
    exact ⟨p, q, arg_stays hl (hts t (by simp)).1 (hts t (by simp)).2 h1 hb (fun x hx => hlt x (by simp [hx])) (fun x hx => hsp x (by simp [hx])),
      args_stay hl hb ts vs ds q (fun t' ht' => hts t' (by simp [ht'])) h2 (fun x hx => hlt x (by simp [hx])) (fun x hx => hsp x (by simp [hx])), rfl⟩
  | [], _ :: _, _, _, _, h, _, _ => h.elim
  | [], [], _ :: _, _, _, h, _, _ => h.elim
  | _ :: _, [], _, _, _, h, _, _ => h.elim
  | _ :: _, _ :: _, [], _, _, h, _, _ => h.elim

/-- a law's last step: it has returned true, and of what was there nothing has turned -/
theorem law_post (hl : laidOutB P = true) {f : Func} {s : ChangeSpec} {W W' : World} {args : Array Value} {ds gs : List (DataW H)} {before : List MemPlace} {bt : TypeId}
    (hbt : P.underlying bt = some .bool) (hres : f.resultTypes = #[bt]) (hts : ∀ t ∈ f.params.toList, P.readableRec t = true ∧ t < P.types.size) (hgs : s.vars = [])
    (hW : DataW.Whole enc P f.params.toList s.vars false W args.toList ds gs before) (h1 : (s.fn H (ds ++ gs)).results = [.lit (.bool true)]) (h2 : (s.fn H (ds ++ gs)).args = ds) (h3 : (s.fn H (ds ++ gs)).vars = [])
    (hb : Below W.heap.size W W') : s.post enc P f false true false false W args (.bool true) W' := by
  have hlt : ∀ p ∈ before, p.block < W.heap.size := fun p hp => hW.lt p hp
  have hW0 := hW
  obtain ⟨p, q, hA, hV, hbe, hz, hn⟩ := hW
  rw [hgs] at hV
  obtain ⟨hgs0, hq⟩ := trodVars_none hV
  have hb0 : before = p := by rw [hbe, hq, List.append_nil]
  refine ⟨ds, gs, before, [], before, [], hW0, ?_, ?_, ?_, World.keptBut_mono (fun p hp => ⟨hp, Or.inr (by simpa using hp)⟩) (hb.frame (· ∈ before)), fun h => by cases h⟩
  · rw [h1, hres]
    exact trodAll_mk1 (shut_bool hbt true)
  · rw [h2]
    refine args_stay hl hb _ _ _ _ hts (by rw [hb0]; exact hA) hlt ?_
    intro x hx
    simpa using hlt x hx
  · rw [h3, hgs]
    rfl
end
end Go.Proofs.Ytgbkhmoplocmkaa
