/- Searching a residual network: plain laws, no program. -/
import Derived.Test.YtjpnbpfbdkbknaaFlowP
namespace Go.Proofs.Ytjpnbpfbdkbknaa
set_option linter.unusedSimpArgs false
set_option linter.unusedVariables false

/-- the nodes that a search has reached, in order; p: by which residual edge -/
structure Bfs (l : List Ed) (xs : List Int) (a : Int) (ord : List Int) (p : Int → Nat) : Prop where
  nd : ord.Nodup
  hd : ord[0]? = some a
  by_ : ∀ (k : Nat) (v : Int), ord[k]? = some v → 0 < k → p v < 2 * l.length ∧ endR l (p v) = v ∧ 0 < capR l xs (p v) ∧ startR l (p v) ∈ ord.take k
section
variable {n : Nat} {l : List Ed} {xs : List Int} {a b v : Int} {ord : List Int} {p : Int → Nat}
theorem Bfs.one (p : Int → Nat) : Bfs l xs a [a] p := ⟨by simp, rfl, fun k v h hk => by
  cases k with
  | zero => omega
  | succ k => simp at h⟩
theorem Bfs.mem (h : Bfs l xs a ord p) : a ∈ ord := List.mem_of_getElem? h.hd
theorem Bfs.pos (h : Bfs l xs a ord p) : 0 < ord.length := (List.getElem?_eq_some_iff.1 h.hd).1
theorem Bfs.snoc {r : Nat} {q : Int → Nat} (h : Bfs l xs a ord p) (hr : r < 2 * l.length) (hs : startR l r ∈ ord) (hc : 0 < capR l xs r) (he : endR l r ∉ ord) (hq : ∀ v ∈ ord, v ≠ a → q v = p v) (hqr : q (endR l r) = r) : Bfs l xs a (ord ++ [endR l r]) q := by
  have hp := h.pos
  refine ⟨?_, ?_, fun k v hk h0 => ?_⟩
  · rw [List.nodup_append]
    refine ⟨h.nd, by simp, fun x hx y hy e => ?_⟩
    simp at hy
    subst hy e
    exact he hx
  · rw [List.getElem?_append_left hp]; exact h.hd
  · by_cases hlt : k < ord.length
    · rw [List.getElem?_append_left hlt] at hk
      obtain ⟨h1, h2, h3, h4⟩ := h.by_ k v hk h0
      have hva : v ≠ a := fun e => by
        have := (List.getElem?_inj hlt h.nd).1 (hk.trans (by rw [e]; exact h.hd.symm))
        omega
      rw [hq v (List.mem_of_getElem? hk) hva, List.take_append_of_le_length (by omega)]
      exact ⟨h1, h2, h3, h4⟩
    · have hkl : k = ord.length := by
        have := (List.getElem?_eq_some_iff.1 hk).1
        simp at this; omega
      subst hkl
      simp at hk
      subst hk
      rw [hqr]
      refine ⟨hr, rfl, hc, ?_⟩
      rw [List.take_append_of_le_length (by omega), List.take_of_length_le (by omega)]
      exact hs
/-- the way that a search leaves -/
def WayP (l : List Ed) (p : Int → Nat) (a : Int) : Int → List Nat → Prop
  | v, [] => v = a
  | v, r :: rs => v ≠ a ∧ p v = r ∧ r < 2 * l.length ∧ endR l r = v ∧ WayP l p a (startR l r) rs
theorem WayP.way : ∀ (rs : List Nat) (v : Int), WayP l p a v rs → Way l a v rs
  | [], v, h => h
  | r :: rs, v, ⟨_, _, h1, h2, h3⟩ => ⟨h1, h2, WayP.way rs _ h3⟩
theorem Bfs.wayAt (h : Bfs l xs a ord p) : ∀ (k : Nat) (v : Int), ord[k]? = some v → ∃ rs, WayP l p a v rs ∧ rs.Nodup ∧ rs.length ≤ k ∧ ∀ r ∈ rs, 0 < capR l xs r ∧ ∃ j, 0 < j ∧ j ≤ k ∧ ord[j]? = some (endR l r) := by
  intro k
  induction k using Nat.strongRecOn with
  | ind k ih =>
    intro v hk
    rcases Nat.eq_zero_or_pos k with rfl | h0
    · have : v = a := by have := hk.symm.trans h.hd; simpa using this
      exact ⟨[], this, by simp, by simp, by simp⟩
    · obtain ⟨h1, h2, h3, h4⟩ := h.by_ k v hk h0
      obtain ⟨j, hj⟩ := List.getElem?_of_mem h4
      rw [List.getElem?_take] at hj
      split at hj
      · rename_i hjk
        obtain ⟨rs, g1, g2, g5, g3⟩ := ih j hjk _ hj
        have hva : v ≠ a := fun e => by
          have := (List.getElem?_inj (List.getElem?_eq_some_iff.1 hk).1 h.nd).1 (hk.trans (by rw [e]; exact h.hd.symm))
          omega
        refine ⟨p v :: rs, ⟨hva, rfl, h1, h2, g1⟩, ?_, by simp; omega, ?_⟩
        · rw [List.nodup_cons]
          refine ⟨fun hm => ?_, g2⟩
          obtain ⟨_, i, hi0, hij, hi⟩ := g3 _ hm
          rw [h2] at hi
          have := (List.getElem?_inj (List.getElem?_eq_some_iff.1 hk).1 h.nd).1 (hk.trans hi.symm)
          omega
        · intro r hr
          rcases List.mem_cons.1 hr with rfl | hr
          · exact ⟨h3, k, h0, Nat.le_refl _, by rw [h2]; exact hk⟩
          · obtain ⟨e1, i, e2, e3, e4⟩ := g3 r hr
            exact ⟨e1, i, e2, by omega, e4⟩
      · cases hj
theorem Bfs.way (h : Bfs l xs a ord p) (hv : v ∈ ord) : ∃ rs, WayP l p a v rs ∧ rs.Nodup ∧ rs.length ≤ ord.length ∧ ∀ r ∈ rs, 0 < capR l xs r := by
  obtain ⟨k, hk⟩ := List.getElem?_of_mem hv
  have hlt := (List.getElem?_eq_some_iff.1 hk).1
  obtain ⟨rs, h1, h2, h3, h4⟩ := h.wayAt k v hk
  exact ⟨rs, h1, h2, by omega, fun r hr => (h4 r hr).1⟩
/-- every set that the flow does not leave holds what is reached -/
theorem Bfs.least (h : Bfs l xs a ord p) (hl : xs.length = l.length) (d : Int → Bool) (ha : d a = true) (hs : Shut l xs d) : ∀ v ∈ ord, d v = true := by
  have key : ∀ (k : Nat) (v : Int), ord[k]? = some v → d v = true := by
    intro k
    induction k using Nat.strongRecOn with
    | ind k ih =>
      intro v hk
      rcases Nat.eq_zero_or_pos k with rfl | h0
      · have : v = a := by have := hk.symm.trans h.hd; simpa using this
        rw [this]; exact ha
      · obtain ⟨h1, h2, h3, h4⟩ := h.by_ k v hk h0
        obtain ⟨j, hj⟩ := List.getElem?_of_mem h4
        rw [List.getElem?_take] at hj
        split at hj
        · rename_i hjk
          have hd := ih j hjk _ hj
          have hx := (shut_iff d l xs hl).1 hs (p v / 2) (by omega)
          cases hdv : d v with
          | true => rfl
          | false =>
            exfalso
            rw [← h2] at hdv
            unfold startR at hd
            unfold endR at hdv
            unfold capR at h3
            split at hd
            · rename_i hm
              rw [if_pos hm] at hdv h3
              have := hx.1 hd hdv
              omega
            · rename_i hm
              rw [if_neg hm] at hdv h3
              have := hx.2 hd hdv
              omega
        · cases hj
  intro v hv
  obtain ⟨k, hk⟩ := List.getElem?_of_mem hv
  exact key k v hk
/-- all that can be reached from a node is among the others -/
def Clos (l : List Ed) (xs : List Int) (ord : List Int) (v : Int) : Prop := ∀ r, r < 2 * l.length → startR l r = v → 0 < capR l xs r → endR l r ∈ ord
theorem Clos.more {v : Int} {o : List Int} (h : Clos l xs ord v) : Clos l xs (ord ++ o) v := fun r h1 h2 h3 => by simp [h r h1 h2 h3]
theorem shut_of_clos (hb : Bd l xs) {c : Int → Bool} (hc : ∀ v, c v = true ↔ v ∈ ord) (h : ∀ v ∈ ord, Clos l xs ord v) : Shut l xs c := by
  obtain ⟨hl, hbd⟩ := (bd_iff l xs).1 hb
  rw [shut_iff c l xs hl]
  intro i hi
  obtain ⟨h0, h1⟩ := hbd i hi
  constructor
  · intro hf ht
    have := h _ ((hc _).1 hf) (2 * i) (by omega) (by unfold startR; rw [if_pos (by omega), show 2 * i / 2 = i by omega])
    unfold capR endR at this
    rw [if_pos (by omega), if_pos (by omega), show 2 * i / 2 = i by omega] at this
    rcases Int.lt_or_le 0 ((l.getD i default).m - xs.getD i 0) with h2 | h2
    · have := (hc _).2 (this h2)
      rw [ht] at this; cases this
    · omega
  · intro ht hf
    have := h _ ((hc _).1 ht) (2 * i + 1) (by omega) (by unfold startR; rw [if_neg (by omega), show (2 * i + 1) / 2 = i by omega])
    unfold capR endR at this
    rw [if_neg (by omega), if_neg (by omega), show (2 * i + 1) / 2 = i by omega] at this
    rcases Int.lt_or_le 0 (xs.getD i 0) with h2 | h2
    · have := (hc _).2 (this h2)
      rw [hf] at this; cases this
    · omega
/-- where the search does not reach the sink, Max is done -/
theorem Bfs.max (h : Bfs l xs a ord p) (hf : IsFl n l a b xs) (hb : b ∉ ord) (hcl : ∀ v ∈ ord, Clos l xs ord v) {c : Int → Bool} (hc : ∀ v : Int, c v = true ↔ v ∈ ord) : MaxR n l a b xs c := by
  refine ⟨hf, ⟨(hc a).2 h.mem, ?_⟩, shut_of_clos hf.1 hc hcl, fun d hd hs v _ _ hv => ?_⟩
  · cases hcb : c b with
    | true => exact absurd ((hc b).1 hcb) hb
    | false => rfl
  · exact h.least ((bd_iff _ _).1 hf.1).1 d hd hs v ((hc v).1 hv)
/-- the least capacity of a way -/
def leastR (l : List Ed) (xs : List Int) (k : Int) (rs : List Nat) : Int := rs.foldl (fun k r => min k (capR l xs r)) k
theorem leastR_le (l : List Ed) (xs : List Int) : ∀ (rs : List Nat) (k : Int), leastR l xs k rs ≤ k ∧ ∀ r ∈ rs, leastR l xs k rs ≤ capR l xs r
  | [], k => by simp [leastR]
  | r :: rs, k => by
    have := leastR_le l xs rs (min k (capR l xs r))
    have e : leastR l xs k (r :: rs) = leastR l xs (min k (capR l xs r)) rs := rfl
    rw [e]
    refine ⟨by omega, fun q hq => ?_⟩
    rcases List.mem_cons.1 hq with rfl | hq
    · omega
    · exact this.2 q hq
theorem leastR_pos (l : List Ed) (xs : List Int) : ∀ (rs : List Nat) (k : Int), 0 < k → (∀ r ∈ rs, 0 < capR l xs r) → 0 < leastR l xs k rs
  | [], k, hk, _ => hk
  | r :: rs, k, hk, h => by
    have e : leastR l xs k (r :: rs) = leastR l xs (min k (capR l xs r)) rs := rfl
    have h1 := h r (List.mem_cons_self ..)
    rw [e]
    exact leastR_pos l xs rs _ (by omega) (fun q hq => h q (List.mem_cons_of_mem _ hq))
theorem leastR_snoc (l : List Ed) (xs : List Int) (k : Int) (rs : List Nat) (r : Nat) : leastR l xs k (rs ++ [r]) = min (leastR l xs k rs) (capR l xs r) := by
  unfold leastR; rw [List.foldl_append]; rfl
theorem pushAll_snoc (xs : List Int) (k : Int) (rs : List Nat) (r : Nat) : pushAll xs k (rs ++ [r]) = pushR (pushAll xs k rs) k r := by
  unfold pushAll; rw [List.foldl_append]; rfl
end

/-- a network and two of its nodes -/
def okE (n : Int) (e : Ed) : Bool := decide (0 ≤ e.f) && decide (e.f < n) && decide (0 ≤ e.t) && decide (e.t < n) && decide (e.f ≠ e.t) && decide (0 ≤ e.m) && decide (e.m ≤ 1073741824)
def okN (n : Int) (l : List Ed) : Bool := decide (2 ≤ n) && decide (n ≤ 4096) && decide (l.length ≤ 65536) && l.all (okE n)
def okV (n a b : Int) : Bool := decide (0 ≤ a) && decide (a < n) && decide (0 ≤ b) && decide (b < n) && decide (a ≠ b)
def okX (n : Int) (l : List Ed) (a b : Int) : Bool := okN n l && okV n a b
def chkN (n : Int) (l : List Ed) : Int := if okN n l then 0 else 180
theorem okE_out {n : Int} {e : Ed} (h : okE n e = true) : 0 ≤ e.f ∧ e.f < n ∧ 0 ≤ e.t ∧ e.t < n ∧ e.f ≠ e.t ∧ 0 ≤ e.m ∧ e.m ≤ 1073741824 := by
  simp [okE] at h; omega
theorem okN_out {n : Int} {l : List Ed} (h : okN n l = true) : 2 ≤ n ∧ n ≤ 4096 ∧ l.length ≤ 65536 ∧ ∀ e ∈ l, okE n e = true := by
  simp only [okN, Bool.and_eq_true, decide_eq_true_eq, List.all_eq_true] at h
  exact ⟨h.1.1.1, h.1.1.2, h.1.2, h.2⟩
theorem okV_out {n a b : Int} (h : okV n a b = true) : 0 ≤ a ∧ a < n ∧ 0 ≤ b ∧ b < n ∧ a ≠ b := by
  simp [okV] at h; omega
theorem okX_inn {n a b : Int} {l : List Ed} (h : okX n l a b = true) : InN n.toNat l := by
  simp only [okX, Bool.and_eq_true] at h
  obtain ⟨h1, _, _, h4⟩ := okN_out h.1
  intro e he
  have := okE_out (h4 e he)
  omega
theorem sumM_le {n : Int} : ∀ (l : List Ed), (∀ e ∈ l, okE n e = true) → 0 ≤ sumM l ∧ sumM l ≤ 1073741824 * (l.length : Int)
  | [], _ => by simp [sumM]
  | e :: l, h => by
    have h1 := okE_out (h e (List.mem_cons_self ..))
    have h2 := sumM_le l (fun e' he => h e' (List.mem_cons_of_mem _ he))
    simp only [sumM, List.map_cons, List.sum_cons, List.length_cons] at h2 ⊢
    omega
end Go.Proofs.Ytjpnbpfbdkbknaa
