/- The reference's search. -/
import Derived.Test.YtjpnbpfbdkbknaaFlowL
namespace Go.Proofs.Ytjpnbpfbdkbknaa
open Go.RowKit Go.Shelf
set_option linter.unusedSimpArgs false
set_option linter.unusedVariables false

theorem intE_one (y : Int) : ∀ u ∈ intE y, u.oneCell' = true := by intro u hu; simp [intE] at hu; subst hu; rfl
theorem intE_len' (y : Int) : (intE y).length = 1 := rfl
/-- the reference's numbers of residual edges -/
def encR (r : Nat) : Int := if r % 2 = 0 then (r / 2 : Nat) + 1 else -((r / 2 : Nat) + 1)
def decR (z : Int) : Nat := if 0 < z then 2 * (z - 1).toNat else 2 * (-z - 1).toNat + 1
theorem dec_enc (r : Nat) : decR (encR r) = r := by
  unfold encR decR
  rcases Nat.mod_two_eq_zero_or_one r with h | h
  · rw [if_pos h, if_pos (by omega)]; omega
  · rw [if_neg (by omega), if_neg (by omega)]; omega
/-- what the reference's search knows -/
def RSrch (n : Nat) (l : List Ed) (xs : List Int) (a : Int) (ms : List Bool) (bys ord : List Int) : Prop :=
  ms.length = n ∧ bys.length = n ∧ Bfs l xs a ord (fun v => decR (bys.getD v.toNat 0)) ∧ (∀ v ∈ ord, 0 ≤ v ∧ v < n) ∧ (∀ i : Nat, i < n → ((i : Int) ∈ ord ↔ ms.getD i false = true)) ∧ ∀ v ∈ ord, v ≠ a → bys.getD v.toNat 0 = encR (decR (bys.getD v.toNat 0))
section
variable {n : Nat} {l : List Ed} {xs : List Int} {a : Int} {ms : List Bool} {bys ord : List Int}
theorem RSrch.start (l : List Ed) (xs : List Int) (k : Nat) (hk : k < n) : RSrch n l xs (k : Int) ((List.replicate n false).set k true) (List.replicate n 0) [(k : Int)] := by
  refine ⟨by simp, by simp, Bfs.one _, by simp; omega, fun i hi => ?_, fun v hv hne => absurd (by simpa using hv) hne⟩
  simp only [List.getD_eq_getElem?_getD, List.getElem?_set, List.length_replicate, List.getElem?_replicate, List.mem_singleton]
  by_cases h : k = i
  · subst h; simp [hk]
  · rw [if_neg h, if_pos hi]
    simp
    omega
theorem getDb_set (xs : List Bool) (i j : Nat) (z : Bool) (hi : i < xs.length) : (xs.set i z).getD j false = if i = j then z else xs.getD j false := by
  simp only [List.getD_eq_getElem?_getD, List.getElem?_set]
  split
  · rename_i h; subst h; simp [hi]
  · rfl
theorem RSrch.next (h : RSrch n l xs a ms bys ord) {r : Nat} {u : Nat} (hr : r < 2 * l.length) (hs : startR l r ∈ ord) (hc : 0 < capR l xs r) (hu : endR l r = (u : Int)) (hun : u < n) (hb : ms.getD u false = false) :
    RSrch n l xs a (ms.set u true) (bys.set u (encR r)) (ord ++ [(u : Int)]) := by
  obtain ⟨h1, h2, h3, h4, h5, h6⟩ := h
  have hno : (u : Int) ∉ ord := fun hm => by rw [(h5 u hun).1 hm] at hb; cases hb
  have hg : ∀ i, (bys.set u (encR r)).getD i 0 = if u = i then encR r else bys.getD i 0 := fun i => getD_set _ _ _ _ (by omega)
  have hgb : ∀ i, (ms.set u true).getD i false = if u = i then true else ms.getD i false := fun i => getDb_set _ _ _ _ (by omega)
  refine ⟨by simpa using h1, by simpa using h2, ?_, ?_, fun i hi => ?_, fun v hv hva => ?_⟩
  · rw [← hu]
    refine h3.snoc hr hs hc (by rw [hu]; exact hno) (fun v hv _ => ?_) ?_
    · show decR ((bys.set u (encR r)).getD v.toNat 0) = decR (bys.getD v.toNat 0)
      rw [hg, if_neg]
      intro e
      have := h4 v hv
      exact hno (by rw [show (u : Int) = v by omega]; exact hv)
    · show decR ((bys.set u (encR r)).getD (endR l r).toNat 0) = r
      rw [hg, hu, Int.toNat_natCast, if_pos rfl, dec_enc]
  · intro v hv
    rcases List.mem_append.1 hv with hv | hv
    · exact h4 v hv
    · simp at hv; omega
  · rw [hgb, List.mem_append, h5 i hi]
    split
    · rename_i e
      subst e
      simp
    · rename_i e
      constructor
      · rintro (h | h)
        · exact h
        · simp at h; omega
      · intro h; exact .inl h
  · rw [hg]
    split
    · rw [dec_enc]
    · rename_i e
      rcases List.mem_append.1 hv with hv | hv
      · exact h6 v hv hva
      · simp at hv
        subst hv
        simp at e
theorem RSrch.len (h : RSrch n l xs a ms bys ord) : ord.length ≤ n := nodup_len n ord h.2.2.1.nd h.2.2.2.1
end
/-- the reference's search, between two steps -/
def RS (w : World) (n : Nat) (l : List Ed) (xs : List Int) (a : Int) (Mb Y S : Nat) (ms : List Bool) (bys ord : List Int) (qv : Value) (W : World) : Prop :=
  RSrch n l xs a ms bys ord ∧ W.heap[Mb]? = some (.cells (ms.map Value.bool).toArray 4 (0, 0)) ∧ FlAt W Y bys ∧ Owns W S 3 1 intE qv ord ∧ Below w.heap.size w W ∧ S ≤ W.heap.size
theorem Owns.farSet {α : Type} {w : World} {base : Nat} {e : TypeId} {sz : Nat} {en : α → List Value} {v : Value} {ys : List α} (h : Owns w base e sz en v ys) {ad : Addr} (ha : ad.block < base) (u : Value) : Owns (w.setCell ad u) base e sz en v ys :=
  h.kept (row := some ad.block) ⟨rfl, rfl, rfl, by simp [World.setCell], fun q hq hne => Below.heap_setCell _ _ _ _ (fun e => hne (by rw [e]))⟩ (fun b hb e => by cases e; have := h.base_le _ hb; omega)
theorem RS.next {w : World} {n : Nat} {l : List Ed} {xs : List Int} {a : Int} {Mb Y S : Nat} {ms : List Bool} {bys ord : List Int} {qv v' : Value} {W W3 : World} (hMY : Mb < S ∧ Y < S ∧ Mb ≠ Y ∧ w.heap.size ≤ Mb ∧ w.heap.size ≤ Y) (h : RS w n l xs a Mb Y S ms bys ord qv W) {r u : Nat} (hr : r < 2 * l.length) (hs : startR l r ∈ ord) (hc : 0 < capR l xs r) (hu : endR l r = (u : Int)) (hun : u < n) (hb : ms.getD u false = false)
    (k1 : Owns W3 S 3 1 intE v' (ord ++ [(u : Int)])) (k2 : (((W.setCell ⟨Mb, u, none⟩ (.bool true)).setCell ⟨Y, u, none⟩ (.int .i64 (encR r))).alloc (.cells #[.int .i64 u] 3)).grownBy W3 qv.ownBlock) :
    RS w n l xs a Mb Y S (ms.set u true) (bys.set u (encR r)) (ord ++ [(u : Int)]) v' W3 := by
  obtain ⟨h1, h2, h3, h4, h5, h6⟩ := h
  obtain ⟨e1, e2, e3, e4, e5⟩ := hMY
  have hz := k2.size
  simp at hz
  have hbl : ∀ b, b < S → b < W.heap.size → W3.heap[b]? = ((W.setCell ⟨Mb, u, none⟩ (.bool true)).setCell ⟨Y, u, none⟩ (.int .i64 (encR r))).heap[b]? := fun b hbS hbW =>
    (k2.block b (by simp; omega) (fun e => by have := h4.base_le b e.symm; omega)).trans (Below.heap_alloc _ _ _ (by simpa using hbW))
  refine ⟨h1.next hr hs hc hu hun hb, ?_, ?_, k1, ?_, by omega⟩
  · rw [hbl Mb e1 (by omega), Below.heap_setCell _ _ _ _ (by show Mb ≠ Y; exact e3), heap_setCell_same W Mb u _ _ _ h2]
    congr 2
    apply Array.ext'
    simp [List.map_set]
  · exact ((h3.far (a := ⟨Mb, u, none⟩) (by show Y ≠ Mb; exact Ne.symm e3) _).set u _).of_block (hbl Y e2 (by omega))
  · exact (((h5.setCell (by show w.heap.size ≤ Mb; exact e4) _).setCell (by show w.heap.size ≤ Y; exact e5) _).alloc (by simp; exact h5.size) _).grown k2 (by simp; have := h5.size; omega) (fun q e => by have := h4.base_le q e; omega)

set_option maxRecDepth 100000 in
set_option maxHeartbeats 8000000 in
theorem Rsearch_any (n : Nat) (l : List Ed) (A : Option Addr) (c : Nat) (xs : List Int) (D : Option Addr) (d : Nat) (a : Nat) (w : World) (hx : Reads w w.heap.size A 3 Ed.enc l) (hy : Reads w w.heap.size D 1 intE xs) (hb : Bd l xs) (hm : ∀ e ∈ l, okE n e = true) (hll : l.length ≤ 65536) (hn : n ≤ 4096) (ha : a < n) :
    Calls Try.prog 37 #[.int .i64 n, .slice A l.length c, .slice D xs.length d, .int .i64 a] w fun e w' => (∃ Mb Y ms bys ord, e = .returned (.tuple #[.slice (some ⟨Mb, 0, none⟩) n n, .slice (some ⟨Y, 0, none⟩) n n]) ∧ RSrch n l xs a ms bys ord ∧ (∀ v ∈ ord, Clos l xs ord v) ∧ w'.heap[Mb]? = some (.cells (ms.map Value.bool).toArray 4 (0, 0)) ∧ FlAt w' Y bys) ∧ Below w.heap.size w w' := by
  have HX := Lib.hid hx
  have HY := Lib.hid hy
  have HB := Lib.hid hb
  have HE := Lib.hid hm
  have hxl := ((bd_iff l xs).1 hb).1
  have HXL := Lib.hid hxl
  have hl63 : l.length ≤ 9223372036854775807 := by omega
  obtain ⟨b0, hinf, hz0, hz1, hz2⟩ := info_parts Try.infoBo
  obtain ⟨i0, hinf2, hy0, hy1, hy2⟩ := info_parts Try.infoInt
  have hmk1 := fun W => run_make (P := Try.prog) W 24 4 b0 (.bool false) Try.underlying24 hinf hz0 .i64 .i64 (n : Int) (n : Int) (by omega) (by omega) (by rw [hz2]; omega) (by omega)
  have hmk2 := fun W => run_make (P := Try.prog) W 23 3 i0 (.int .i64 0) Try.underlying23 hinf2 hy0 .i64 .i64 (n : Int) (n : Int) (by omega) (by omega) (by rw [hy2]; omega) (by omega)
  rw [hz1] at hmk1
  rw [hy1] at hmk2
  simp only [Int.toNat_natCast, Nat.mul_one, made_falses, made_ints] at hmk1 hmk2
  have HI := Lib.hid hinf2
  obtain ⟨fz, hfz⟩ : ∃ q, q = (List.replicate n (Value.bool false)).toArray := ⟨_, rfl⟩
  obtain ⟨iz, hiz⟩ : ∃ q, q = ((List.replicate n (0 : Int)).map (Value.int .i64)).toArray := ⟨_, rfl⟩
  rw [← hfz] at hmk1
  rw [← hiz] at hmk2
  have HFZ := Lib.hid (And.intro hfz hiz)
  have e1 : w.cell? ⟨0, 0, none⟩ = w.cell? ⟨0, 0, none⟩ := rfl
  clear hx hy hb hm hxl hinf hinf2 hz0 hz1 hz2 hfz hiz e1
  go_enter Try.func37, Try.ntmps37
  go_upto_region 3 with fail
  obtain ⟨W2, hW2⟩ : ∃ X, X = (w.alloc (.cells fz 4)).alloc (.cells iz 3) := ⟨_, rfl⟩
  obtain ⟨Mb, hMb⟩ : ∃ q, q = w.heap.size := ⟨_, rfl⟩
  have z2 : W2.heap.size = Mb + 2 := by rw [hW2, hMb]; simp
  have m2 : W2.heap[Mb]? = some (.cells fz 4 (0, 0)) := by rw [hW2, hMb]; exact (Below.heap_alloc _ _ _ (by simp)).trans (heap_alloc_new w _)
  have y2 : W2.heap[Mb + 1]? = some (.cells iz 3 (0, 0)) := by rw [hW2, hMb]; have := heap_alloc_new (w.alloc (.cells fz 4)) (.cells iz 3); rwa [World.size_alloc] at this
  have b2 : Below w.heap.size w W2 := by rw [hW2]; exact ((Below.refl _ _).alloc (Nat.le_refl _) _).alloc (by simp) _
  rw [← hMb, ← hW2]
  have p0 : W2.cell? ⟨Mb, a, none⟩ = some (.bool false) := by simp [World.cell?, m2, HFZ.out.1, ha]
  have p1 : W2.frozen? ⟨Mb, a, none⟩ = false := by simp [World.frozen?, m2]
  have hMz : Mb < W2.heap.size := by omega
  have HH := Lib.hid (And.intro m2 (And.intro y2 (And.intro b2 (And.intro z2 hMb))))
  clear m2 y2 b2 z2 hW2 hMb hmk1 hmk2
  go_upto_region 5 with fail
  obtain ⟨W4, hW4⟩ : ∃ X, X = (W2.setCell ⟨Mb, a, none⟩ (.bool true)).alloc (.cells #[.int .i64 a] 3) := ⟨_, rfl⟩
  obtain ⟨S, hS⟩ : ∃ q, q = W2.heap.size := ⟨_, rfl⟩
  have R0 : RS w n l xs a Mb (Mb + 1) S ((List.replicate n false).set a true) (List.replicate n 0) [(a : Int)] (.slice (some ⟨S, 0, none⟩) 1 1) W4 := by
    obtain ⟨m2, y2, b2, z2, hMb⟩ := HH.out
    refine ⟨RSrch.start l xs a ha, ?_, ?_, ?_, ?_, by rw [hW4, hS]; simp⟩
    · rw [hW4, Below.heap_alloc _ _ _ (by simp; omega), heap_setCell_same W2 Mb a _ _ _ m2, HFZ.out.1]
      congr 2
      apply Array.ext'
      simp [List.map_set]
    · unfold FlAt
      rw [hW4, Below.heap_alloc _ _ _ (by simp; omega), Below.heap_setCell _ _ _ _ (by show Mb + 1 ≠ Mb; omega), y2, HFZ.out.2]
    · have h := Owns.lit (w := W2.setCell ⟨Mb, a, none⟩ (.bool true)) (base := S) (e := 3) (ys := [(a : Int)]) (cs := #[.int .i64 a]) intE_len' rfl (by simp; omega) (by simp [maxLen])
      rw [World.size_setCell, ← hS] at h
      rw [hW4]
      exact h
    · rw [hW4]
      exact (b2.setCell (by show w.heap.size ≤ Mb; omega) _).alloc (by simp; exact b2.size) _
  have HMY : Hid (Mb < S ∧ Mb + 1 < S ∧ Mb ≠ Mb + 1 ∧ w.heap.size ≤ Mb ∧ w.heap.size ≤ Mb + 1) := Lib.hid (by obtain ⟨m2, y2, b2, z2, hMb⟩ := HH.out; omega)
  have HR0 := Lib.hid R0
  rw [← hS, ← hW4]
  clear R0 hW4 hS p0 p1 hMz
  go_wp2_with fail
  go_loopg [12, 13] n (fun k qv qi wr => ∃ q ms bys ord, k = n - q ∧ qi = .int .i64 (q : Nat) ∧ q ≤ ord.length ∧ RS w n l xs a Mb (Mb + 1) S ms bys ord qv wr ∧ ∀ v ∈ ord.take q, Clos l xs ord v)
  case atStart => exact ⟨0, _, _, _, rfl, rfl, by simp, HR0.out, by simp⟩
  case round =>
    obtain ⟨q, ms, bys, ord, rfl, rfl, hq, hR, hcl⟩ := hrel
    obtain ⟨Aq, cq, rfl, _, _⟩ := hR.2.2.2.1.shape
    have HR := Lib.hid hR
    have HCL := Lib.hid hcl
    have hol := hR.1.len
    by_cases hlt : q < ord.length
    · obtain ⟨gb, go, v, rfl, hgl, hvk, hvc⟩ := (hR.2.2.2.1.reads intE_len').at_ hlt
      have c0 := hvc 0 _ rfl
      simp only [Nat.add_zero, Nat.mul_one] at c0
      have hv0 := hR.1.2.2.2.1 v (List.mem_of_getElem? hvk)
      obtain ⟨v, rfl⟩ : ∃ k : Nat, v = (k : Int) := ⟨v.toNat, by omega⟩
      have HVK := Lib.hid hvk
      clear hvc hvk hR hcl
      go_wp2_with fail
      obtain ⟨wo, hwo⟩ : ∃ X, X = wr := ⟨_, rfl⟩
      rw [← hwo]
      rw [← hwo] at HR
      clear hwo
      go_loopg [12, 15] l.length (fun k qv ii wr => ∃ i ms bys more, k = l.length - i ∧ ii = .int .i64 (i : Nat) ∧ i ≤ l.length ∧ RS w n l xs a Mb (Mb + 1) S ms bys (ord ++ more) qv wr ∧ ∀ r, r < 2 * i → startR l r = (v : Int) → 0 < capR l xs r → endR l r ∈ ord ++ more)
      case atStart => exact ⟨0, ms, bys, [], rfl, rfl, Nat.zero_le _, by rw [List.append_nil]; exact HR.out, fun r hr => by omega⟩
      case round =>
        obtain ⟨i, ms, bys, more, rfl, rfl, hi, hR, hrs⟩ := hrel
        obtain ⟨Aq, cq, rfl, _, _⟩ := hR.2.2.2.1.shape
        have hol2 := hR.1.len
        obtain ⟨on, hon⟩ : ∃ q, q = (ord ++ more).length := ⟨_, rfl⟩
        rw [← hon] at hol2 ⊢
        have HON := Lib.hid hon
        have HR2 := Lib.hid hR
        have HRS := Lib.hid hrs
        by_cases hil : i < l.length
        · obtain ⟨e, hek⟩ : ∃ e, l[i]? = some e := ⟨_, List.getElem?_eq_getElem hil⟩
          obtain ⟨bb, off, e', rfl, hbl, hxk, hc⟩ := (HX.out.below hR.2.2.2.2.1).at_ hil
          have c0 := hc 0 _ rfl
          have c1 := hc 1 _ rfl
          have c2 := hc 2 _ rfl
          simp only [Nat.add_zero] at c0
          obtain rfl : e = e' := by rw [hek] at hxk; injection hxk
          have hee := okE_out (HE.out e (List.mem_of_getElem? hek))
          have hgd : l.getD i default = e := getD_some hek
          obtain ⟨f, t, m⟩ := e
          simp only at hee c0 c1 c2
          obtain ⟨f, rfl⟩ : ∃ k : Nat, f = (k : Int) := ⟨f.toNat, by omega⟩
          obtain ⟨t, rfl⟩ : ∃ k : Nat, t = (k : Int) := ⟨t.toNat, by omega⟩
          obtain ⟨db, doff, z, rfl, hdl, hzk, hdc⟩ := (HY.out.below hR.2.2.2.2.1).at_ (k := i) (by rw [HXL.out]; exact hil)
          have d0 := hdc 0 _ rfl
          simp only [Nat.add_zero, Nat.mul_one] at d0
          have hzg : xs.getD i 0 = z := getD_some hzk
          have hix : i < xs.length := by rw [HXL.out]; exact hil
          have hfn : f < n := by omega
          have htn : t < n := by omega
          have hft : f ≠ t := by omega
          have ce0 : capR l xs (2 * i) = m - z := by unfold capR; rw [if_pos (by omega), show 2 * i / 2 = i by omega, hgd, hzg]
          have ce1 : capR l xs (2 * i + 1) = z := by unfold capR; rw [if_neg (by omega), show (2 * i + 1) / 2 = i by omega, hzg]
          have se0 : startR l (2 * i) = (f : Int) := by unfold startR; rw [if_pos (by omega), show 2 * i / 2 = i by omega, hgd]
          have se1 : startR l (2 * i + 1) = (t : Int) := by unfold startR; rw [if_neg (by omega), show (2 * i + 1) / 2 = i by omega, hgd]
          have ee0 : endR l (2 * i) = (t : Int) := by unfold endR; rw [if_pos (by omega), show 2 * i / 2 = i by omega, hgd]
          have ee1 : endR l (2 * i + 1) = (f : Int) := by unfold endR; rw [if_neg (by omega), show (2 * i + 1) / 2 = i by omega, hgd]
          have HCE := Lib.hid (And.intro ce0 (And.intro ce1 (And.intro se0 (And.intro se1 (And.intro ee0 ee1)))))
          have hml : ms.length = n := hR.1.1
          have mcell : ∀ u, u < n → wr.cell? ⟨Mb, u, none⟩ = some (.bool (ms.getD u false)) := fun u hu => by
            simp [World.cell?, hR.2.1, List.getD_eq_getElem?_getD, List.getElem?_eq_getElem (show u < ms.length by omega)]
          have mfree : ∀ u, wr.frozen? ⟨Mb, u, none⟩ = false := fun u => by simp [World.frozen?, hR.2.1]
          have MC := Lib.hid (And.intro mcell mfree)
          have zM : Mb < wr.heap.size := (Array.getElem?_eq_some_iff.1 hR.2.1).1
          have zY : Mb + 1 < wr.heap.size := hR.2.2.1.lt
          have zb : bb < wr.heap.size := by have := hR.2.2.2.2.1.size; omega
          have zd : db < wr.heap.size := by have := hR.2.2.2.2.1.size; omega
          have hbM : bb < Mb := by have := HMY.out; omega
          have hdM : db < Mb := by have := HMY.out; omega
          have hvo : (v : Int) ∈ ord ++ more := by simp [List.mem_of_getElem? HVK.out]
          have HVO := Lib.hid hvo
          -- a round that adds nothing
          have same : ∀ (W : World), Below wr.heap.size wr W → ((startR l (2 * i) = (v : Int) → 0 < capR l xs (2 * i) → endR l (2 * i) ∈ ord ++ more) ∧ (startR l (2 * i + 1) = (v : Int) → 0 < capR l xs (2 * i + 1) → endR l (2 * i + 1) ∈ ord ++ more)) →
              RS w n l xs a Mb (Mb + 1) S ms bys (ord ++ more) (.slice Aq (ord ++ more).length cq) W ∧ ∀ r, r < 2 * (i + 1) → startR l r = (v : Int) → 0 < capR l xs r → endR l r ∈ ord ++ more := fun W hW h => by
            obtain ⟨r1, r2, r3, r4, r5, r6⟩ := HR2.out
            refine ⟨⟨r1, (hW.block Mb zM).trans r2, r3.step hW, r4.below hW (Nat.le_refl _), r5.trans (hW.mono r5.size), Nat.le_trans r6 hW.size⟩, fun r hr hs hc => ?_⟩
            by_cases h1 : r < 2 * i
            · exact HRS.out r h1 hs hc
            · by_cases h2 : r = 2 * i
              · subst h2; exact h.1 hs hc
              · obtain rfl : r = 2 * i + 1 := by omega
                exact h.2 hs hc
          have SAME := Lib.hid same
          clear hR hrs hc hdc hek hxk hzk hgd hzg ce0 ce1 se0 se1 ee0 ee1 mcell mfree same hon hvo hdl hml hee
          by_cases hfv : f = v
          · have g1 : ((f : Int) == (v : Int)) = true := by simp [hfv]
            have g2 : ((t : Int) == (v : Int)) = false := by simp; omega
            have HFV := Lib.hid hfv
            clear hfv
            by_cases hzm : z < m
            · have g3 : decide (z < m) = true := by simpa using hzm
              cases hmt : ms.getD t false
              · have m0 := MC.out.1 t htn
                have m1 := MC.out.2 t
                rw [hmt] at m0
                have HMT := Lib.hid hmt
                clear hmt
                go_wp2_with fail
                go_quiet (fail)
                have yc0 := HR2.out.2.2.1.cell (i := t) (by rw [HR2.out.1.2.1]; exact htn)
                have yc1 := HR2.out.2.2.1.free t
                obtain ⟨yz, hyz⟩ : ∃ q, q = bys.getD t 0 := ⟨_, rfl⟩
                rw [← hyz] at yc0
                clear hyz
                have henc : encR (2 * i) = (i : Int) + 1 := by unfold encR; rw [if_pos (by omega), show 2 * i / 2 = i by omega]
                have HENC := Lib.hid henc
                clear henc
                go_wp2_with (at_builtin; refine stop_mk ?_)
                obtain ⟨W5, hW5⟩ : ∃ X, X = (((wr.drewN nq).setCell ⟨Mb, t, none⟩ (.bool true)).setCell ⟨Mb + 1, t, none⟩ (.int .i64 ((i : Int) + 1))).alloc (.cells #[.int .i64 t] 3) := ⟨_, rfl⟩
                have hz5 : W5.heap.size = wr.heap.size + 1 := by rw [hW5]; simp
                have ho5 : Owns W5 S 3 1 intE (.slice Aq on cq) (ord ++ more) := by
                  rw [hW5, HON.out]
                  have h : Owns (wr.drewN nq) S 3 1 intE (.slice Aq (ord ++ more).length cq) (ord ++ more) := HR2.out.2.2.2.1.below (below_drewN (Below.refl wr.heap.size wr) nq) (Nat.le_refl _)
                  exact ((h.farSet (ad := ⟨Mb, t, none⟩) HMY.out.1 _).farSet (ad := ⟨Mb + 1, t, none⟩) HMY.out.2.1 _).alloc _
                have hr5 : Reads W5 (wr.heap.size + 1) (some ⟨wr.heap.size, 0, none⟩) 1 intE [(t : Int)] := by
                  rw [hW5]
                  exact reads_one (((wr.drewN nq).setCell ⟨Mb, t, none⟩ (.bool true)).setCell ⟨Mb + 1, t, none⟩ (.int .i64 ((i : Int) + 1))) intE (t : Int) _ _ rfl 1 _ (by simp)
                have HO5 := Lib.hid ho5
                have HR5 := Lib.hid hr5
                have HW5 := Lib.hid hW5
                have hS5 : S ≤ W5.heap.size := by have := HR2.out.2.2.2.2.2; omega
                rw [← hW5]
                clear ho5 hr5 hW5
                have honl : (ord ++ more).length ≤ 4096 := by rw [← HON.out]; omega
                refine stop_out (wpList_append_reads (en := intE) (sz := 1) _ rfl _ _ _ rfl intE_len' intE_one S 3 i0 _ 8 Try.underlying23 HI.out hy0 hy1 hy2 rfl (by decide) (.slice Aq on cq) (ord ++ more) rfl HO5.out
                  (wr.heap.size + 1) (some ⟨wr.heap.size, 0, none⟩) 1 [(t : Int)] rfl HR5.out (fun h => by cases h) (by simp only [List.length_cons, List.length_nil, maxLen]; omega) (by simp only [List.length_cons, List.length_nil]; omega) hS5 ?_)
                intro v5 w5 k1 k2 k3 _
                have hrs5 : Hid (RS w n l xs a Mb (Mb + 1) S (ms.set t true) (bys.set t (encR (2 * i))) ((ord ++ more) ++ [(t : Int)]) v5 w5) := Lib.hid (by
                  have hb := below_drewN (Below.refl wr.heap.size wr) nq
                  obtain ⟨r1, r2, r3, r4, r5, r6⟩ := HR2.out
                  have hR' : RS w n l xs a Mb (Mb + 1) S ms bys (ord ++ more) (.slice Aq (ord ++ more).length cq) (wr.drewN nq) := ⟨r1, r2, r3, r4.below hb (Nat.le_refl _), r5.trans (hb.mono r5.size), r6⟩
                  refine hR'.next HMY.out (r := 2 * i) (by omega) (by rw [HCE.out.2.2.1, HFV.out]; exact HVO.out) (by rw [HCE.out.1]; omega) HCE.out.2.2.2.2.1 htn HMT.out k1 ?_
                  rw [HENC.out, ← HW5.out, ← HON.out]
                  exact k2)
                clear k1 k2 k3 hS5 honl hz5
                have k51 : w5.cell? ⟨bb, off + i * 3 + 1, none⟩ = some (.int .i64 t) := (hrs5.out.2.2.2.2.1.cell (p := ⟨bb, off + i * 3 + 1, none⟩) hbl).trans ((HR2.out.2.2.2.2.1.cell (p := ⟨bb, off + i * 3 + 1, none⟩) hbl).symm.trans c1)
                have zb5 : bb < w5.heap.size := by have := hrs5.out.2.2.2.2.1.size; omega
                go_wp2_with fail
                go_roundg (l.length - (i + 1))
                case measure => omega
                case rel =>
                  refine ⟨i + 1, _, _, more ++ [(t : Int)], rfl, by go_num, by omega, by rw [← List.append_assoc]; exact hrs5.out, fun r hr hs hc => ?_⟩
                  rw [← List.append_assoc]
                  by_cases h1 : r < 2 * i
                  · exact List.mem_append_left _ (HRS.out r h1 hs hc)
                  · by_cases h2 : r = 2 * i
                    · subst h2
                      rw [HCE.out.2.2.2.2.1]; simp
                    · obtain rfl : r = 2 * i + 1 := by omega
                      rw [HCE.out.2.2.2.1] at hs; have := HFV.out; omega
              · have m0 := MC.out.1 t htn
                rw [hmt] at m0
                have HMT := Lib.hid hmt
                clear hmt
                go_wp2_with fail
                go_quiet (fail)
                go_wp2_with fail
                go_roundg (l.length - (i + 1))
                case measure => omega
                case rel =>
                  obtain ⟨s1, s2⟩ := SAME.out _ (below_drewN (Below.refl wr.heap.size wr) nq) ⟨fun _ _ => by rw [HCE.out.2.2.2.2.1]; exact (HR2.out.1.2.2.2.2.1 t htn).2 HMT.out, fun hs => by rw [HCE.out.2.2.2.1] at hs; have := HFV.out; omega⟩
                  exact ⟨i + 1, ms, bys, more, rfl, by go_num, by omega, by rw [HON.out]; exact s1, s2⟩
            · have g3 : decide (z < m) = false := by simpa using hzm
              go_wp2_with fail
              go_quiet (fail)
              go_wp2_with fail
              go_roundg (l.length - (i + 1))
              case measure => omega
              case rel =>
                obtain ⟨s1, s2⟩ := SAME.out _ (below_drewN (Below.refl wr.heap.size wr) nq) ⟨fun _ hc => by rw [HCE.out.1] at hc; omega, fun hs => by rw [HCE.out.2.2.2.1] at hs; have := HFV.out; omega⟩
                exact ⟨i + 1, ms, bys, more, rfl, by go_num, by omega, by rw [HON.out]; exact s1, s2⟩
          · have g1 : ((f : Int) == (v : Int)) = false := by simp; omega
            by_cases htv : t = v
            · have g2 : ((t : Int) == (v : Int)) = true := by simp [htv]
              have HTV := Lib.hid (And.intro hfv htv)
              clear hfv htv
              by_cases hz0 : 0 < z
              · have g3 : decide (0 < z) = true := by simpa using hz0
                cases hmf : ms.getD f false
                · have m0 := MC.out.1 f hfn
                  have m1 := MC.out.2 f
                  rw [hmf] at m0
                  have HMT := Lib.hid hmf
                  clear hmf
                  go_wp2_with fail
                  go_quiet (fail)
                  have yc0 := HR2.out.2.2.1.cell (i := f) (by rw [HR2.out.1.2.1]; exact hfn)
                  have yc1 := HR2.out.2.2.1.free f
                  obtain ⟨yz, hyz⟩ : ∃ q, q = bys.getD f 0 := ⟨_, rfl⟩
                  rw [← hyz] at yc0
                  clear hyz
                  have henc : encR (2 * i + 1) = -((i : Int) + 1) := by unfold encR; rw [if_neg (by omega), show (2 * i + 1) / 2 = i by omega]
                  have HENC := Lib.hid henc
                  clear henc
                  go_wp2_with (at_builtin; refine stop_mk ?_)
                  obtain ⟨W5, hW5⟩ : ∃ X, X = (((wr.drewN nq).setCell ⟨Mb, f, none⟩ (.bool true)).setCell ⟨Mb + 1, f, none⟩ (.int .i64 (-((i : Int) + 1)))).alloc (.cells #[.int .i64 f] 3) := ⟨_, rfl⟩
                  have hz5 : W5.heap.size = wr.heap.size + 1 := by rw [hW5]; simp
                  have ho5 : Owns W5 S 3 1 intE (.slice Aq on cq) (ord ++ more) := by
                    rw [hW5, HON.out]
                    have h : Owns (wr.drewN nq) S 3 1 intE (.slice Aq (ord ++ more).length cq) (ord ++ more) := HR2.out.2.2.2.1.below (below_drewN (Below.refl wr.heap.size wr) nq) (Nat.le_refl _)
                    exact ((h.farSet (ad := ⟨Mb, f, none⟩) HMY.out.1 _).farSet (ad := ⟨Mb + 1, f, none⟩) HMY.out.2.1 _).alloc _
                  have hr5 : Reads W5 (wr.heap.size + 1) (some ⟨wr.heap.size, 0, none⟩) 1 intE [(f : Int)] := by
                    rw [hW5]
                    exact reads_one (((wr.drewN nq).setCell ⟨Mb, f, none⟩ (.bool true)).setCell ⟨Mb + 1, f, none⟩ (.int .i64 (-((i : Int) + 1)))) intE (f : Int) _ _ rfl 1 _ (by simp)
                  have HO5 := Lib.hid ho5
                  have HR5 := Lib.hid hr5
                  have HW5 := Lib.hid hW5
                  have hS5 : S ≤ W5.heap.size := by have := HR2.out.2.2.2.2.2; omega
                  rw [← hW5]
                  clear ho5 hr5 hW5
                  have honl : (ord ++ more).length ≤ 4096 := by rw [← HON.out]; omega
                  refine stop_out (wpList_append_reads (en := intE) (sz := 1) _ rfl _ _ _ rfl intE_len' intE_one S 3 i0 _ 8 Try.underlying23 HI.out hy0 hy1 hy2 rfl (by decide) (.slice Aq on cq) (ord ++ more) rfl HO5.out
                    (wr.heap.size + 1) (some ⟨wr.heap.size, 0, none⟩) 1 [(f : Int)] rfl HR5.out (fun h => by cases h) (by simp only [List.length_cons, List.length_nil, maxLen]; omega) (by simp only [List.length_cons, List.length_nil]; omega) hS5 ?_)
                  intro v5 w5 k1 k2 k3 _
                  have hrs5 : Hid (RS w n l xs a Mb (Mb + 1) S (ms.set f true) (bys.set f (encR (2 * i + 1))) ((ord ++ more) ++ [(f : Int)]) v5 w5) := Lib.hid (by
                    have hb := below_drewN (Below.refl wr.heap.size wr) nq
                    obtain ⟨r1, r2, r3, r4, r5, r6⟩ := HR2.out
                    have hR' : RS w n l xs a Mb (Mb + 1) S ms bys (ord ++ more) (.slice Aq (ord ++ more).length cq) (wr.drewN nq) := ⟨r1, r2, r3, r4.below hb (Nat.le_refl _), r5.trans (hb.mono r5.size), r6⟩
                    refine hR'.next HMY.out (r := 2 * i + 1) (by omega) (by rw [HCE.out.2.2.2.1, HTV.out.2]; exact HVO.out) (by rw [HCE.out.2.1]; omega) HCE.out.2.2.2.2.2 hfn HMT.out k1 ?_
                    rw [HENC.out, ← HW5.out, ← HON.out]
                    exact k2)
                  clear k1 k2 k3 hS5 honl hz5
                  go_wp2_with fail
                  go_roundg (l.length - (i + 1))
                  case measure => omega
                  case rel =>
                    refine ⟨i + 1, _, _, more ++ [(f : Int)], rfl, by go_num, by omega, by rw [← List.append_assoc]; exact hrs5.out, fun r hr hs hc => ?_⟩
                    rw [← List.append_assoc]
                    by_cases h1 : r < 2 * i
                    · exact List.mem_append_left _ (HRS.out r h1 hs hc)
                    · by_cases h2 : r = 2 * i
                      · subst h2
                        rw [HCE.out.2.2.1] at hs; have := HTV.out.1; omega
                      · obtain rfl : r = 2 * i + 1 := by omega
                        rw [HCE.out.2.2.2.2.2]; simp
                · have m0 := MC.out.1 f hfn
                  rw [hmf] at m0
                  have HMT := Lib.hid hmf
                  clear hmf
                  go_wp2_with fail
                  go_quiet (fail)
                  go_wp2_with fail
                  go_roundg (l.length - (i + 1))
                  case measure => omega
                  case rel =>
                    obtain ⟨s1, s2⟩ := SAME.out _ (below_drewN (Below.refl wr.heap.size wr) nq) ⟨fun hs => by rw [HCE.out.2.2.1] at hs; have := HTV.out.1; omega, fun _ _ => by rw [HCE.out.2.2.2.2.2]; exact (HR2.out.1.2.2.2.2.1 f hfn).2 HMT.out⟩
                    exact ⟨i + 1, ms, bys, more, rfl, by go_num, by omega, by rw [HON.out]; exact s1, s2⟩
              · have g3 : decide (0 < z) = false := by simpa using hz0
                go_wp2_with fail
                go_quiet (fail)
                go_wp2_with fail
                go_roundg (l.length - (i + 1))
                case measure => omega
                case rel =>
                  obtain ⟨s1, s2⟩ := SAME.out _ (below_drewN (Below.refl wr.heap.size wr) nq) ⟨fun hs => by rw [HCE.out.2.2.1] at hs; have := HTV.out.1; omega, fun _ hc => by rw [HCE.out.2.1] at hc; omega⟩
                  exact ⟨i + 1, ms, bys, more, rfl, by go_num, by omega, by rw [HON.out]; exact s1, s2⟩
            · have g2 : ((t : Int) == (v : Int)) = false := by simp; omega
              have HTV := Lib.hid (And.intro hfv htv)
              clear hfv htv
              go_wp2_with fail
              go_quiet (fail)
              go_wp2_with fail
              go_roundg (l.length - (i + 1))
              case measure => omega
              case rel =>
                obtain ⟨s1, s2⟩ := SAME.out _ (below_drewN (Below.refl wr.heap.size wr) nq) ⟨fun hs => by rw [HCE.out.2.2.1] at hs; have := HTV.out.1; omega, fun hs => by rw [HCE.out.2.2.2.1] at hs; have := HTV.out.2; omega⟩
                exact ⟨i + 1, ms, bys, more, rfl, by go_num, by omega, by rw [HON.out]; exact s1, s2⟩
        · obtain rfl : i = l.length := by omega
          clear hR hrs hon
          go_wp2_with fail
          go_roundg (n - (q + 1))
          case measure => omega
          case rel =>
            refine ⟨q + 1, ms, bys, ord ++ more, rfl, by go_num, by simp; omega, by rw [HON.out]; exact HR2.out, fun u hu => ?_⟩
            rw [List.take_append_of_le_length (by omega)] at hu
            rw [take_snoc HVK.out] at hu
            rcases List.mem_append.1 hu with hu | hu
            · exact (HCL.out u hu).more
            · simp at hu
              subst hu
              exact fun r h1 h2 h3 => HRS.out r h1 h2 h3
    · obtain rfl : q = ord.length := by omega
      clear hR hcl
      go_wp2_with fail
      go_ret2
      exact ⟨⟨Mb, Mb + 1, ms, bys, ord, rfl, HR.out.1, fun v hv => HCL.out v (by rw [List.take_of_length_le (Nat.le_refl _)]; exact hv), HR.out.2.1, HR.out.2.2.1⟩, HR.out.2.2.2.2.1⟩
end Go.Proofs.Ytjpnbpfbdkbknaa
