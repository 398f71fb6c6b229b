/- TopDegree, what its proof leans on: the texts Fla. -/
import Derived.Test.YtalmbigebjbaoaaGreatDoorM01
import Derived.Test.YtalmbigebjbaoaaGreatDoorRows
import Derived.Test.YtalmbigebjbaoaaGreatDoorM02
import Derived.BigQuiet
import Derived.BigRegion
import Derived.Deep.QuietTactic
import Derived.StillTailTactics
import Derived.Laws.EntriesVeiled
import Derived.Handy
import Derived.Deep.DeepCutAuto
import Derived.Laws.Rows
import Derived.RegionTactic
import Derived.Laws.Bits64b
import Derived.Laws.MakeOwn
import Derived.Laws.CopyOwn
import Derived.Deep.RegionHeldLaw
import Derived.IntWalk
import Derived.ArgAppend
namespace Go.Proofs.YtalmbigebjbaoaaGreatDoor.Fl
set_option linter.unusedSimpArgs false
set_option linter.unusedVariables false
structure Ed where
 f : Int
 t : Int
 m : Int
 deriving DecidableEq, Inhabited
def outE : List Ed → List Int → Int → Int
 | e :: l, x :: xs, v => (if e.f = v then x else 0) - (if e.t = v then x else 0) + outE l xs v
 | _, _, _ => 0
def acrE : List Ed → List Int → (Int → Bool) → Int
 | e :: l, x :: xs, c => (if c e.f then x else 0) - (if c e.t then x else 0) + acrE l xs c
 | _, _, _ => 0
def cutE : List Ed → (Int → Bool) → Int
 | e :: l, c => (if c e.f && !c e.t then e.m else 0) + cutE l c
 | [], _ => 0
def sumTo (g : Int → Int) : Nat → Int
 | 0 => 0
 | n + 1 => sumTo g n + g n
def Bd : List Ed → List Int → Prop
 | [], [] => True
 | e :: l, x :: xs => 0 ≤ x ∧ x ≤ e.m ∧ Bd l xs
 | _, _ => False
def InN (n : Nat) (l : List Ed) : Prop := ∀ e ∈ l, 0 ≤ e.f ∧ e.f < n ∧ 0 ≤ e.t ∧ e.t < n
def IsFl (n : Nat) (l : List Ed) (a b : Int) (xs : List Int) : Prop :=
 Bd l xs ∧ ∀ v : Int, 0 ≤ v → v < n → v ≠ a → v ≠ b → outE l xs v = 0
def Shut : List Ed → List Int → (Int → Bool) → Prop
 | e :: l, x :: xs, c => (c e.f = true → c e.t = false → x = e.m) ∧ (c e.t = true → c e.f = false → x = 0) ∧ Shut l xs c
 | _, _, _ => True
theorem sumTo_add (g h : Int → Int) : ∀ n, sumTo (fun v => g v + h v) n = sumTo g n + sumTo h n
 | 0 => rfl
 | n + 1 => by simp only [sumTo, sumTo_add g h n]; omega
theorem sumTo_congr {g h : Int → Int} : ∀ n : Nat, (∀ v : Int, 0 ≤ v → v < (n : Int) → g v = h v) → sumTo g n = sumTo h n
 | 0, _ => rfl
 | n + 1, H => by
   simp only [sumTo]
   rw [sumTo_congr n (fun v h0 h1 => H v h0 (by omega)), H n (by omega) (by omega)]
theorem sumTo_zero : ∀ n, sumTo (fun _ => 0) n = 0
 | 0 => rfl
 | n + 1 => by simp [sumTo, sumTo_zero n]
theorem sumTo_at (a x : Int) (h0 : 0 ≤ a) : ∀ n : Nat, sumTo (fun v => if a = v then x else 0) n = if a < n then x else 0
 | 0 => by simp [sumTo]; omega
 | n + 1 => by
   simp only [sumTo, sumTo_at a x h0 n]
   by_cases h : a = (n : Int)
   ·rw [if_neg (by omega), if_pos h, if_pos (by omega)]; omega
   ·rw [if_neg h]
    by_cases h2 : a < (n : Int)
    ·rw [if_pos h2, if_pos (by omega)]; omega
    ·rw [if_neg h2, if_neg (by omega)]; rfl
theorem sumTo_pick (c : Int → Bool) (a x : Int) (n : Nat) (h0 : 0 ≤ a) (h1 : a < n) : sumTo (fun v => if c v then (if a = v then x else 0) else 0) n = if c a then x else 0 := by
 rw [sumTo_congr n (h := fun v => if a = v then (if c a then x else 0) else 0) (fun v _ _ => by
  by_cases h : a = v
  ·subst h; simp
  ·simp [h])]
 rw [sumTo_at _ _ h0, if_pos h1]
theorem acr_sum (n : Nat) (c : Int → Bool) : ∀ (l : List Ed) (xs : List Int), InN n l → acrE l xs c = sumTo (fun v => if c v then outE l xs v else 0) n
 | [], xs, _ => by
   simp only [acrE, outE]
   rw [sumTo_congr n (h := fun _ => 0) (fun v _ _ => by simp), sumTo_zero]
 | e :: l, [], _ => by
   simp only [acrE, outE]
   rw [sumTo_congr n (h := fun _ => 0) (fun v _ _ => by simp), sumTo_zero]
 | e :: l, x :: xs, h => by
   obtain ⟨h1, h2, h3, h4⟩ := h e (List.mem_cons_self ..)
   simp only [acrE, outE]
   rw [acr_sum n c l xs (fun e' he => h e' (List.mem_cons_of_mem _ he))]
   rw [sumTo_congr n (g := fun v => if c v then (if e.f = v then x else 0) - (if e.t = v then x else 0) + outE l xs v else 0)
    (h := fun v => ((if c v then (if e.f = v then x else 0) else 0) + (if c v then (if e.t = v then -x else 0) else 0)) + (if c v then outE l xs v else 0)) (fun v _ _ => by
      by_cases hc : c v
      ·simp only [hc, if_true]; split <;> split <;> omega
      ·simp [hc])]
   rw [sumTo_add, sumTo_add, sumTo_pick c _ _ n h1 h2, sumTo_pick c _ _ n h3 h4]
   split <;> split <;> omega
theorem acr_out {n : Nat} {l : List Ed} {a b : Int} {xs : List Int} {c : Int → Bool} (hn : InN n l) (h : IsFl n l a b xs) (ha0 : 0 ≤ a) (ha : a < n) (hb : c b = false) (hc : c a = true) : acrE l xs c = outE l xs a := by
 rw [acr_sum n c l xs hn, sumTo_congr n (h := fun v => if a = v then outE l xs a else 0) (fun v h0 h1 => by
  by_cases e : a = v
  ·subst e; simp [hc]
  ·rw [if_neg e]
   by_cases e2 : v = b
   ·subst e2; simp [hb]
   ·rw [h.2 v h0 h1 (Ne.symm e) e2]; simp), sumTo_at _ _ ha0, if_pos ha]
theorem acr_shut (c : Int → Bool) : ∀ (l : List Ed) (xs : List Int), Bd l xs → Shut l xs c → acrE l xs c = cutE l c
 | [], [], _, _ => by simp [acrE, cutE]
 | e :: l, x :: xs, ⟨h0, h1, h2⟩, ⟨h3, h4, h5⟩ => by
   have := acr_shut c l xs h2 h5
   simp only [acrE, cutE]
   cases hf : c e.f <;> cases ht : c e.t <;> simp [hf, ht] at h3 h4 ⊢ <;> omega
def IsCut (a b : Int) (c : Int → Bool) : Prop := c a = true ∧ c b = false
def MaxR (n : Nat) (l : List Ed) (a b : Int) (xs : List Int) (c : Int → Bool) : Prop :=
 IsFl n l a b xs ∧ IsCut a b c ∧ Shut l xs c ∧ ∀ d : Int → Bool, d a = true → Shut l xs d → ∀ v : Int, 0 ≤ v → v < n → c v = true → d v = true
section
variable {n : Nat} {l : List Ed} {a b : Int} {xs ys : List Int} {c d : Int → Bool}
theorem MaxR.dual (hn : InN n l) (ha0 : 0 ≤ a) (ha : a < n) (h : MaxR n l a b xs c) : outE l xs a = cutE l c := by
 rw [← acr_out hn h.1 ha0 ha h.2.1.2 h.2.1.1]
 exact acr_shut c l xs h.1.1 h.2.2.1
end
def startR (l : List Ed) (r : Nat) : Int := if r % 2 = 0 then (l.getD (r / 2) default).f else (l.getD (r / 2) default).t
def endR (l : List Ed) (r : Nat) : Int := if r % 2 = 0 then (l.getD (r / 2) default).t else (l.getD (r / 2) default).f
def capR (l : List Ed) (xs : List Int) (r : Nat) : Int := if r % 2 = 0 then (l.getD (r / 2) default).m - xs.getD (r / 2) 0 else xs.getD (r / 2) 0
def pushR (xs : List Int) (k : Int) (r : Nat) : List Int := xs.set (r / 2) (xs.getD (r / 2) 0 + if r % 2 = 0 then k else -k)
def pushAll (xs : List Int) (k : Int) (rs : List Nat) : List Int := rs.foldl (fun xs r => pushR xs k r) xs
theorem pushR_len (xs : List Int) (k : Int) (r : Nat) : (pushR xs k r).length = xs.length := by simp [pushR]
theorem pushAll_len (k : Int) : ∀ (rs : List Nat) (xs : List Int), (pushAll xs k rs).length = xs.length
 | [], xs => rfl
 | r :: rs, xs => by
   have := pushAll_len k rs (pushR xs k r)
   rw [pushR_len] at this
   exact this
theorem out_set (v : Int) : ∀ (l : List Ed) (xs : List Int) (i : Nat) (z : Int), xs.length = l.length → i < l.length →
 outE l (xs.set i (xs.getD i 0 + z)) v = outE l xs v + ((if (l.getD i default).f = v then z else 0) - (if (l.getD i default).t = v then z else 0))
 | e :: l, x :: xs, 0, z, _, _ => by
   simp only [List.set_cons_zero, outE, List.getD_cons_zero]
   split <;> split <;> omega
 | e :: l, x :: xs, i + 1, z, hl, hi => by
   have := out_set v l xs i z (by simpa using hl) (by simpa using hi)
   simp only [List.set_cons_succ, outE, List.getD_cons_succ, this]
   omega
 | [], _, _, _, _, hi => by simp at hi
 | _ :: _, [], _, _, hl, _ => by simp at hl
theorem out_push {l : List Ed} {xs : List Int} {k : Int} {r : Nat} (v : Int) (hl : xs.length = l.length) (hr : r < 2 * l.length) :
 outE l (pushR xs k r) v = outE l xs v + ((if startR l r = v then k else 0) - (if endR l r = v then k else 0)) := by
 unfold pushR startR endR
 rw [out_set v l xs (r / 2) _ hl (by omega)]
 rcases Nat.mod_two_eq_zero_or_one r with h | h
 ·simp only [h, if_true]
 ·simp only [h]
  simp
  split <;> split <;> omega
def Way (l : List Ed) (a : Int) : Int → List Nat → Prop
 | v, [] => v = a
 | v, r :: rs => r < 2 * l.length ∧ endR l r = v ∧ Way l a (startR l r) rs
theorem out_pushAll {l : List Ed} {k : Int} {a : Int} (u : Int) : ∀ (rs : List Nat) (v : Int) (xs : List Int), xs.length = l.length → Way l a v rs →
 outE l (pushAll xs k rs) u = outE l xs u + ((if a = u then k else 0) - (if v = u then k else 0))
 | [], v, xs, hl, h => by
   have h : v = a := h
   subst h
   simp only [pushAll, List.foldl_nil]
   omega
 | r :: rs, v, xs, hl, ⟨h1, h2, h3⟩ => by
   have := out_pushAll (k := k) u rs _ (pushR xs k r) (by rw [pushR_len, hl]) h3
   have e : pushAll xs k (r :: rs) = pushAll (pushR xs k r) k rs := rfl
   rw [e, this, out_push u hl h1, h2]
   omega
theorem getD_set (xs : List Int) (i j : Nat) (z : Int) (hi : i < xs.length) : (xs.set i z).getD j 0 = if i = j then z else xs.getD j 0 := by
 simp only [List.getD_eq_getElem?_getD, List.getElem?_set]
 split
 ·rename_i h; subst h; simp [hi]
 ·rfl
theorem push_at {k : Int} (i : Nat) : ∀ (rs : List Nat) (xs : List Int), (∀ r ∈ rs, r < 2 * xs.length) →
 (pushAll xs k rs).getD i 0 = xs.getD i 0 + k * (rs.count (2 * i) : Nat) - k * (rs.count (2 * i + 1) : Nat)
 | [], xs, _ => by simp [pushAll]
 | r :: rs, xs, h => by
   have hr := h r (List.mem_cons_self ..)
   have e : pushAll xs k (r :: rs) = pushAll (pushR xs k r) k rs := rfl
   rw [e, push_at i rs (pushR xs k r) (fun q hq => by rw [pushR_len]; exact h q (List.mem_cons_of_mem _ hq))]
   unfold pushR
   rw [getD_set _ _ _ _ (by omega)]
   simp only [List.count_cons]
   by_cases h1 : r / 2 = i
   ·subst h1
    rw [if_pos rfl]
    rcases Nat.mod_two_eq_zero_or_one r with h2 | h2
    ·have a1 : (r == 2 * (r / 2)) = true := by simp; omega
     have a2 : (r == 2 * (r / 2) + 1) = false := by simp; omega
     simp only [a1, a2, h2, if_true, if_false, Bool.false_eq_true, Nat.add_zero, Int.natCast_add, Int.mul_add]
     simp
     omega
    ·have a1 : (r == 2 * (r / 2)) = false := by simp; omega
     have a2 : (r == 2 * (r / 2) + 1) = true := by simp; omega
     simp only [a1, a2, h2, if_true, if_false, Bool.false_eq_true, Nat.add_zero, Int.natCast_add, Int.mul_add]
     simp
     omega
   ·have a1 : (r == 2 * i) = false := by simp; omega
    have a2 : (r == 2 * i + 1) = false := by simp; omega
    rw [if_neg h1]
    simp [a1, a2]
theorem bd_iff : ∀ (l : List Ed) (xs : List Int), Bd l xs ↔ xs.length = l.length ∧ ∀ i, i < l.length → 0 ≤ xs.getD i 0 ∧ xs.getD i 0 ≤ (l.getD i default).m
 | [], [] => by simp [Bd]
 | [], x :: xs => by simp [Bd]
 | e :: l, [] => by simp [Bd]
 | e :: l, x :: xs => by
   simp only [Bd, bd_iff l xs, List.length_cons]
   constructor
   ·rintro ⟨h0, h1, h2, h3⟩
    refine ⟨by omega, fun i hi => ?_⟩
    cases i with
    | zero => exact ⟨h0, h1⟩
    | succ i => exact h3 i (by omega)
   ·rintro ⟨h2, h3⟩
    exact ⟨(h3 0 (by omega)).1, (h3 0 (by omega)).2, by omega, fun i hi => h3 (i + 1) (by omega)⟩
theorem shut_iff (c : Int → Bool) : ∀ (l : List Ed) (xs : List Int), xs.length = l.length → (Shut l xs c ↔ ∀ i, i < l.length → (c (l.getD i default).f = true → c (l.getD i default).t = false → xs.getD i 0 = (l.getD i default).m) ∧ (c (l.getD i default).t = true → c (l.getD i default).f = false → xs.getD i 0 = 0))
 | [], xs, _ => by cases xs <;> simp [Shut]
 | e :: l, [], h => by simp at h
 | e :: l, x :: xs, h => by
   simp only [Shut, shut_iff c l xs (by simpa using h), List.length_cons]
   constructor
   ·rintro ⟨h0, h1, h3⟩
    intro i hi
    cases i with
    | zero => exact ⟨h0, h1⟩
    | succ i => exact h3 i (by omega)
   ·intro h3
    exact ⟨(h3 0 (by omega)).1, (h3 0 (by omega)).2, fun i hi => h3 (i + 1) (by omega)⟩
theorem push_bd {l : List Ed} {xs : List Int} {k : Int} {rs : List Nat} (hk : 0 ≤ k) (h : Bd l xs) (hr : ∀ r ∈ rs, r < 2 * l.length ∧ k ≤ capR l xs r) (hd : rs.Nodup) : Bd l (pushAll xs k rs) := by
 rw [bd_iff] at h ⊢
 obtain ⟨h1, h2⟩ := h
 refine ⟨by rw [pushAll_len, h1], fun i hi => ?_⟩
 rw [push_at i rs xs (fun r hr' => by rw [h1]; exact (hr r hr').1)]
 obtain ⟨h3, h4⟩ := h2 i hi
 have c1 : rs.count (2 * i) ≤ 1 := List.nodup_iff_count.1 hd _
 have c2 : rs.count (2 * i + 1) ≤ 1 := List.nodup_iff_count.1 hd _
 have m1 : rs.count (2 * i) = 1 → k ≤ (l.getD i default).m - xs.getD i 0 := fun e => by
  have := (hr (2 * i) (List.count_pos_iff.1 (by omega))).2
  have e1 : 2 * i % 2 = 0 := by omega
  have e2 : 2 * i / 2 = i := by omega
  unfold capR at this
  rw [if_pos e1, e2] at this
  exact this
 have m2 : rs.count (2 * i + 1) = 1 → k ≤ xs.getD i 0 := fun e => by
  have := (hr (2 * i + 1) (List.count_pos_iff.1 (by omega))).2
  have e1 : (2 * i + 1) % 2 = 1 := by omega
  have e2 : (2 * i + 1) / 2 = i := by omega
  unfold capR at this
  rw [if_neg (by omega), e2] at this
  exact this
 generalize rs.count (2 * i) = p at *
 generalize rs.count (2 * i + 1) = q at *
 rcases Nat.le_one_iff_eq_zero_or_eq_one.1 c1 with rfl | rfl <;> rcases Nat.le_one_iff_eq_zero_or_eq_one.1 c2 with rfl | rfl <;> simp only [Nat.zero_ne_one, false_implies, true_implies, Int.natCast_zero, Int.natCast_one, Int.mul_zero, Int.mul_one] at m1 m2 ⊢ <;> omega
theorem way_mem {l : List Ed} {a : Int} : ∀ (rs : List Nat) (v : Int), Way l a v rs → ∀ r ∈ rs, r < 2 * l.length
 | r :: rs, v, ⟨h1, _, h3⟩, q, hq => by
   rcases List.mem_cons.1 hq with rfl | hq
   ·exact h1
   ·exact way_mem rs _ h3 q hq
theorem aug_fl {n : Nat} {l : List Ed} {a b : Int} {xs : List Int} {k : Int} {rs : List Nat} (hk : 0 ≤ k) (h : IsFl n l a b xs) (hw : Way l a b rs) (hc : ∀ r ∈ rs, k ≤ capR l xs r) (hd : rs.Nodup) (hab : a ≠ b) :
 IsFl n l a b (pushAll xs k rs) ∧ outE l (pushAll xs k rs) a = outE l xs a + k := by
 have hl : xs.length = l.length := ((bd_iff _ _).1 h.1).1
 refine ⟨⟨push_bd hk h.1 (fun r hr => ⟨way_mem _ _ hw r hr, hc r hr⟩) hd, fun v h0 h1 h2 h3 => ?_⟩, ?_⟩
 ·rw [out_pushAll v rs b xs hl hw, h.2 v h0 h1 h2 h3, if_neg (Ne.symm h2), if_neg (Ne.symm h3)]
  omega
 ·rw [out_pushAll a rs b xs hl hw, if_pos rfl, if_neg (Ne.symm hab)]
  omega
def sumM (l : List Ed) : Int := (l.map (·.m)).sum
theorem out_le (v : Int) : ∀ (l : List Ed) (xs : List Int), Bd l xs → -sumM l ≤ outE l xs v ∧ outE l xs v ≤ sumM l
 | [], [], _ => by simp [outE, sumM]
 | e :: l, x :: xs, ⟨h0, h1, h2⟩ => by
   have := out_le v l xs h2
   simp only [outE, sumM, List.map_cons, List.sum_cons] at this ⊢
   constructor <;> split <;> split <;> omega
theorem zeros_fl (n : Nat) (l : List Ed) (a b : Int) (hm : ∀ e ∈ l, 0 ≤ e.m) : IsFl n l a b (List.replicate l.length 0) := by
 constructor
 ·rw [bd_iff]
  refine ⟨by simp, fun i hi => ?_⟩
  have : (List.replicate l.length (0 : Int)).getD i 0 = 0 := by simp [List.getD_eq_getElem?_getD, List.getElem?_replicate]; split <;> rfl
  rw [this]
  refine ⟨by omega, hm _ ?_⟩
  simp [List.getD_eq_getElem?_getD, List.getElem?_eq_getElem hi]
 ·intro v _ _ _ _
  induction l with
  | nil => rfl
  | cons e l ih =>
    simp only [List.length_cons, List.replicate_succ, outE]
    rw [ih (fun e he => hm e (List.mem_cons_of_mem _ he))]
    simp
end Go.Proofs.YtalmbigebjbaoaaGreatDoor.Fl
namespace Go.Proofs.YtalmbigebjbaoaaGreatDoor.Fl
set_option linter.unusedSimpArgs false
set_option linter.unusedVariables false
structure Bfs (l : List Ed) (xs : List Int) (a : Int) (ord : List Int) (p : Int → Nat) : Prop where
 nd : ord.Nodup
 hd : ord[0]? = some a
 by_ : ∀ (k : Nat) (v : Int), ord[k]? = some v → 0 < k → p v < 2 * l.length ∧ endR l (p v) = v ∧ 0 < capR l xs (p v) ∧ startR l (p v) ∈ ord.take k
section
variable {n : Nat} {l : List Ed} {xs : List Int} {a b v : Int} {ord : List Int} {p : Int → Nat}
theorem Bfs.one (p : Int → Nat) : Bfs l xs a [a] p := ⟨by simp, rfl, fun k v h hk => by
 cases k with
 | zero => omega
 | succ k => simp at h⟩
theorem Bfs.mem (h : Bfs l xs a ord p) : a ∈ ord := List.mem_of_getElem? h.hd
theorem Bfs.pos (h : Bfs l xs a ord p) : 0 < ord.length := (List.getElem?_eq_some_iff.1 h.hd).1
theorem Bfs.snoc {r : Nat} {q : Int → Nat} (h : Bfs l xs a ord p) (hr : r < 2 * l.length) (hs : startR l r ∈ ord) (hc : 0 < capR l xs r) (he : endR l r ∉ ord) (hq : ∀ v ∈ ord, v ≠ a → q v = p v) (hqr : q (endR l r) = r) : Bfs l xs a (ord ++ [endR l r]) q := by
 have hp := h.pos
 refine ⟨?_, ?_, fun k v hk h0 => ?_⟩
 ·rw [List.nodup_append]
  refine ⟨h.nd, by simp, fun x hx y hy e => ?_⟩
  simp at hy
  subst hy e
  exact he hx
 ·rw [List.getElem?_append_left hp]; exact h.hd
 ·by_cases hlt : k < ord.length
  ·rw [List.getElem?_append_left hlt] at hk
   obtain ⟨h1, h2, h3, h4⟩ := h.by_ k v hk h0
   have hva : v ≠ a := fun e => by
    have := (List.getElem?_inj hlt h.nd).1 (hk.trans (by rw [e]; exact h.hd.symm))
    omega
   rw [hq v (List.mem_of_getElem? hk) hva, List.take_append_of_le_length (by omega)]
   exact ⟨h1, h2, h3, h4⟩
  ·have hkl : k = ord.length := by
    have := (List.getElem?_eq_some_iff.1 hk).1
    simp at this; omega
   subst hkl
   simp at hk
   subst hk
   rw [hqr]
   refine ⟨hr, rfl, hc, ?_⟩
   rw [List.take_append_of_le_length (by omega), List.take_of_length_le (by omega)]
   exact hs
def WayP (l : List Ed) (p : Int → Nat) (a : Int) : Int → List Nat → Prop
 | v, [] => v = a
 | v, r :: rs => v ≠ a ∧ p v = r ∧ r < 2 * l.length ∧ endR l r = v ∧ WayP l p a (startR l r) rs
theorem WayP.way : ∀ (rs : List Nat) (v : Int), WayP l p a v rs → Way l a v rs
 | [], v, h => h
 | r :: rs, v, ⟨_, _, h1, h2, h3⟩ => ⟨h1, h2, WayP.way rs _ h3⟩
theorem Bfs.wayAt (h : Bfs l xs a ord p) : ∀ (k : Nat) (v : Int), ord[k]? = some v → ∃ rs, WayP l p a v rs ∧ rs.Nodup ∧ rs.length ≤ k ∧ ∀ r ∈ rs, 0 < capR l xs r ∧ ∃ j, 0 < j ∧ j ≤ k ∧ ord[j]? = some (endR l r) := by
 intro k
 induction k using Nat.strongRecOn with
 | ind k ih =>
   intro v hk
   rcases Nat.eq_zero_or_pos k with rfl | h0
   ·have : v = a := by have := hk.symm.trans h.hd; simpa using this
    exact ⟨[], this, by simp, by simp, by simp⟩
   ·obtain ⟨h1, h2, h3, h4⟩ := h.by_ k v hk h0
    obtain ⟨j, hj⟩ := List.getElem?_of_mem h4
    rw [List.getElem?_take] at hj
    split at hj
    ·rename_i hjk
     obtain ⟨rs, g1, g2, g5, g3⟩ := ih j hjk _ hj
     have hva : v ≠ a := fun e => by
      have := (List.getElem?_inj (List.getElem?_eq_some_iff.1 hk).1 h.nd).1 (hk.trans (by rw [e]; exact h.hd.symm))
      omega
     refine ⟨p v :: rs, ⟨hva, rfl, h1, h2, g1⟩, ?_, by simp; omega, ?_⟩
     ·rw [List.nodup_cons]
      refine ⟨fun hm => ?_, g2⟩
      obtain ⟨_, i, hi0, hij, hi⟩ := g3 _ hm
      rw [h2] at hi
      have := (List.getElem?_inj (List.getElem?_eq_some_iff.1 hk).1 h.nd).1 (hk.trans hi.symm)
      omega
     ·intro r hr
      rcases List.mem_cons.1 hr with rfl | hr
      ·exact ⟨h3, k, h0, Nat.le_refl _, by rw [h2]; exact hk⟩
      ·obtain ⟨e1, i, e2, e3, e4⟩ := g3 r hr
       exact ⟨e1, i, e2, by omega, e4⟩
    ·cases hj
theorem Bfs.least (h : Bfs l xs a ord p) (hl : xs.length = l.length) (d : Int → Bool) (ha : d a = true) (hs : Shut l xs d) : ∀ v ∈ ord, d v = true := by
 have key : ∀ (k : Nat) (v : Int), ord[k]? = some v → d v = true := by
  intro k
  induction k using Nat.strongRecOn with
  | ind k ih =>
    intro v hk
    rcases Nat.eq_zero_or_pos k with rfl | h0
    ·have : v = a := by have := hk.symm.trans h.hd; simpa using this
     rw [this]; exact ha
    ·obtain ⟨h1, h2, h3, h4⟩ := h.by_ k v hk h0
     obtain ⟨j, hj⟩ := List.getElem?_of_mem h4
     rw [List.getElem?_take] at hj
     split at hj
     ·rename_i hjk
      have hd := ih j hjk _ hj
      have hx := (shut_iff d l xs hl).1 hs (p v / 2) (by omega)
      cases hdv : d v with
      | true => rfl
      | false =>
        exfalso
        rw [← h2] at hdv
        unfold startR at hd
        unfold endR at hdv
        unfold capR at h3
        split at hd
        ·rename_i hm
         rw [if_pos hm] at hdv h3
         have := hx.1 hd hdv
         omega
        ·rename_i hm
         rw [if_neg hm] at hdv h3
         have := hx.2 hd hdv
         omega
     ·cases hj
 intro v hv
 obtain ⟨k, hk⟩ := List.getElem?_of_mem hv
 exact key k v hk
def Clos (l : List Ed) (xs : List Int) (ord : List Int) (v : Int) : Prop := ∀ r, r < 2 * l.length → startR l r = v → 0 < capR l xs r → endR l r ∈ ord
theorem Clos.more {v : Int} {o : List Int} (h : Clos l xs ord v) : Clos l xs (ord ++ o) v := fun r h1 h2 h3 => by simp [h r h1 h2 h3]
theorem shut_of_clos (hb : Bd l xs) {c : Int → Bool} (hc : ∀ v, c v = true ↔ v ∈ ord) (h : ∀ v ∈ ord, Clos l xs ord v) : Shut l xs c := by
 obtain ⟨hl, hbd⟩ := (bd_iff l xs).1 hb
 rw [shut_iff c l xs hl]
 intro i hi
 obtain ⟨h0, h1⟩ := hbd i hi
 constructor
 ·intro hf ht
  have := h _ ((hc _).1 hf) (2 * i) (by omega) (by unfold startR; rw [if_pos (by omega), show 2 * i / 2 = i by omega])
  unfold capR endR at this
  rw [if_pos (by omega), if_pos (by omega), show 2 * i / 2 = i by omega] at this
  rcases Int.lt_or_le 0 ((l.getD i default).m - xs.getD i 0) with h2 | h2
  ·have := (hc _).2 (this h2)
   rw [ht] at this; cases this
  ·omega
 ·intro ht hf
  have := h _ ((hc _).1 ht) (2 * i + 1) (by omega) (by unfold startR; rw [if_neg (by omega), show (2 * i + 1) / 2 = i by omega])
  unfold capR endR at this
  rw [if_neg (by omega), if_neg (by omega), show (2 * i + 1) / 2 = i by omega] at this
  rcases Int.lt_or_le 0 (xs.getD i 0) with h2 | h2
  ·have := (hc _).2 (this h2)
   rw [hf] at this; cases this
  ·omega
theorem Bfs.max (h : Bfs l xs a ord p) (hf : IsFl n l a b xs) (hb : b ∉ ord) (hcl : ∀ v ∈ ord, Clos l xs ord v) {c : Int → Bool} (hc : ∀ v : Int, c v = true ↔ v ∈ ord) : MaxR n l a b xs c := by
 refine ⟨hf, ⟨(hc a).2 h.mem, ?_⟩, shut_of_clos hf.1 hc hcl, fun d hd hs v _ _ hv => ?_⟩
 ·cases hcb : c b with
  | true => exact absurd ((hc b).1 hcb) hb
  | false => rfl
 ·exact h.least ((bd_iff _ _).1 hf.1).1 d hd hs v ((hc v).1 hv)
def leastR (l : List Ed) (xs : List Int) (k : Int) (rs : List Nat) : Int := rs.foldl (fun k r => min k (capR l xs r)) k
theorem leastR_le (l : List Ed) (xs : List Int) : ∀ (rs : List Nat) (k : Int), leastR l xs k rs ≤ k ∧ ∀ r ∈ rs, leastR l xs k rs ≤ capR l xs r
 | [], k => by simp [leastR]
 | r :: rs, k => by
   have := leastR_le l xs rs (min k (capR l xs r))
   have e : leastR l xs k (r :: rs) = leastR l xs (min k (capR l xs r)) rs := rfl
   rw [e]
   refine ⟨by omega, fun q hq => ?_⟩
   rcases List.mem_cons.1 hq with rfl | hq
   ·omega
   ·exact this.2 q hq
theorem leastR_pos (l : List Ed) (xs : List Int) : ∀ (rs : List Nat) (k : Int), 0 < k → (∀ r ∈ rs, 0 < capR l xs r) → 0 < leastR l xs k rs
 | [], k, hk, _ => hk
 | r :: rs, k, hk, h => by
   have e : leastR l xs k (r :: rs) = leastR l xs (min k (capR l xs r)) rs := rfl
   have h1 := h r (List.mem_cons_self ..)
   rw [e]
   exact leastR_pos l xs rs _ (by omega) (fun q hq => h q (List.mem_cons_of_mem _ hq))
theorem leastR_snoc (l : List Ed) (xs : List Int) (k : Int) (rs : List Nat) (r : Nat) : leastR l xs k (rs ++ [r]) = min (leastR l xs k rs) (capR l xs r) := by
 unfold leastR; rw [List.foldl_append]; rfl
theorem pushAll_snoc (xs : List Int) (k : Int) (rs : List Nat) (r : Nat) : pushAll xs k (rs ++ [r]) = pushR (pushAll xs k rs) k r := by
 unfold pushAll; rw [List.foldl_append]; rfl
end
def okE (n : Int) (e : Ed) : Bool := decide (0 ≤ e.f) && decide (e.f < n) && decide (0 ≤ e.t) && decide (e.t < n) && decide (e.f ≠ e.t) && decide (0 ≤ e.m) && decide (e.m ≤ 1073741824)
def okN (n : Int) (l : List Ed) : Bool := decide (2 ≤ n) && decide (n ≤ 4096) && decide (l.length ≤ 65536) && l.all (okE n)
def okV (n a b : Int) : Bool := decide (0 ≤ a) && decide (a < n) && decide (0 ≤ b) && decide (b < n) && decide (a ≠ b)
def okX (n : Int) (l : List Ed) (a b : Int) : Bool := okN n l && okV n a b
def chkN (n : Int) (l : List Ed) : Int := if okN n l then 0 else 180
theorem okE_out {n : Int} {e : Ed} (h : okE n e = true) : 0 ≤ e.f ∧ e.f < n ∧ 0 ≤ e.t ∧ e.t < n ∧ e.f ≠ e.t ∧ 0 ≤ e.m ∧ e.m ≤ 1073741824 := by
 simp [okE] at h; omega
theorem okN_out {n : Int} {l : List Ed} (h : okN n l = true) : 2 ≤ n ∧ n ≤ 4096 ∧ l.length ≤ 65536 ∧ ∀ e ∈ l, okE n e = true := by
 simp only [okN, Bool.and_eq_true, decide_eq_true_eq, List.all_eq_true] at h
 exact ⟨h.1.1.1, h.1.1.2, h.1.2, h.2⟩
theorem okV_out {n a b : Int} (h : okV n a b = true) : 0 ≤ a ∧ a < n ∧ 0 ≤ b ∧ b < n ∧ a ≠ b := by
 simp [okV] at h; omega
theorem okX_inn {n a b : Int} {l : List Ed} (h : okX n l a b = true) : InN n.toNat l := by
 simp only [okX, Bool.and_eq_true] at h
 obtain ⟨h1, _, _, h4⟩ := okN_out h.1
 intro e he
 have := okE_out (h4 e he)
 omega
theorem sumM_le {n : Int} : ∀ (l : List Ed), (∀ e ∈ l, okE n e = true) → 0 ≤ sumM l ∧ sumM l ≤ 1073741824 * (l.length : Int)
 | [], _ => by simp [sumM]
 | e :: l, h => by
   have h1 := okE_out (h e (List.mem_cons_self ..))
   have h2 := sumM_le l (fun e' he => h e' (List.mem_cons_of_mem _ he))
   simp only [sumM, List.map_cons, List.sum_cons, List.length_cons] at h2 ⊢
   omega
end Go.Proofs.YtalmbigebjbaoaaGreatDoor.Fl
namespace Go.Proofs.YtalmbigebjbaoaaGreatDoor.Fl
open Go.RowKit Go.Shelf
set_option linter.unusedSimpArgs false
set_option linter.unusedVariables false
def Ed.enc (s : Ed) : List Value := [.int .i64 s.f, .int .i64 s.t, .int .i64 s.m]
def inV (n v : Int) : Bool := decide (0 ≤ v) && decide (v < n)
theorem node_any (n v : Int) (b : Nat) (w : World) (hb : w.cell? ⟨b, 0, none⟩ = some (.int .i64 n)) :
 Calls Tryz.prog 157 #[.int .i64 v, .pointer (some ⟨b, 0, none⟩)] w fun e w' => e = .returned (.bool (inV n v)) ∧ w = w' := by
 go_enter Tryz.func157, Tryz.ntmps157
 go_wp2
 all_goals go_ret
 all_goals refine ⟨ret_bool ?_, rfl⟩
 all_goals (unfold inV; simp_all <;> omega)
theorem bad_any (n : Int) (x : Ed) (b c : Nat) (w : World) (hb : w.cell? ⟨b, 0, none⟩ = some (.int .i64 n)) (hc : w.cell? ⟨c, 0, none⟩ = some (.func (.func 157) #[] #[.pointer (some ⟨b, 0, none⟩)])) (hbl : b < w.heap.size) (hcl : c < w.heap.size) :
 Calls Tryz.prog 159 #[.agg #[.int .i64 x.f, .int .i64 x.t, .int .i64 x.m], .pointer (some ⟨c, 0, none⟩)] w fun e w' => e = .returned (.bool (!okE n x)) ∧ Below w.heap.size w w' := by
 have he := enters_of Tryz.func157 (by kernel_rfl) rfl
 obtain ⟨f, t, m⟩ := x
 go_enter Tryz.func159, Tryz.ntmps159
 go_wp2_with (go_at_call 157; refine (node_any n _ b _ (by go_simp)).mono ?_; rintro e w' ⟨rfl, rfl⟩)
 all_goals go_ret
 all_goals refine ⟨ret_bool ?_, by go_grown⟩
 all_goals (unfold okE inV at *; by_cases q1 : f = t <;> by_cases q2 : m < 0 <;> by_cases q3 : 1073741824 < m <;> simp_all <;> omega)
set_option maxHeartbeats 2000000 in
theorem index_any (p : Ed → Bool) (g : Nat) (fr : Array Value) (xs : List Ed) (A : Option Addr) (c : Nat) (w : World)
 (hf : ∀ (x : Ed) (W : World), Below w.heap.size w W → Calls Tryz.prog g (#[.agg #[.int .i64 x.f, .int .i64 x.t, .int .i64 x.m]] ++ fr) W fun e W' => e = .returned (.bool (p x)) ∧ Below W.heap.size W W')
 (hg : ∀ (args : Array Value) (W : World), Sem.run Tryz.prog (callFunc g args) W = .ok (.enter g args) W)
 (hx : Reads w w.heap.size A 3 Ed.enc xs) (hl : xs.length ≤ 9223372036854775807) :
 Calls Tryz.prog 170 #[.slice A xs.length c, .func (.func g) #[] fr] w fun e w' => (∃ m : Int, e = .returned (.int .i64 m) ∧ decide (0 ≤ m) = xs.any p) ∧ Below w.heap.size w w' := by
 have HF := Lib.hid hf
 have HX := Lib.hid hx
 clear hf hx
 go_enter Tryz.func170, Tryz.ntmps170
 go_wp2_with fail
 go_loopw [8] (fun i wr => ∃ k : Nat, k ≤ xs.length ∧ i = .int .i64 k ∧ (∀ j (h : j < xs.length), j < k → p xs[j] = false) ∧ Below w.heap.size w wr) (fun i _ => xs.length - (intOf i).toNat)
 case atStart => exact ⟨0, Nat.zero_le _, rfl, fun _ _ h => absurd h (by omega), Below.refl _ _⟩
 case round =>
  obtain ⟨k, hk, rfl, hno, hB⟩ := hrel
  have HNO := Lib.hid hno
  clear hno
  by_cases hlt : k < xs.length
  ·obtain ⟨bb, off, x, rfl, hbl, hxk, hc⟩ := (HX.out.below hB).at_ hlt
   have c0 := hc 0 _ rfl
   have c1 := hc 1 _ rfl
   have c2 := hc 2 _ rfl
   simp only [Nat.add_zero] at c0
   have HXK := Lib.hid hxk
   have hb2 : bb < wr.heap.size := by have := hB.size; omega
   have HB := Lib.hid hB
   clear hc hxk hB
   cases hp : p x
   ·have HP := Lib.hid hp
    clear hp
    go_wp2_with fail
    refine (HF.out x _ HB.out).mono ?_
    rw [HP.out]
    rintro e w1 ⟨rfl, hb1⟩
    go_wp2_with fail
    go_roundw
    case rel => exact ⟨k + 1, by omega, by go_num, step_no HNO.out HXK.out HP.out, HB.out.trans (hb1.mono HB.out.size)⟩
    case measure => simp [intOf]; omega
   ·have HP := Lib.hid hp
    clear hp
    go_wp2_with fail
    refine (HF.out x _ HB.out).mono ?_
    rw [HP.out]
    rintro e w1 ⟨rfl, hb1⟩
    go_wp2_with fail
    go_ret
    exact ⟨⟨_, rfl, by rw [any_true HXK.out HP.out]; simp⟩, HB.out.trans (hb1.mono HB.out.size)⟩
  ·obtain rfl : k = xs.length := by omega
   have HA : Hid (xs.any p = false) := Lib.hid (any_false (fun j hj => HNO.out j hj hj))
   go_wp2_with fail
   go_ret
   exact ⟨⟨_, rfl, by rw [HA.out]; decide⟩, hB⟩
theorem contains_any (p : Ed → Bool) (g : Nat) (fr : Array Value) (xs : List Ed) (A : Option Addr) (c : Nat) (w : World)
 (hf : ∀ (x : Ed) (W : World), Below w.heap.size w W → Calls Tryz.prog g (#[.agg #[.int .i64 x.f, .int .i64 x.t, .int .i64 x.m]] ++ fr) W fun e W' => e = .returned (.bool (p x)) ∧ Below W.heap.size W W')
 (hg : ∀ (args : Array Value) (W : World), Sem.run Tryz.prog (callFunc g args) W = .ok (.enter g args) W)
 (hx : Reads w w.heap.size A 3 Ed.enc xs) (hl : xs.length ≤ 9223372036854775807) :
 Calls Tryz.prog 158 #[.slice A xs.length c, .func (.func g) #[] fr] w fun e w' => e = .returned (.bool (xs.any p)) ∧ Below w.heap.size w w' := by
 go_enter Tryz.func158, Tryz.ntmps158
 go_wp2_with fail
 refine (index_any p g fr xs A c _ hf hg hx hl).mono ?_
 rintro e w1 ⟨⟨m, rfl, hm⟩, hb1⟩
 have HM := Lib.hid hm
 clear hm
 go_wp2_with fail
 go_ret
 exact ⟨ret_bool HM.out, hb1⟩
theorem any_ok (n : Int) (xs : List Ed) : xs.any (fun x => !okE n x) = !xs.all (okE n) := by
 induction xs with
 | nil => rfl
 | cons x xs ih => simp only [List.any_cons, List.all_cons, ih, Bool.not_and]
set_option maxHeartbeats 2000000 in
theorem Check_any (n : Int) (xs : List Ed) (A : Option Addr) (c : Nat) (w : World) (hx : Reads w w.heap.size A 3 Ed.enc xs) (hl : xs.length ≤ 9223372036854775807) :
 Calls Tryz.prog 122 #[.int .i64 n, .slice A xs.length c] w fun e w' => e = .returned (.int .i64 (chkN n xs)) ∧ Below w.heap.size w w' := by
 have HX := Lib.hid hx
 clear hx
 by_cases h1 : 2 ≤ n ∧ n ≤ 4096 ∧ xs.length ≤ 65536
 ·obtain ⟨h1, h2, h3⟩ := h1
  have e1 : decide (n < 2) = false := by simp; omega
  have e2 : decide (4096 < n) = false := by simp; omega
  have e3 : decide ((65536 : Int) < (xs.length : Int)) = false := by simp; omega
  have ec : chkN n xs = if xs.any (fun x => !okE n x) then 180 else 0 := by
   rw [any_ok]
   unfold chkN okN
   simp only [decide_eq_true h1, decide_eq_true h2, decide_eq_true h3, Bool.true_and]
   cases xs.all (okE n) <;> rfl
  rw [ec]
  clear ec h1 h2 h3
  cases hb : xs.any (fun x => !okE n x)
  all_goals
   simp only [if_true, if_false, Bool.false_eq_true]
   have HB := Lib.hid hb
   clear hb
   go_enter Tryz.func122, Tryz.ntmps122
   go_wp2_with fail
   obtain ⟨W, hW⟩ : ∃ W, W = (w.alloc (.cells #[.int .i64 n] 3)).alloc (.cells #[.func (.func 157) #[] #[.pointer (some ⟨w.heap.size, 0, none⟩)]] 137) := ⟨_, rfl⟩
   have hb0 : Below w.heap.size w W := by rw [hW]; exact ((Below.refl _ _).alloc (Nat.le_refl _) _).alloc (by simp) _
   have k1 : W.cell? ⟨w.heap.size, 0, none⟩ = some (.int .i64 n) := by rw [hW]; simp [go_sem]
   have k2 : W.cell? ⟨w.heap.size + 1, 0, none⟩ = some (.func (.func 157) #[] #[.pointer (some ⟨w.heap.size, 0, none⟩)]) := by rw [hW]; simp [go_sem]
   have kz : W.heap.size = w.heap.size + 2 := by rw [hW]; simp
   rw [← hW]
   clear hW
   refine (contains_any (fun x => !okE n x) 159 #[.pointer (some ⟨w.heap.size + 1, 0, none⟩)] xs A c _ (fun x W' hB => bad_any n x w.heap.size (w.heap.size + 1) W' ((hB.cell (p := ⟨_, 0, none⟩) (by show w.heap.size < _; omega)).trans k1) ((hB.cell (p := ⟨_, 0, none⟩) (by show w.heap.size + 1 < _; omega)).trans k2) (by have := hB.size; omega) (by have := hB.size; omega)) (enters_of Tryz.func159 (by kernel_rfl) rfl) ((HX.out.below hb0).more (by omega)) hl).mono ?_
   rw [HB.out]
   rintro e w1 ⟨rfl, hb1⟩
   go_wp2_with fail
   go_ret
   exact ⟨rfl, hb0.trans (hb1.mono (by omega))⟩
 ·have ec : chkN n xs = 180 := by
   unfold chkN
   rw [if_neg]
   intro h
   obtain ⟨h2, h3, h4, _⟩ := okN_out h
   exact h1 ⟨h2, h3, h4⟩
  rw [ec]
  have ways : decide (n < 2) = true ∨ (decide (n < 2) = false ∧ decide (4096 < n) = true) ∨ (decide (n < 2) = false ∧ decide (4096 < n) = false ∧ decide ((65536 : Int) < (xs.length : Int)) = true) := by simp; omega
  clear h1 ec
  rcases ways with e1 | ⟨e1, e2⟩ | ⟨e1, e2, e3⟩
  all_goals
   go_enter Tryz.func122, Tryz.ntmps122
   go_wp2_with fail
   go_ret
   exact ⟨rfl, by go_grown⟩
theorem check_any (n a b : Int) (xs : List Ed) (A : Option Addr) (c : Nat) (w : World) (hx : Reads w w.heap.size A 3 Ed.enc xs) (hl : xs.length ≤ 9223372036854775807) :
 Calls Tryz.prog 81 #[.int .i64 n, .slice A xs.length c, .int .i64 a, .int .i64 b] w fun e w' => e = .returned (.int .i64 (if okX n xs a b then 0 else 180)) ∧ Below w.heap.size w w' := by
 have HC := Lib.hid (Check_any n xs A c w hx hl)
 unfold okX
 unfold chkN at HC
 cases h0 : okN n xs
 ·simp only [h0, Bool.false_and, if_false, Bool.false_eq_true] at HC ⊢
  clear h0
  go_enter Tryz.func81, Tryz.ntmps81
  go_wp2_with fail
  refine (HC.out).mono ?_
  rintro e w1 ⟨rfl, hb1⟩
  go_wp2_with fail
  go_ret
  exact ⟨rfl, hb1⟩
 ·simp only [h0, Bool.true_and, if_true] at HC ⊢
  clear h0
  have ways : okV n a b = true ∧ decide (a < 0) = false ∧ decide (n ≤ a) = false ∧ decide (b < 0) = false ∧ decide (n ≤ b) = false ∧ (a == b) = false ∨
   okV n a b = false ∧ (decide (a < 0) = true ∨ decide (a < 0) = false ∧ (decide (n ≤ a) = true ∨ decide (n ≤ a) = false ∧ (decide (b < 0) = true ∨ decide (b < 0) = false ∧ (decide (n ≤ b) = true ∨ decide (n ≤ b) = false ∧ (a == b) = true)))) := by
   simp [okV]; omega
  rcases ways with ⟨h, e1, e2, e3, e4, e5⟩ | ⟨h, ways⟩
  ·simp only [h, if_true]
   clear h
   go_enter Tryz.func81, Tryz.ntmps81
   go_wp2_with fail
   refine (HC.out).mono ?_
   rintro e w1 ⟨rfl, hb1⟩
   go_wp2_with fail
   go_ret
   exact ⟨rfl, hb1⟩
  ·simp only [h, if_false, Bool.false_eq_true]
   clear h
   rcases ways with e1 | ⟨e1, e2 | ⟨e2, e3 | ⟨e3, e4 | ⟨e4, e5⟩⟩⟩⟩
   all_goals
    go_enter Tryz.func81, Tryz.ntmps81
    go_wp2_with fail
    refine (HC.out).mono ?_
    rintro e w1 ⟨rfl, hb1⟩
    go_wp2_with fail
    go_ret
    exact ⟨rfl, hb1⟩
end Go.Proofs.YtalmbigebjbaoaaGreatDoor.Fl
namespace Go.Proofs.YtalmbigebjbaoaaGreatDoor.Fl
open Go.RowKit Go.Shelf
set_option linter.unusedSimpArgs false
set_option linter.unusedVariables false
def boolE (b : Bool) : List Value := [.bool b]
end Go.Proofs.YtalmbigebjbaoaaGreatDoor.Fl
namespace Go.Proofs.YtalmbigebjbaoaaGreatDoor.Fl
open Go.RowKit Go.Shelf
set_option linter.unusedSimpArgs false
set_option linter.unusedVariables false
def natE (n : Nat) : List Value := [.int .i64 n]
def FlAt (w : World) (F : Nat) (xs : List Int) : Prop := w.heap[F]? = some (.cells (xs.map (Value.int .i64)).toArray 3 (0, 0))
theorem FlAt.step {w w' : World} {F : Nat} {xs : List Int} (h : FlAt w F xs) (hb : Below w.heap.size w w') : FlAt w' F xs := (hb.block F (Array.getElem?_eq_some_iff.1 h).1).trans h
theorem FlAt.lt {w : World} {F : Nat} {xs : List Int} (h : FlAt w F xs) : F < w.heap.size := (Array.getElem?_eq_some_iff.1 h).1
theorem FlAt.cell {w : World} {F : Nat} {xs : List Int} (h : FlAt w F xs) {i : Nat} (hi : i < xs.length) : w.cell? ⟨F, i, none⟩ = some (.int .i64 (xs.getD i 0)) := by
 unfold FlAt at h
 simp [World.cell?, h, List.getD_eq_getElem?_getD, List.getElem?_eq_getElem hi]
theorem FlAt.free {w : World} {F : Nat} {xs : List Int} (h : FlAt w F xs) (i : Nat) : w.frozen? ⟨F, i, none⟩ = false := by
 unfold FlAt at h
 simp [World.frozen?, h]
def Net (w : World) (P : Nat → Prop) (B F : Nat) (n : Nat) (l : List Ed) (adj : List (List Nat)) : Prop :=
 ∃ A c g, w.cell? ⟨B, 0, none⟩ = some (.slice A l.length c) ∧ w.cell? ⟨B, 1, none⟩ = some (.slice (some ⟨F, 0, none⟩) l.length l.length) ∧ w.cell? ⟨B, 2, none⟩ = some (.slice (some ⟨g, 0, none⟩) n n) ∧
   P B ∧ P g ∧ B < w.heap.size ∧ g < w.heap.size ∧ SlR w P 3 Ed.enc ⟨A, l.length, c⟩ l ∧
   ∃ hs : List Sl, hs.length = n ∧ adj.length = n ∧ (∀ (k : Nat) (h : Sl), hs[k]? = some h → w.cell? ⟨g, k, none⟩ = some (.slice h.a h.n h.c)) ∧ ∀ (k : Nat) (h : Sl) (ls : List Nat), hs[k]? = some h → adj[k]? = some ls → SlR w P 1 natE h ls
theorem Net.keep {w w' : World} {P : Nat → Prop} {B F n : Nat} {l : List Ed} {adj : List (List Nat)} (h : Net w P B F n l adj) (hk : Kp P w w') : Net w' P B F n l adj := by
 obtain ⟨A, c, g, h0, h1, h2, h3, h4, h5, h6, h7, hs, h8, h9, h10, h11⟩ := h
 refine ⟨A, c, g, ?_, ?_, ?_, h3, h4, Nat.lt_of_lt_of_le h5 hk.1, Nat.lt_of_lt_of_le h6 hk.1, h7.keep hk, hs, h8, h9, fun k h e => ?_, fun k h ls e1 e2 => (h11 k h ls e1 e2).keep hk⟩
 ·exact (World.cell?_of_block (a := ⟨B, 0, none⟩) (hk.2 B h3 h5)).trans h0
 ·exact (World.cell?_of_block (a := ⟨B, 1, none⟩) (hk.2 B h3 h5)).trans h1
 ·exact (World.cell?_of_block (a := ⟨B, 2, none⟩) (hk.2 B h3 h5)).trans h2
 ·exact (World.cell?_of_block (a := ⟨g, k, none⟩) (hk.2 g h4 h6)).trans (h10 k h e)
theorem Net.step {w w' : World} {P : Nat → Prop} {B F n : Nat} {l : List Ed} {adj : List (List Nat)} (h : Net w P B F n l adj) (hb : Below w.heap.size w w') : Net w' P B F n l adj := h.keep (Kp.of_below hb)
theorem Net.flowCell {w : World} {P : Nat → Prop} {B F n : Nat} {l : List Ed} {adj : List (List Nat)} (h : Net w P B F n l adj) : ∃ A c, w.cell? ⟨B, 0, none⟩ = some (.slice A l.length c) ∧ w.cell? ⟨B, 1, none⟩ = some (.slice (some ⟨F, 0, none⟩) l.length l.length) ∧ B < w.heap.size ∧ Reads w w.heap.size A 3 Ed.enc l := by
 obtain ⟨A, c, g, h0, h1, h2, h3, h4, h5, h6, h7, _⟩ := h
 exact ⟨A, c, h0, h1, h5, h7.reads⟩
theorem getD_some {α : Type} {xs : List α} {i : Nat} {x d : α} (h : xs[i]? = some x) : xs.getD i d = x := by simp [List.getD_eq_getElem?_getD, h]
set_option maxHeartbeats 2000000 in
theorem capacity_any {P : Nat → Prop} {B F n : Nat} {l : List Ed} {adj : List (List Nat)} {xs : List Int} (r : Nat) (w : World) (h : Net w P B F n l adj) (hf : FlAt w F xs) (hb : Bd l xs) (hm : ∀ e ∈ l, e.m ≤ 1073741824) (hr : r < 2 * l.length) (hr2 : r < 200000) :
 Calls Tryz.prog 87 #[.pointer (some ⟨B, 0, none⟩), .int .i64 r] w fun e w' => e = .returned (.int .i64 (capR l xs r)) ∧ Below w.heap.size w w' := by
 obtain ⟨A, c, k0, k1, hB, hR⟩ := h.flowCell
 obtain ⟨i, hi⟩ : ∃ i, i = r / 2 := ⟨_, rfl⟩
 have hil : i < l.length := by omega
 have hq : (r : Int) / 2 = (i : Int) := by omega
 obtain ⟨hxl, hbd⟩ := (bd_iff l xs).1 hb
 obtain ⟨bb, off, x, rfl, hbb, hxk, hc⟩ := hR.at_ hil
 have c2 := hc 2 _ rfl
 have f0 := hf.cell (i := i) (by omega)
 have f1 := hf.lt
 obtain ⟨z, hz⟩ : ∃ z, z = xs.getD i 0 := ⟨_, rfl⟩
 have hx : l.getD i default = x := getD_some hxk
 have hbz := hbd i hil
 rw [← hz, hx] at hbz
 rw [← hz] at f0
 have hxm := hm x (List.mem_of_getElem? hxk)
 have hE : capR l xs r = if r % 2 = 0 then x.m - z else z := by unfold capR; rw [← hi, hx, hz]
 have HE := Lib.hid hE
 obtain ⟨z0, z1⟩ := hbz
 clear hE hc hR hbd hb hf h hm hx hz
 rcases Nat.mod_two_eq_zero_or_one r with hp | hp
 ·have hp1 : (r : Int) % 2 = 0 := by omega
  have HP := Lib.hid hp
  clear hp hi
  go_enter Tryz.func87, Tryz.ntmps87
  go_wp2_with fail
  go_quiet (fail)
  go_wp2_with fail
  go_ret
  exact ⟨by rw [HE.out, if_pos HP.out]; rfl, below_drewN (Below.refl _ _) _⟩
 ·have hp1 : (r : Int) % 2 = 1 := by omega
  have HP := Lib.hid hp
  clear hp hi
  go_enter Tryz.func87, Tryz.ntmps87
  go_wp2_with fail
  go_ret
  exact ⟨by rw [HE.out, if_neg (by rw [HP.out]; decide)]; rfl, Below.refl _ _⟩
theorem end_any {P : Nat → Prop} {B F n : Nat} {l : List Ed} {adj : List (List Nat)} (r : Nat) (w : World) (h : Net w P B F n l adj) (hr : r < 2 * l.length) (hr2 : r < 200000) :
 Calls Tryz.prog 85 #[.pointer (some ⟨B, 0, none⟩), .int .i64 r] w fun e w' => e = .returned (.int .i64 (endR l r)) ∧ Below w.heap.size w w' := by
 obtain ⟨A, c, k0, k1, hB, hR⟩ := h.flowCell
 obtain ⟨i, hi⟩ : ∃ i, i = r / 2 := ⟨_, rfl⟩
 have hil : i < l.length := by omega
 have hq : (r : Int) / 2 = (i : Int) := by omega
 obtain ⟨bb, off, x, rfl, hbb, hxk, hc⟩ := hR.at_ hil
 have c0 := hc 0 _ rfl
 have c1 := hc 1 _ rfl
 simp only [Nat.add_zero] at c0
 have hx : l.getD i default = x := getD_some hxk
 have hE : endR l r = if r % 2 = 0 then x.t else x.f := by unfold endR; rw [← hi, hx]
 have HE := Lib.hid hE
 clear hE hc hR h hx k1
 rcases Nat.mod_two_eq_zero_or_one r with hp | hp
 ·have hp1 : (r : Int) % 2 = 0 := by omega
  have HP := Lib.hid hp
  clear hp hi
  go_enter Tryz.func85, Tryz.ntmps85
  go_wp2_with fail
  go_ret
  exact ⟨by rw [HE.out, if_pos HP.out]; rfl, Below.refl _ _⟩
 ·have hp1 : (r : Int) % 2 = 1 := by omega
  have HP := Lib.hid hp
  clear hp hi
  go_enter Tryz.func85, Tryz.ntmps85
  go_wp2_with fail
  go_ret
  exact ⟨by rw [HE.out, if_neg (by rw [HP.out]; decide)]; rfl, Below.refl _ _⟩
theorem push_any {P : Nat → Prop} {B F n : Nat} {l : List Ed} {adj : List (List Nat)} {xs : List Int} (r : Nat) (k : Int) (w : World) (h : Net w P B F n l adj) (hf : FlAt w F xs) (hxl : xs.length = l.length) (hr : r < 2 * l.length) (hr2 : r < 200000)
 (hz : -4611686018427387904 ≤ xs.getD (r / 2) 0 ∧ xs.getD (r / 2) 0 ≤ 4611686018427387904) (hk : -4611686018427387000 ≤ k ∧ k ≤ 4611686018427387000) :
 Calls Tryz.prog 89 #[.pointer (some ⟨B, 0, none⟩), .int .i64 r, .int .i64 k] w fun e w' => e = .returned (.tuple #[]) ∧ w' = w.setCell ⟨F, r / 2, none⟩ (.int .i64 ((pushR xs k r).getD (r / 2) 0)) := by
 obtain ⟨A, c, k0, k1, hB, hR⟩ := h.flowCell
 obtain ⟨i, hi⟩ : ∃ i, i = r / 2 := ⟨_, rfl⟩
 have hil : i < l.length := by omega
 have hq : (r : Int) / 2 = (i : Int) := by omega
 have f0 := hf.cell (i := i) (by omega)
 have f1 := hf.lt
 have f2 := hf.free i
 rw [← hi] at hz ⊢
 have hE : (pushR xs k r).getD i 0 = xs.getD i 0 + if r % 2 = 0 then k else -k := by unfold pushR; rw [← hi, getD_set _ _ _ _ (by omega), if_pos rfl]
 rw [hE]
 obtain ⟨z, hz'⟩ : ∃ z, z = xs.getD i 0 := ⟨_, rfl⟩
 rw [← hz'] at hz f0 ⊢
 obtain ⟨z0, z1⟩ := hz
 obtain ⟨g0, g1⟩ := hk
 clear hE hR hf h hz' k0
 rcases Nat.mod_two_eq_zero_or_one r with hp | hp
 ·have hp1 : (r : Int) % 2 = 0 := by omega
  rw [if_pos hp]
  clear hp hi
  go_enter Tryz.func89, Tryz.ntmps89
  go_wp2_with fail
  exact bodyPost_end (v := .tuple #[]) (by simp [results, Tryz.results89, go_sem]) rfl ⟨rfl, rfl⟩
 ·have hp1 : (r : Int) % 2 = 1 := by omega
  rw [if_neg (by omega)]
  clear hp hi
  go_enter Tryz.func89, Tryz.ntmps89
  go_wp2_with fail
  exact bodyPost_end (v := .tuple #[]) (by simp [results, Tryz.results89, go_sem]) rfl ⟨rfl, rfl⟩
theorem FlAt.set {w : World} {F : Nat} {xs : List Int} (h : FlAt w F xs) (i : Nat) (v : Int) : FlAt (w.setCell ⟨F, i, none⟩ (.int .i64 v)) F (xs.set i v) := by
 unfold FlAt at *
 rw [heap_setCell_same w F i _ _ _ h]
 congr 2
 apply Array.ext'
 simp [List.map_set]
theorem push_row (xs : List Int) (k : Int) (r : Nat) (h : r / 2 < xs.length) : xs.set (r / 2) ((pushR xs k r).getD (r / 2) 0) = pushR xs k r := by
 unfold pushR
 rw [getD_set _ _ _ _ h, if_pos rfl]
theorem usable_any (B : Nat) (v : Int) (w : World) :
 Calls Tryz.prog 124 #[.pointer (some ⟨B, 0, none⟩), .int .i64 v] w fun e w' =>
  e = .returned (.func (.func 161) #[] #[.pointer (some ⟨w.heap.size, 0, none⟩), .pointer (some ⟨w.heap.size + 1, 0, none⟩)]) ∧
  w' = (w.alloc (.cells #[.pointer (some ⟨B, 0, none⟩)] 168)).alloc (.cells #[.int .i64 v] 3) := by
 go_enter Tryz.func124, Tryz.ntmps124
 go_wp2_with fail
 go_ret
 exact ⟨rfl, rfl⟩
end Go.Proofs.YtalmbigebjbaoaaGreatDoor.Fl
namespace Go.Proofs.YtalmbigebjbaoaaGreatDoor.Fl
open Go.RowKit Go.Shelf
set_option linter.unusedSimpArgs false
set_option linter.unusedVariables false
attribute [local go_sem] Oper.semAt_some
theorem abs_world {F : Fence} {n : Nat} {P : Program} {Q : Exit → Act → World → Prop} {c : Code} {a : Act} {w : World} (h : ∀ W, W = w → c.wpIn F n P Q a W) : c.wpIn F n P Q a w := h w rfl
theorem filter_next {α : Type} {p : α → Bool} {ls : List α} {k : Nat} {x : α} (h : ls[k]? = some x) : (ls.take (k + 1)).filter p = (ls.take k).filter p ++ (if p x then [x] else []) := by
 have hl := (List.getElem?_eq_some_iff.1 h).1
 rw [List.take_succ_eq_append_getElem hl, (List.getElem?_eq_some_iff.1 h).2, List.filter_append]
 simp [List.filter_cons]
def openR (l : List Ed) (xs : List Int) (r : Nat) : Bool := decide (0 < capR l xs r)
theorem Net.node {w : World} {P : Nat → Prop} {B F n : Nat} {l : List Ed} {adj : List (List Nat)} (h : Net w P B F n l adj) {v : Nat} {ls : List Nat} (hv : adj[v]? = some ls) :
 ∃ (g : Nat) (s : Sl), w.cell? ⟨B, 2, none⟩ = some (.slice (some ⟨g, 0, none⟩) n n) ∧ v < n ∧ w.cell? ⟨g, v, none⟩ = some (.slice s.a s.n s.c) ∧ g < w.heap.size ∧ B < w.heap.size ∧ SlR w P 1 natE s ls := by
 obtain ⟨A, c, g, h0, h1, h2, h3, h4, h5, h6, h7, hs, h8, h9, h10, h11⟩ := h
 have hvn : v < n := by rw [← h9]; exact (List.getElem?_eq_some_iff.1 hv).1
 have hk : hs[v]? = some hs[v] := List.getElem?_eq_getElem (by omega)
 exact ⟨g, hs[v], h2, hvn, h10 v _ hk, h6, h5, h11 v _ _ hk hv⟩
set_option maxRecDepth 100000 in
set_option maxHeartbeats 4000000 in
theorem usable_iter {P : Nat → Prop} {B F n : Nat} {l : List Ed} {adj : List (List Nat)} {xs : List Int} (w : World) (m : Nat) (v : Nat) (ls : List Nat) (hv : adj[v]? = some ls) (bw bn : Nat)
 (hN : Net w P B F n l adj) (hf : FlAt w F xs) (hb : Bd l xs) (hm : ∀ e ∈ l, e.m ≤ 1073741824) (hll : l.length ≤ 65536) (hls : ∀ r ∈ ls, r < 2 * l.length)
 (hP : ∀ b, P b → b < w.heap.size) (free : Nat → Prop) (hfree : ∀ b, free b → ¬ P b ∧ b ≠ F ∧ b ≠ bw ∧ b ≠ bn)
 (h1 : w.cell? ⟨bw, 0, none⟩ = some (.pointer (some ⟨B, 0, none⟩))) (h2 : w.cell? ⟨bn, 0, none⟩ = some (.int .i64 v)) (h11 : bw < w.heap.size) (h12 : bn < w.heap.size) :
 Iter Fence.wide m Tryz.prog 161 #[.pointer (some ⟨bw, 0, none⟩), .pointer (some ⟨bn, 0, none⟩)] (fun r : Nat => #[.int .i64 r, .int .i64 (endR l r)]) (fun _ => False) (Keep w.heap.size free)
  (fun ys => ys = ls.filter (openR l xs)) (fun _ => True) (fun ys => ∃ t, ys ++ t = ls.filter (openR l xs)) w := by
 intro L J Jx W hW hJ hJx hY h0
 refine callsIn_wide.2 ?_
 simp only [List.append_toArray, List.cons_append, List.nil_append]
 have fa : ¬ free bw := fun h => (hfree _ h).2.2.1 rfl
 have fb : ¬ free bn := fun h => (hfree _ h).2.2.2 rfl
 have ff : ¬ free F := fun h => (hfree _ h).2.1 rfl
 have fp : ∀ b, P b → ¬ free b := fun b hp h => (hfree _ h).1 hp
 have hK0 : Net W P B F n l adj ∧ FlAt W F xs ∧ W.cell? ⟨bw, 0, none⟩ = some (.pointer (some ⟨B, 0, none⟩)) ∧ W.cell? ⟨bn, 0, none⟩ = some (.int .i64 v) ∧ w.heap.size ≤ W.heap.size :=
  ⟨hN.step hW, hf.step hW, (hW.cell (p := ⟨bw, 0, none⟩) h11).trans h1, (hW.cell (p := ⟨bn, 0, none⟩) h12).trans h2, hW.size⟩
 have HNW := Lib.hid hN
 have HF0 := Lib.hid hf
 have HB := Lib.hid hb
 have HM := Lib.hid hm
 have HLS := Lib.hid hls
 have HF := Lib.hid (And.intro fa (And.intro fb (And.intro ff fp)))
 have HJ := Lib.hid hJ
 have HY := Lib.hid hY
 have H0 := Lib.hid h0
 have HK := Lib.hid hK0
 have HV := Lib.hid hv
 obtain ⟨hN1, hf1, hc1, hc2, hzw⟩ := hK0
 obtain ⟨g, s, k0, k1, k2, k3, k4, k5⟩ := hN1.node hv
 obtain ⟨sa, sn, sc⟩ := s
 have e0 := k5.1
 simp only at e0 k2
 subst e0
 have hsl : ls.length ≤ 9223372036854775807 := by have := k5.2.2.1; have := k5.2.1; unfold maxLen at *; simp only at *; omega
 have hbw2 : bw < W.heap.size := by omega
 have hbn2 : bn < W.heap.size := by omega
 have HSL := Lib.hid k5
 have HP := Lib.hid hP
 clear h1 h2 h0 hJ hY hfree fa fb ff fp hJx hN1 hf1 hN hf hb hm hls hv k5 hP
 go_enter Tryz.func161, Tryz.ntmps161
 go_wp2_with fail
 go_quiet (fail)
 go_wp2_with fail
 go_loopw [14] (fun i wr => ∃ k : Nat, k ≤ ls.length ∧ i = .int .i64 k ∧ J ((ls.take k).filter (openR l xs)) wr ∧ Net wr P B F n l adj ∧ FlAt wr F xs ∧ wr.cell? ⟨bw, 0, none⟩ = some (.pointer (some ⟨B, 0, none⟩)) ∧ wr.cell? ⟨bn, 0, none⟩ = some (.int .i64 v) ∧ w.heap.size ≤ wr.heap.size ∧ SlR wr P 1 natE ⟨sa, ls.length, sc⟩ ls)
  (fun i _ => ls.length - (intOf i).toNat)
 case atStart =>
  refine ⟨0, Nat.zero_le _, rfl, ?_, ?_⟩
  ·simpa using HJ.out.1 _ _ _ H0.out (below_drewN (Below.refl _ _) _)
  ·have hd := below_drewN (Below.refl W.heap.size W) nq
   obtain ⟨q1, q2, q3, q4, q5⟩ := HK.out
   exact ⟨q1.step hd, q2.step hd, q3, q4, q5, HSL.out.step hd⟩
 case round =>
  obtain ⟨k, hk, rfl, hj, hN1, hf1, hc1, hc2, hzr, hS⟩ := hrel
  have HJ1 := Lib.hid hj
  have HN1 := Lib.hid hN1
  have HF1 := Lib.hid hf1
  have HS1 := Lib.hid hS
  clear hj hN1 hf1
  by_cases hlt : k < ls.length
  ·obtain ⟨ba, oa, r, rfl, hba, hrk, hca⟩ := hS.reads.at_ hlt
   have a0 := hca 0 _ rfl
   simp only [Nat.add_zero, Nat.mul_one] at a0
   have hr := HLS.out r (List.mem_of_getElem? hrk)
   have hr2 : r < 200000 := by omega
   have HT := Lib.hid (filter_next (p := openR l xs) hrk)
   clear hca hS
   have hC := capacity_any (P := P) r wr HN1.out HF1.out HB.out HM.out hr hr2
   cases ho : openR l xs r
   ·have ho2 : decide (0 < capR l xs r) = false := ho
    have HO := Lib.hid ho
    clear ho
    refine (wpIn_wide (n := m)).1 ?_
    gi_wp2
    refine ⟨trivial, fun h => (by cases h), (callsIn_wide.2 hC).mono ?_⟩
    rintro e w1 ⟨rfl, hb1⟩
    have e1 := (hb1.cell (p := ⟨bw, 0, none⟩) (by show bw < wr.heap.size; omega)).trans hc1
    have e2 := (hb1.cell (p := ⟨bn, 0, none⟩) (by show bn < wr.heap.size; omega)).trans hc2
    have hz1 := hb1.size
    have HB1 := Lib.hid hb1
    clear hb1
    gi_wp2
    refine ⟨trivial, ?_⟩
    gi_wp2
    refine ⟨fun f h => (by cases h), ?_⟩
    gi_wp2
    go_roundw
    case rel => exact ⟨k + 1, by omega, by go_num, by rw [HT.out, HO.out]; simpa using HJ.out.1 _ _ _ HJ1.out HB1.out, HN1.out.step HB1.out, HF1.out.step HB1.out, e1, e2, by omega, HS1.out.step HB1.out⟩
    case measure => simp [intOf]; omega
   ·have ho2 : decide (0 < capR l xs r) = true := ho
    have HO := Lib.hid ho
    clear ho
    refine (wpIn_wide (n := m)).1 ?_
    gi_wp2
    refine ⟨trivial, fun h => (by cases h), (callsIn_wide.2 hC).mono ?_⟩
    rintro e w1 ⟨rfl, hb1⟩
    have e1 := (hb1.cell (p := ⟨bw, 0, none⟩) (by show bw < wr.heap.size; omega)).trans hc1
    have e2 := (hb1.cell (p := ⟨bn, 0, none⟩) (by show bn < wr.heap.size; omega)).trans hc2
    have hz1 := hb1.size
    have HB1 := Lib.hid hb1
    clear hb1 hc1 hc2
    gi_wp2
    refine ⟨trivial, fun h => (by cases h), (callsIn_wide.2 (end_any (P := P) r w1 (HN1.out.step HB1.out) hr hr2)).mono ?_⟩
    rintro e w2 ⟨rfl, hb2⟩
    have e3 := (hb2.cell (p := ⟨bw, 0, none⟩) (by show bw < w1.heap.size; omega)).trans e1
    have e4 := (hb2.cell (p := ⟨bn, 0, none⟩) (by show bn < w1.heap.size; omega)).trans e2
    have hz2 := hb2.size
    have HB2 : Hid (Below wr.heap.size wr w2) := Lib.hid (HB1.out.trans (hb2.mono hz1))
    clear hb2 e1 e2
    have hjn : J ((ls.take k).filter (openR l xs)) w2 := HJ.out.1 _ _ _ HJ1.out HB2.out
    obtain ⟨fn, tmps, assign, body, hy, hR⟩ := HY.out _ r _ hjn ⟨(ls.drop (k + 1)).filter (openR l xs), by
     have h := HT.out
     rw [HO.out] at h
     simp only [if_true] at h
     rw [← h, ← List.filter_append, List.take_append_drop]⟩
    try simp only at hy
    clear hjn
    gi_wp2
    refine ⟨fun h => (by cases h), hR.mono ?_⟩
    rintro e W3 (⟨rfl, hJ3, hk3⟩ | ⟨rfl, hJx3⟩)
    ·have hk31 := hk3.1
     have e5 := (hk3.cell (a := ⟨bw, 0, none⟩) h11 HF.out.1).trans e3
     have e6 := (hk3.cell (a := ⟨bn, 0, none⟩) h12 HF.out.2.1).trans e4
     have hN2 := HN1.out.step HB2.out
     have hF2 := HF1.out.step HB2.out
     have hkp : Kp P wr W3 := (Kp.of_below HB2.out).trans ⟨hk31, fun b hp hlb => by
      rcases Nat.lt_or_ge b w.heap.size with hb | hb
      ·exact hk3.2 b hb (HF.out.2.2.2 b hp)
      ·exact absurd (HP.out b hp) (by omega)⟩
     have hF3 : FlAt W3 F xs := (hk3.2 F HF0.out.lt HF.out.2.2.1).trans hF2
     have HK3 := Lib.hid hk3
     have HJ3 := Lib.hid hJ3
     have HKP := Lib.hid hkp
     have HF3 := Lib.hid hF3
     clear hk3 hJ3 e3 e4 hN2 hF2 hkp hF3
     gi_wp2
     go_roundw
     case rel => exact ⟨k + 1, by omega, by go_num, by rw [HT.out, HO.out]; exact HJ3.out, HN1.out.keep HKP.out, HF3.out, e5, e6, by omega, HS1.out.keep HKP.out⟩
     case measure => simp [intOf]; omega
    ·gi_wp2
     refine bodyPost_ret (results_none rfl _ _ _) rfl ?_
     exact ⟨⟨_, rfl⟩, .inr ⟨_, trivial, hJx3⟩⟩
  ·obtain rfl : k = ls.length := by omega
   go_wp2_with fail
   go_end0
   have hj := HJ1.out
   rw [List.take_of_length_le (Nat.le_refl _)] at hj
   exact ⟨⟨_, rfl⟩, .inl ⟨_, rfl, hj⟩⟩
end Go.Proofs.YtalmbigebjbaoaaGreatDoor.Fl
namespace Go.Proofs.YtalmbigebjbaoaaGreatDoor.Fl
open Go.RowKit Go.Shelf
set_option linter.unusedSimpArgs false
set_option linter.unusedVariables false
def CellAt (W : World) (b o : Nat) (v : Value) : Prop := W.cell? ⟨b, o, none⟩ = some v ∧ b < W.heap.size
theorem Tryz.infoInt : (Tryz.prog.info? 3).map (fun i => (i.zero, i.size, i.bytes)) = some (some (.int .i64 0), 1, 8) := by kernel_rfl
theorem and_mask (n : Nat) (h : n ≤ 4096) : bits BinOp.and IntKind.u64 (n : Int) 4294967295 = (n : Int) := by
 have h1 := bits_and_u64_nat n 4294967295 (by omega) (by omega)
 have e : n &&& 4294967295 = n := by
  have := Nat.and_two_pow_sub_one_eq_mod n 32
  simp only [Nat.reducePow, Nat.reduceSub] at this
  rw [this]
  omega
 rw [e] at h1
 exact h1
theorem mul64_any (n : Nat) (h : n ≤ 4096) (w : World) :
 Calls Tryz.prog 172 #[.int .u64 1, .int .u64 n] w fun e w' => e = .returned (.tuple #[.int .u64 0, .int .u64 n]) ∧ w = w' := by
 have a1 : bits BinOp.and IntKind.u64 1 4294967295 = 1 := by decide
 have a2 := and_mask n h
 have a3 : bits BinOp.and IntKind.u64 0 4294967295 = 0 := by decide
 have a4 : (n : Int) / 4294967296 = 0 := by omega
 go_enter Tryz.func172, Tryz.ntmps172
 go_wp2_with fail
 go_ret2
 exact ⟨rfl, rfl⟩
theorem mul_any (n : Nat) (h : n ≤ 4096) (w : World) :
 Calls Tryz.prog 160 #[.int .u64 1, .int .u64 n] w fun e w' => e = .returned (.tuple #[.int .u64 0, .int .u64 n]) ∧ w = w' := by
 go_enter Tryz.func160, Tryz.ntmps160
 go_wp2_with fail
 refine (mul64_any n h _).mono ?_
 rintro e w1 ⟨rfl, rfl⟩
 go_wp2_with fail
 go_ret2
 exact ⟨rfl, rfl⟩
def slRow (s : Int) (k n : Nat) : List Value := List.replicate k (.int .i64 s) ++ List.replicate (n - k) (.int .i64 0)
theorem slRow_len (s : Int) {k n : Nat} (h : k ≤ n) : (slRow s k n).length = n := by simp [slRow]; omega
theorem slRow_splice (s : Int) {k m n : Nat} (h : k + m ≤ n) : splice (slRow s k n) k (List.replicate m (.int .i64 s)) = slRow s (k + m) n := by
 unfold splice slRow
 rw [List.take_left' (by simp), List.length_replicate, ← List.append_assoc, List.replicate_append_replicate, List.drop_append]
 simp
 omega
theorem slRow_get (s : Int) {k n j : Nat} (h : j < k) : (slRow s k n)[j]? = some (.int .i64 s) := by
 unfold slRow
 rw [List.getElem?_append_left (by simpa using h)]
 simp [h]
theorem made_nils (n : Nat) : madeCells (Value.int .i64 0).cells n = (slRow 0 0 n).toArray := by
 apply Array.ext
 ·simp [size_madeCells, slRow]
 ·intro i h1 h2
  simp [madeCells, slRow, Value.cells, Nat.mod_one]
theorem slRow_done {w : World} {g n : Nat} (v : Int) (h : w.heap[g]? = some (.cells (slRow v n n).toArray 3 (0, 0))) : FlAt w g (List.replicate n v) := by
 unfold FlAt
 rw [h]
 simp [slRow]
set_option maxHeartbeats 2000000 in
set_option maxRecDepth 100000 in
theorem repeat_any (v : Int) (b : Nat) (n : Nat) (h1 : 1 ≤ n) (hn : n ≤ 4096) (w : World) (hb : CellAt w b 0 (.int .i64 v)) :
 Calls Tryz.prog 123 #[.slice (some ⟨b, 0, none⟩) 1 1, .int .i64 n] w fun e w' => (e = .returned (.slice (some ⟨w.heap.size, 0, none⟩) n n) ∧ FlAt w' w.heap.size (List.replicate n v)) ∧ Below w.heap.size w w' := by
 obtain ⟨i0, hinf, hz0, hz1, hz2⟩ := info_parts Tryz.infoInt
 have hmk := fun W => run_make (P := Tryz.prog) W 64 3 i0 (.int .i64 0) Tryz.underlying64 hinf hz0 .i64 .i64 (n : Int) (n : Int) (by omega) (by omega) (by rw [hz2]; omega) (by omega)
 rw [hz1] at hmk
 simp only [Int.toNat_natCast, Nat.mul_one, made_nils] at hmk
 have hszE : (Tryz.prog.info? 3).map (·.size) = some 1 := by rw [hinf]; simp [hz1]
 have hsl1 := fun (k : Nat) (hk : k ≤ n) W => run_slice_from (P := Tryz.prog) Tryz.underlying64 hinf (some ⟨w.heap.size, 0, none⟩) n n .i64 (k : Int) (by omega) (by omega) W
 have hsl2 := fun (k : Nat) (hk : k ≤ n) W => run_slice_to (P := Tryz.prog) Tryz.underlying64 hinf (some ⟨w.heap.size, 0, none⟩) n n .i64 (k : Int) (by omega) (by omega) W
 rw [hz1] at hsl1
 have HS1 := Lib.hid hsl1
 have HS2 := Lib.hid hsl2
 have HZ := Lib.hid hszE
 clear hinf hz0 hz1 hz2 hsl1 hsl2 hszE
 obtain ⟨row, hrow⟩ : ∃ row, row = slRow 0 0 n := ⟨_, rfl⟩
 rw [← hrow] at hmk
 have hrl : row.length = n := by rw [hrow]; exact slRow_len _ (Nat.zero_le _)
 have HRW := Lib.hid hrow
 have HRL := Lib.hid hrl
 clear hrow hrl
 have HBC := Lib.hid hb
 clear hb
 have hmn : min 1 n = 1 := by omega
 have HMN := Lib.hid hmn
 clear hmn
 go_enter Tryz.func123, Tryz.ntmps123
 go_wp2_with fail
 refine (mul_any n hn _).mono ?_
 rintro e w1 ⟨rfl, rfl⟩
 go_wp2_with (refine wpList_copy_splice rfl (.tmp 31) (.tmp 32) _ _ rfl 3 Tryz.underlying64 HZ.out (some ⟨w.heap.size, 0, none⟩) (some ⟨b, 0, none⟩) n n 1 1 rfl rfl w.heap.size 0 row _ (heap_alloc_new w _) [.int .i64 v] HMN.out.symm ?c1 ?c2 ?c3 w.heap.size w ((Below.refl _ _).alloc (Nat.le_refl _) _) (Nat.le_refl _) ?_)
 case c1 =>
  intro j u hj
  match j with
  | 0 =>
    simp at hj
    subst hj
    have := ((Below.refl w.heap.size w).alloc (Nat.le_refl _) (.cells row.toArray 3)).cell (p := ⟨b, 0, none⟩) HBC.out.2
    simpa [Go.WideShapes.add_plain] using this.trans HBC.out.1
  | j + 1 => simp at hj
 case c2 => rw [HRL.out]; simp; omega
 case c3 => intro u hu; simp at hu; subst hu; rfl
 intro w2 hg2 hb2
 have hr2 : splice row 0 [.int .i64 v] = slRow v 1 n := by
  have := slRow_splice v (k := 0) (m := 1) (n := n) (by omega)
  rw [HRW.out]
  simpa [slRow] using this
 have HG2 : Hid (w2.heap[w.heap.size]? = some (.cells (slRow v 1 n).toArray 3 (0, 0))) := Lib.hid (by rw [← hr2]; exact hg2.out)
 clear hg2 hr2
 go_wp2_with fail
 go_loopw [8] (fun i wr => ∃ k : Nat, 1 ≤ k ∧ k ≤ n ∧ i = .int .i64 k ∧ wr.heap[w.heap.size]? = some (.cells (slRow v k n).toArray 3 (0, 0)) ∧ Below w.heap.size w wr) (fun i _ => n - (intOf i).toNat)
 case atStart => exact ⟨1, Nat.le_refl _, h1, rfl, HG2.out, hb2⟩
 case round =>
  clear hb2 HG2
  obtain ⟨k, hk1, hk, rfl, hgr, hB⟩ := hrel
  have HGR := Lib.hid hgr
  have HB := Lib.hid hB
  clear hgr hB
  by_cases hlt : k < n
  ·have hs1 := HS1.out k hk
   have hs2 := HS2.out k hk
   simp only [if_neg (show ¬ n = (k : Int).toNat by simp; omega), Option.map_some, Go.WideShapes.add_plain, Int.toNat_natCast, Nat.mul_one, Nat.zero_add] at hs1
   simp only [Int.toNat_natCast] at hs2
   obtain ⟨m, hm⟩ : ∃ m, m = min k (n - k) := ⟨_, rfl⟩
   have hm1 : 1 ≤ m ∧ k + m ≤ n := by omega
   have hnk : ¬ n = k := by omega
   have HM := Lib.hid hm
   obtain ⟨hm1, hm2⟩ := hm1
   have hmk2 : m ≤ k := by omega
   clear hm
   have CPY : Hid (∀ j u, (List.replicate m (Value.int .i64 v))[j]? = some u → wr.drew.cell? ((⟨w.heap.size, 0, none⟩ : Addr).add j) = some u) := Lib.hid (fun j u hj => by
    rw [Go.WideShapes.add_plain, Nat.zero_add]
    have hjm : j < m := by have := (List.getElem?_eq_some_iff.1 hj).1; simpa using this
    rw [List.getElem?_replicate, if_pos hjm] at hj
    injection hj with hj
    subst hj
    have h3 := slRow_get v (n := n) (show j < k by omega)
    show wr.cell? _ = _
    simp only [World.cell?, HGR.out]
    simpa using h3)
   go_wp2_with fail
   go_region_held_law (fun _ => True) (trivial) ((refine step_copy_splice (by rfl) (.tmp 41) (.tmp 44) _ _ (by rfl) 3 Tryz.underlying64 HZ.out (some ⟨w.heap.size, k, none⟩) (some ⟨w.heap.size, 0, none⟩) (n - k) (n - k) k n (by rfl) (by rfl) w.heap.size k (slRow v k n) 3 HGR.out (List.replicate m (.int .i64 v)) (by rw [List.length_replicate]; exact HM.out) (fun _ => ⟨rfl, _, rfl, fun j u hj => CPY.out j u hj⟩) (by rw [List.length_replicate, slRow_len v hk]; exact hm2) (fun u hu => by rw [(List.mem_replicate.1 hu).2]; rfl) w.heap.size w HB.out.drew (Nat.le_refl _) ?_; intro w4 hg4 hb4))
   have HG4 : Hid (w4.heap[w.heap.size]? = some (.cells (slRow v (k + m) n).toArray 3 (0, 0))) := Lib.hid (by rw [← slRow_splice v hm2]; exact hg4.out)
   clear hg4
   have hwr : IntKind.i64.wrap ((k : Int) + (m : Int)) = (k : Int) + (m : Int) := IntWalk.i64_in _ (by omega)
   go_simp
   go_wp2_with fail
   go_roundw
   case rel => exact ⟨k + m, by omega, hm2, by simp [hwr], HG4.out, hb4⟩
   case measure => simp [intOf, hwr]; omega
  ·obtain rfl : k = n := by omega
   go_wp2_with fail
   go_ret
   exact ⟨⟨rfl, slRow_done v HGR.out⟩, HB.out⟩
end Go.Proofs.YtalmbigebjbaoaaGreatDoor.Fl
namespace Go.Proofs.YtalmbigebjbaoaaGreatDoor.Fl
open Go.RowKit
set_option linter.unusedSimpArgs false
set_option linter.unusedVariables false
attribute [local go_sem] Oper.semAt_some
def Tail (w : World) (base : Nat) (e : TypeId) (v : Value) (xs : List Value) : Prop :=
 ∃ g off cap cs, v = .slice (some ⟨g, off, none⟩) xs.length cap ∧ base ≤ g ∧ w.heap[g]? = some (.cells cs e (0, 0)) ∧ xs.length ≤ cap ∧ cap ≤ maxLen ∧ off + cap ≤ cs.size ∧ ∀ i x, xs[i]? = some x → cs[off + i]? = some x
section
variable {w w' : World} {base : Nat} {e : TypeId} {v : Value} {xs : List Value} {P : Program}
theorem Tail.of_block (h : Tail w base e v xs) (hg : ∀ g, v.ownBlock = some g → w'.heap[g]? = w.heap[g]?) : Tail w' base e v xs := by
 obtain ⟨g, off, cap, cs, rfl, h2, h3, h4⟩ := h
 exact ⟨g, off, cap, cs, rfl, h2, (hg g rfl).trans h3, h4⟩
theorem Tail.lt (h : Tail w base e v xs) : ∀ g, v.ownBlock = some g → base ≤ g ∧ g < w.heap.size := by
 obtain ⟨g, off, cap, cs, rfl, h2, h3, h4⟩ := h
 intro g' e'
 simp [Value.ownBlock] at e'
 subst e'
 exact ⟨h2, (Array.getElem?_eq_some_iff.1 h3).1⟩
theorem Tail.cells (h : Tail w base e v xs) : ∀ g, v.ownBlock = some g → ∃ o, w.heap[g]? = some o ∧ o.isCells = true := by
 obtain ⟨g, off, cap, cs, rfl, h2, h3, h4⟩ := h
 intro g' e'
 simp [Value.ownBlock] at e'
 subst e'
 exact ⟨_, h3, rfl⟩
theorem Tail.one (w : World) (x : Value) (e : TypeId) (base : Nat) (hb : base ≤ w.heap.size) : Tail (w.alloc (.cells #[x] e)) base e (.slice (some ⟨w.heap.size, 0, none⟩) 1 1) [x] :=
 ⟨w.heap.size, 0, 1, #[x], rfl, hb, heap_alloc_new w _, by simp, by decide, by simp, fun i y hi => by
   cases i with
   | zero => simpa using hi
   | succ i => simp at hi⟩
theorem Tail.head {x : Value} (h : Tail w base e v (x :: xs)) : ∃ g off cap, v = .slice (some ⟨g, off, none⟩) (xs.length + 1) cap ∧ xs.length + 1 ≤ cap ∧ cap ≤ maxLen ∧ g < w.heap.size ∧ w.cell? ⟨g, off, none⟩ = some x ∧
 Tail w base e (.slice (if cap = 1 then some ⟨g, off, none⟩ else (some (⟨g, off, none⟩ : Addr)).map (·.add (1 * 1))) (xs.length + 1 - 1) (cap - 1)) xs := by
 obtain ⟨g, off, cap, cs, rfl, h2, h3, h4, h5, h6, h7⟩ := h
 simp only [List.length_cons] at h4
 refine ⟨g, off, cap, rfl, h4, h5, (Array.getElem?_eq_some_iff.1 h3).1, ?_, ?_⟩
 ·have := h7 0 x rfl
  simp only [World.cell?, h3, Nat.add_zero] at this ⊢
  exact this
 ·by_cases hc : cap = 1
  ·rw [if_pos hc]
   have : xs = [] := List.eq_nil_of_length_eq_zero (by omega)
   subst this
   exact ⟨g, off, cap - 1, cs, rfl, h2, h3, by simp, by omega, by omega, fun i y hi => by simp at hi⟩
  ·rw [if_neg hc]
   refine ⟨g, off + 1, cap - 1, cs, by simp [Go.WideShapes.add_plain], h2, h3, by omega, by omega, by omega, fun i y hi => ?_⟩
   have := h7 (i + 1) y (by simpa using hi)
   rw [← this]
   congr 1
   omega
theorem Tail.append (t ty : TypeId) (i : TypeInfo) (z : Value) (bytes : Nat) (ht : P.underlying t = some (.slice e)) (hi : P.info? e = some i) (hz : i.zero = some z) (hsize : i.size = 1) (hby : i.bytes = bytes) (hzs : z.cells.size = 1)
 (h : Tail w base e v xs) (x : Value) (hx1 : x.oneCell' = true) (ab ao c : Nat) (hx : w.cell? ⟨ab, ao, none⟩ = some x) (h63 : xs.length + 1 ≤ maxLen) (hbytes : (xs.length + 1) * bytes ≤ 140737488355328) (hbase : base ≤ w.heap.size) :
 ∃ v' w', (Builtin.append_ #[t, t] ty #[v, .slice (some ⟨ab, ao, none⟩) 1 c]).run P w = .ok v' w' ∧ Tail w' base e v' (xs ++ [x]) ∧ w.grownBy w' v.ownBlock ∧ (v'.ownBlock = v.ownBlock ∨ ∃ k, v'.ownBlock = some k ∧ w.heap.size ≤ k) := by
 obtain ⟨g, off, cap, cs, rfl, h2, h3, h4, h5, h6, h7⟩ := h
 have hnews : ∀ j u, [x][j]? = some u → w.cell? ((⟨ab, ao, none⟩ : Addr).add j) = some u := by
  intro j u hj
  cases j with
  | zero => simp at hj; subst hj; rw [Go.WideShapes.add_plain]; exact hx
  | succ j => simp at hj
 by_cases hr : xs.length + 1 ≤ cap
 ·have hrun := run_append_room_cells (P := P) w t ty e i ht hi g off xs.length cap ⟨ab, ao, none⟩ 1 c [x] (by simp [hsize]) hnews (by intro u hu; simp at hu; subst hu; exact hx1) hr
   (by
     intro j hj
     simp at hj
     subst hj
     simp only [World.cell?, h3, hsize, Nat.mul_one, Nat.add_zero]
     have : off + xs.length < cs.size := by omega
     simp [this])
   (by
     intro j hj
     simp at hj
     subst hj
     simp [World.frozen?, h3])
  simp only [hsize, Nat.mul_one, World.setCells] at hrun
  refine ⟨_, _, hrun, ⟨g, off, cap, cs.setIfInBounds (off + xs.length) x, by simp, h2, ?_, by simpa using hr, h5, by simpa using h6, fun j y hj => ?_⟩, ?_, .inl rfl⟩
  ·exact heap_setCell_same w g (off + xs.length) cs e x h3
  ·rw [Array.getElem?_setIfInBounds]
   by_cases hjl : j < xs.length
   ·rw [if_neg (by omega)]
    rw [List.getElem?_append_left hjl] at hj
    exact h7 j y hj
   ·have hjl2 := (List.getElem?_eq_some_iff.1 hj).1
    simp at hjl2
    obtain rfl : j = xs.length := by omega
    rw [if_pos rfl, if_pos (by omega)]
    simp at hj
    rw [hj]
  ·exact ⟨rfl, rfl, rfl, by simp [World.setCell], fun k hk hne => Below.heap_setCell _ _ _ _ (fun e => hne (by rw [e]; rfl))⟩
 ·have hol : ∀ j u, xs[j]? = some u → w.cell? ((⟨g, off, none⟩ : Addr).add j) = some u := by
   intro j u hj
   rw [Go.WideShapes.add_plain]
   have := h7 j u hj
   simp only [World.cell?, h3]
   exact this
  obtain ⟨v', w', hrun, h8, h9⟩ := run_append_arg_grows (P := P) w t ty e i z 1 bytes ht hi hz hsize hby hzs (by decide) ⟨g, off, none⟩ xs.length cap xs (by simp) hol ⟨ab, ao, none⟩ 1 c [x] (by simp) hnews (by omega) h63 hbytes
  refine ⟨v', w', hrun, ?_, ⟨h9.os, h9.tape, h9.output, h9.size, fun k hk _ => h9.block k hk (by simp)⟩, ?_⟩
  ·rcases h8.2 with ⟨_, h10⟩ | ⟨g', cap', cur, rfl, h10, h11, h12, h13, h14, h15⟩
   ·omega
   ·refine ⟨g', 0, cap', cur, by simp, by omega, h11, by simpa using h12, h13, by omega, fun j y hj => ?_⟩
    rw [← h15, List.getElem?_take] at hj
    split at hj
    ·rw [Nat.zero_add, ← Array.getElem?_toList]; exact hj
    ·cases hj
  ·rcases h8.2 with ⟨_, h10⟩ | ⟨g', cap', cur, rfl, h10, h11, h12, h13, h14, h15⟩
   ·omega
   ·exact .inr ⟨g', rfl, h10⟩
theorem wpListIn_append_tail {F : Fence} {n : Nat} {ops : Array Oper} {rest : List Oper} {o : Oper} {a : Act} {Q : Exit → Act → World → Prop} (hgd : o.guard = none) (s x : Operand) (t : TypeId)
 (ho : o.op = .call { callee := .builtin .append, args := #[s, x], argTypes := #[t, t] }) (i : TypeInfo) (z : Value) (bytes : Nat) (ht : P.underlying t = some (.slice e)) (hi : P.info? e = some i) (hz : i.zero = some z) (hsize : i.size = 1) (hby : i.bytes = bytes) (hzs : z.cells.size = 1)
 (hs : a.eval s = v) (h : Tail w base e v xs) (y : Value) (hy1 : y.oneCell' = true) (ab ao c : Nat) (hx : a.eval x = .slice (some ⟨ab, ao, none⟩) 1 c) (hxc : w.cell? ⟨ab, ao, none⟩ = some y) (h63 : xs.length + 1 ≤ maxLen) (hbytes : (xs.length + 1) * bytes ≤ 140737488355328) (hbase : base ≤ w.heap.size)
 (hk : ∀ v' w', Tail w' base e v' (xs ++ [y]) → w.grownBy w' v.ownBlock → (v'.ownBlock = v.ownBlock ∨ ∃ k, v'.ownBlock = some k ∧ w.heap.size ≤ k) → wpListIn F n P ops Q rest (a.put o.dst v') w') :
 wpListIn F n P ops Q (o :: rest) a w := by
 refine wpListIn_plain hgd fun K hK => ?_
 obtain ⟨v', w', hrun, h2, h3, h4⟩ := h.append (P := P) t o.type i z bytes ht hi hz hsize hby hzs y hy1 ab ao c hxc h63 hbytes hbase
 unfold Oper.wpIn
 refine ⟨?_, ?_⟩
 ·simp [Oper.about, ho, resolve, Target.leads, Sem.run_pure]
 ·rw [Oper.semAt_plain F _ _ (by rw [ho]; intro c hc'; cases hc')]
  simp [execOp, ho, resolve, invoke, builtin, hs, hx, hrun, Result.andThen]
  exact hK _ _ (hk v' w' h2 h3 h4)
end
end Go.Proofs.YtalmbigebjbaoaaGreatDoor.Fl
