/- TopDegree, what its proof leans on: the texts AudP, AudQ. -/
import Derived.Test.YtalmbigebjbaoaaGreatDoorM21
import Derived.Test.YtalmbigebjbaoaaGreatDoorM13
namespace Go.Proofs.YtalmbigebjbaoaaGreatDoor
set_option linter.unusedSimpArgs false
set_option linter.unusedVariables false
def usL : List (Nat × Nat) → List Int → List Us
 | x :: ps, y :: ys => (if 0 < y then [⟨x.1, x.2, y⟩] else []) ++ usL ps ys
 | _, _ => []
theorem usL_snoc : ∀ (ps : List (Nat × Nat)) (x : Nat × Nat) (ys : List Int), ps.length < ys.length → usL (ps ++ [x]) ys = usL ps ys ++ (if 0 < ys.getD ps.length 0 then [⟨x.1, x.2, ys.getD ps.length 0⟩] else [])
 | [], x, y :: ys, _ => by simp [usL]
 | [], x, [], h => by simp at h
 | p :: ps, x, [], h => by simp at h
 | p :: ps, x, y :: ys, h => by
   simp only [List.cons_append, usL, usL_snoc ps x ys (by simpa using h), List.append_assoc, List.length_cons, List.getD_cons_succ]
theorem usL_len : ∀ (ps : List (Nat × Nat)) (ys : List Int), (usL ps ys).length ≤ ps.length
 | [], ys => by simp [usL]
 | p :: ps, [] => by simp [usL]
 | p :: ps, y :: ys => by
   have := usL_len ps ys
   simp only [usL, List.length_append, List.length_cons]
   split <;> simp <;> omega
theorem outE_app : ∀ (l1 : List Fl.Ed) (x1 : List Int) (l2 : List Fl.Ed) (x2 : List Int) (v : Int), x1.length = l1.length → Fl.outE (l1 ++ l2) (x1 ++ x2) v = Fl.outE l1 x1 v + Fl.outE l2 x2 v
 | [], [], l2, x2, v, _ => by simp [Fl.outE]
 | [], _ :: _, _, _, _, h => by simp at h
 | _ :: _, [], _, _, _, h => by simp at h
 | e :: l1, x :: x1, l2, x2, v, h => by
   simp only [List.cons_append, Fl.outE, outE_app l1 x1 l2 x2 v (by simpa using h)]
   omega
theorem cutE_app : ∀ (l1 l2 : List Fl.Ed) (c : Int → Bool), Fl.cutE (l1 ++ l2) c = Fl.cutE l1 c + Fl.cutE l2 c
 | [], l2, c => by simp [Fl.cutE]
 | e :: l1, l2, c => by simp only [List.cons_append, Fl.cutE, cutE_app l1 l2 c]; omega
theorem bd_len : ∀ (l : List Fl.Ed) (xs : List Int), Fl.Bd l xs → xs.length = l.length
 | [], [], _ => rfl
 | [], _ :: _, h => h.elim
 | _ :: _, [], h => h.elim
 | e :: l, x :: xs, ⟨_, _, h⟩ => by simp [bd_len l xs h]
theorem bd_app : ∀ (l1 : List Fl.Ed) (x1 : List Int) (l2 : List Fl.Ed) (x2 : List Int), x1.length = l1.length → Fl.Bd (l1 ++ l2) (x1 ++ x2) → Fl.Bd l1 x1 ∧ Fl.Bd l2 x2
 | [], [], l2, x2, _, h => ⟨trivial, h⟩
 | [], _ :: _, _, _, h, _ => by simp at h
 | _ :: _, [], _, _, h, _ => by simp at h
 | e :: l1, x :: x1, l2, x2, h, ⟨h1, h2, h3⟩ => by
   obtain ⟨k1, k2⟩ := bd_app l1 x1 l2 x2 (by simpa using h) h3
   exact ⟨⟨h1, h2, k1⟩, k2⟩
theorem split_last {xs : List Int} {n : Nat} (h : xs.length = n + 1) : xs = xs.take n ++ [xs.getD n 0] := by
 have e := List.take_append_drop n xs
 have : xs.drop n = [xs.getD n 0] := by
  rw [List.drop_eq_getElem_cons (by omega), List.drop_eq_nil_of_le (by omega), List.getD_eq_getElem?_getD, List.getElem?_eq_getElem (by omega)]
  rfl
 rw [this] at e
 exact e.symm
theorem take_getD {xs : List Int} {n i : Nat} (h : i < n) : (xs.take n).getD i 0 = xs.getD i 0 := by
 rw [List.getD_eq_getElem?_getD, List.getD_eq_getElem?_getD, List.getElem?_take, if_pos h]
theorem outE_range (f : Nat → Fl.Ed) (v : Int) : ∀ (n : Nat) (xs : List Int), xs.length = n → Fl.outE ((List.range n).map f) xs v = sumN n (fun i => (if (f i).f = v then xs.getD i 0 else 0) - (if (f i).t = v then xs.getD i 0 else 0))
 | 0, xs, h => by
   have : xs = [] := List.length_eq_zero_iff.1 h
   subst this
   simp [Fl.outE, sumN]
 | n + 1, xs, h => by
   rw [split_last h, map_range_snoc, outE_app _ _ _ _ _ (by simp; omega), outE_range f v n (xs.take n) (by simp; omega)]
   rw [← split_last h]
   simp only [sumN, Fl.outE]
   rw [sumN_congr (fun i hi => by rw [take_getD hi])]
   omega
theorem cutE_range (f : Nat → Fl.Ed) (c : Int → Bool) : ∀ n : Nat, Fl.cutE ((List.range n).map f) c = sumN n (fun i => if c (f i).f && !c (f i).t then (f i).m else 0)
 | 0 => by simp [Fl.cutE, sumN]
 | n + 1 => by
   rw [map_range_snoc, cutE_app, cutE_range f c n]
   simp [sumN, Fl.cutE]
theorem bd_range (f : Nat → Fl.Ed) : ∀ (n : Nat) (xs : List Int), xs.length = n → Fl.Bd ((List.range n).map f) xs → ∀ i, i < n → 0 ≤ xs.getD i 0 ∧ xs.getD i 0 ≤ (f i).m
 | 0, _, _, _ => fun i hi => by omega
 | n + 1, xs, h, hb => fun i hi => by
   rw [split_last h, map_range_snoc] at hb
   obtain ⟨h1, h2⟩ := bd_app _ _ _ _ (by simp; omega) hb
   by_cases e : i = n
   ·subst e
    exact ⟨h2.1, h2.2.1⟩
   ·have := bd_range f n (xs.take n) (by simp; omega) h1 i (by omega)
    rw [take_getD (by omega)] at this
    exact this
structure UOk (p : Pg) (l : List At) (us : List Us) : Prop where
 one : ∀ u ∈ us, (0 ≤ u.att ∧ u.att < (l.length : Int)) ∧ (0 ≤ u.req ∧ u.req < (p.reqs.length : Int)) ∧ (1 ≤ u.credits ∧ u.credits ≤ (l.getD u.att.toNat default).credits) ∧ elig (p.reqs.getD u.req.toNat default) (l.getD u.att.toNat default) = true
 ord : us.Pairwise lexlt
 att : ∀ u ∈ us, usA u.att us ≤ (l.getD u.att.toNat default).credits * p.uses
 req : ∀ u ∈ us, usR u.req us ≤ (p.reqs.getD u.req.toNat default).credits
theorem usA_app (k : Int) : ∀ a b : List Us, usA k (a ++ b) = usA k a + usA k b
 | [], b => by simp [usA]
 | u :: a, b => by simp only [List.cons_append, usA, usA_app k a b]; omega
theorem usR_app (k : Int) : ∀ a b : List Us, usR k (a ++ b) = usR k a + usR k b
 | [], b => by simp [usR]
 | u :: a, b => by simp only [List.cons_append, usR, usR_app k a b]; omega
theorem usT_app : ∀ a b : List Us, usT (a ++ b) = usT a + usT b
 | [], b => by simp [usT]
 | u :: a, b => by simp only [List.cons_append, usT, usT_app a b]; omega
theorem usA_pos (k : Int) : ∀ l : List Us, (∀ u ∈ l, 1 ≤ u.credits) → 0 ≤ usA k l
 | [], _ => by simp [usA]
 | u :: l, h => by
   have h1 := usA_pos k l (fun v hv => h v (List.mem_cons_of_mem _ hv))
   have h2 := h u (List.mem_cons_self ..)
   simp only [usA]; split <;> omega
theorem usR_pos (k : Int) : ∀ l : List Us, (∀ u ∈ l, 1 ≤ u.credits) → 0 ≤ usR k l
 | [], _ => by simp [usR]
 | u :: l, h => by
   have h1 := usR_pos k l (fun v hv => h v (List.mem_cons_of_mem _ hv))
   have h2 := h u (List.mem_cons_self ..)
   simp only [usR]; split <;> omega
theorem okAgo_of {p : Pg} {l : List At} {us : List Us} (h : UOk p l us) : ∀ (rest pre : List Us), pre ++ rest = us → okAgo p l pre rest = true
 | [], _, _ => rfl
 | u :: rest, pre, e => by
   have hu : u ∈ us := by rw [← e]; simp
   obtain ⟨⟨h1, h2⟩, ⟨h3, h4⟩, h5, h6⟩ := h.one u hu
   have hp : ∀ v ∈ pre ++ [u] ++ rest, 1 ≤ v.credits := fun v hv => (h.one v (by rw [← e]; simpa using hv)).2.2.1.1
   have hr : ∀ v ∈ rest, 1 ≤ v.credits := fun v hv => hp v (by simp [hv])
   simp only [okAgo, Bool.and_eq_true]
   refine ⟨(okA_iff _ _ _ _).2 ⟨⟨h1, h2, h3, h4⟩, ?_, h5, h6, ?_, ?_⟩, okAgo_of h rest (pre ++ [u]) (by rw [← e]; simp)⟩
   ·unfold ordOk
    cases hl : pre.getLast? with
    | none => rfl
    | some v =>
      have hv : v ∈ pre := List.mem_of_getLast? hl
      have ho := h.ord
      rw [← e, List.pairwise_append] at ho
      have := ho.2.2 v hv u (List.mem_cons_self ..)
      unfold lexlt at this
      simp
      omega
   ·have := h.att u hu
    rw [← e, usA_app] at this
    have h0 := usA_pos u.att rest hr
    simp only [usA, if_true] at this
    omega
   ·have := h.req u hu
    rw [← e, usR_app] at this
    have h0 := usR_pos u.req rest hr
    simp only [usR, if_true] at this
    omega
def prlt (a b : Nat × Nat) : Prop := a.1 < b.1 ∨ (a.1 = b.1 ∧ a.2 < b.2)
theorem pairs_lt {p : Pg} {l : List At} : ∀ {n : Nat} {x : Nat × Nat}, x ∈ pairsTo p l n → x.1 < n := by
 intro n x h
 unfold pairsTo at h
 obtain ⟨i, hi, hx⟩ := List.mem_flatMap.1 h
 unfold rowP at hx
 obtain ⟨k, hk, rfl⟩ := List.mem_map.1 hx
 exact List.mem_range.1 hi
theorem pairs_elig {p : Pg} {l : List At} {x : Nat × Nat} (h : x ∈ pairsL p l) : elig (p.reqs.getD x.2 default) (l.getD x.1 default) = true := by
 unfold pairsL pairsTo at h
 obtain ⟨i, hi, hx⟩ := List.mem_flatMap.1 h
 unfold rowP at hx
 obtain ⟨k, hk, rfl⟩ := List.mem_map.1 hx
 exact (eligL_mem.1 hk).2
theorem elig_sorted (p : Pg) (a : At) (n : Nat) : (eligTo p a n).Pairwise (· < ·) := List.Pairwise.filter _ List.pairwise_lt_range
theorem pairs_sorted (p : Pg) (l : List At) : ∀ n, (pairsTo p l n).Pairwise prlt
 | 0 => by simp [pairsTo]
 | n + 1 => by
   unfold pairsTo
   rw [flat_range, List.pairwise_append]
   refine ⟨pairs_sorted p l n, ?_, fun a ha b hb => ?_⟩
   ·unfold rowP
    rw [List.pairwise_map]
    exact (elig_sorted p _ _).imp (fun {a b} h => .inr ⟨rfl, h⟩)
   ·have h1 := pairs_lt (n := n) ha
    unfold rowP at hb
    obtain ⟨k, _, rfl⟩ := List.mem_map.1 hb
    exact .inl h1
theorem usL_mem {l : List At} : ∀ (ps : List (Nat × Nat)) (ys : List Int), Fl.Bd (net2 l ps) ys → ∀ u ∈ usL ps ys, ∃ x ∈ ps, u.att = x.1 ∧ u.req = x.2 ∧ 1 ≤ u.credits ∧ u.credits ≤ (l.getD x.1 default).credits
 | [], ys, _ => by simp [usL]
 | x :: ps, [], _ => by simp [usL]
 | x :: ps, y :: ys, ⟨h1, h2, h3⟩ => by
   intro u hu
   simp only [usL] at hu
   rcases List.mem_append.1 hu with hu | hu
   ·split at hu
    ·simp at hu
     subst hu
     exact ⟨x, List.mem_cons_self .., rfl, rfl, by simp only; omega, h2⟩
    ·simp at hu
   ·obtain ⟨z, hz, h⟩ := usL_mem ps ys h3 u hu
    exact ⟨z, List.mem_cons_of_mem _ hz, h⟩
theorem usL_sorted {l : List At} : ∀ (ps : List (Nat × Nat)) (ys : List Int), Fl.Bd (net2 l ps) ys → ps.Pairwise prlt → (usL ps ys).Pairwise lexlt
 | [], ys, _, _ => by simp [usL]
 | x :: ps, [], _, _ => by simp [usL]
 | x :: ps, y :: ys, ⟨h1, h2, h3⟩, hp => by
   rw [List.pairwise_cons] at hp
   have ih := usL_sorted ps ys h3 hp.2
   simp only [usL]
   split
   ·simp only [List.cons_append, List.nil_append, List.pairwise_cons]
    refine ⟨fun u hu => ?_, ih⟩
    obtain ⟨z, hz, e1, e2, _⟩ := usL_mem ps ys h3 u hu
    have := hp.1 z hz
    unfold prlt at this
    unfold lexlt
    simp only
    omega
   ·simpa using ih
theorem pr_out {l : List At} {R : Nat} : ∀ (ps : List (Nat × Nat)) (ys : List Int), (∀ x ∈ ps, x.1 < l.length ∧ x.2 < R) → Fl.Bd (net2 l ps) ys →
 (∀ i : Nat, i < l.length → Fl.outE (net2 l ps) ys (1 + (i : Int)) = usA i (usL ps ys)) ∧ (∀ k : Nat, Fl.outE (net2 l ps) ys (1 + (l.length : Int) + (k : Int)) = -usR k (usL ps ys)) ∧ Fl.outE (net2 l ps) ys 0 = 0
 | [], ys, _, _ => by simp [net2, Fl.outE, usL, usA, usR]
 | x :: ps, [], _, h => h.elim
 | x :: ps, y :: ys, hx, ⟨h1, h2, h3⟩ => by
   obtain ⟨a1, a2, a3⟩ := pr_out ps ys (fun z hz => hx z (List.mem_cons_of_mem _ hz)) h3
   obtain ⟨b1, b2⟩ := hx x (List.mem_cons_self ..)
   have e : net2 l (x :: ps) = edP l x :: net2 l ps := rfl
   rw [e]
   refine ⟨fun i hi => ?_, fun k => ?_, ?_⟩
   ·simp only [Fl.outE, a1 i hi, usL, usA_app]
    have ht : ¬ (edP l x).t = 1 + (i : Int) := by unfold edP; simp only; omega
    rw [if_neg ht]
    by_cases hf : x.1 = i
    ·rw [if_pos (show (edP l x).f = 1 + (i : Int) by unfold edP; simp only; omega)]
     by_cases hy : 0 < y
     ·rw [if_pos hy]; simp [usA, hf]
     ·rw [if_neg hy]; simp only [usA]; omega
    ·rw [if_neg (show ¬ (edP l x).f = 1 + (i : Int) by unfold edP; simp only; omega)]
     by_cases hy : 0 < y
     ·rw [if_pos hy]; simp only [usA]; rw [if_neg (by omega)]; omega
     ·rw [if_neg hy]; simp only [usA]; omega
   ·simp only [Fl.outE, a2 k, usL, usR_app]
    have hf : ¬ (edP l x).f = 1 + (l.length : Int) + (k : Int) := by unfold edP; simp only; omega
    rw [if_neg hf]
    by_cases ht : x.2 = k
    ·rw [if_pos (show (edP l x).t = 1 + (l.length : Int) + (k : Int) by unfold edP; simp only; omega)]
     by_cases hy : 0 < y
     ·rw [if_pos hy]; simp only [usR]; rw [if_pos (by omega)]; omega
     ·rw [if_neg hy]; simp only [usR]; omega
    ·rw [if_neg (show ¬ (edP l x).t = 1 + (l.length : Int) + (k : Int) by unfold edP; simp only; omega)]
     by_cases hy : 0 < y
     ·rw [if_pos hy]; simp only [usR]; rw [if_neg (by omega)]; omega
     ·rw [if_neg hy]; simp only [usR]; omega
   ·simp only [Fl.outE, a3]
    rw [if_neg (show ¬ (edP l x).f = 0 by unfold edP; simp only; omega), if_neg (show ¬ (edP l x).t = 0 by unfold edP; simp only; omega)]
    omega
theorem net1_out {p : Pg} {l : List At} {xs : List Int} {n : Nat} (h : xs.length = n) : (∀ i : Nat, i < n → Fl.outE (net1 p l n) xs (1 + (i : Int)) = -xs.getD i 0) ∧ (∀ v : Int, 1 + (n : Int) ≤ v → Fl.outE (net1 p l n) xs v = 0) ∧ Fl.outE (net1 p l n) xs 0 = sumN n (fun i => xs.getD i 0) := by
 unfold net1
 refine ⟨fun i hi => ?_, fun v hv => ?_, ?_⟩
 ·rw [outE_range _ _ _ _ h, sumN_congr (g := fun j => if j = i then -xs.getD i 0 else 0) (fun j hj => ?_), sumN_one hi]
  unfold edA
  simp only
  rw [if_neg (by omega)]
  by_cases e : j = i
  ·subst e; rw [if_pos rfl, if_pos rfl]; omega
  ·rw [if_neg (by omega), if_neg e]; rfl
 ·rw [outE_range _ _ _ _ h, sumN_congr (g := fun _ => 0) (fun j hj => ?_), sumN_zero]
  unfold edA
  simp only
  rw [if_neg (by omega), if_neg (by omega)]; rfl
 ·rw [outE_range _ _ _ _ h]
  refine sumN_congr (fun j hj => ?_)
  unfold edA
  simp only
  rw [if_pos trivial, if_neg (by omega)]; omega
theorem net3_out {p : Pg} {l : List At} {xs : List Int} (h : xs.length = p.reqs.length) : (∀ k : Nat, k < p.reqs.length → Fl.outE (net3 p l p.reqs.length) xs (1 + (l.length : Int) + (k : Int)) = xs.getD k 0) ∧ (∀ v : Int, v < 1 + (l.length : Int) → Fl.outE (net3 p l p.reqs.length) xs v = 0) := by
 unfold net3
 refine ⟨fun i hi => ?_, fun v hv => ?_⟩
 ·rw [outE_range _ _ _ _ h, sumN_congr (g := fun j => if j = i then xs.getD i 0 else 0) (fun j hj => ?_), sumN_one hi]
  unfold edR
  simp only
  rw [if_neg (show ¬ (1 + (l.length : Int) + (p.reqs.length : Int) = 1 + (l.length : Int) + (i : Int)) by omega)]
  by_cases e : j = i
  ·subst e; rw [if_pos rfl, if_pos rfl]; omega
  ·rw [if_neg (by omega), if_neg e]; rfl
 ·rw [outE_range _ _ _ _ h, sumN_congr (g := fun _ => 0) (fun j hj => ?_), sumN_zero]
  unfold edR
  simp only
  rw [if_neg (by omega), if_neg (by omega)]; rfl
theorem row_cut (p : Pg) (l : List At) (c : Int → Bool) (i : Nat) : ∀ n : Nat, Fl.cutE (net2 l ((eligTo p (l.getD i default) n).map fun k => (i, k))) c =
 if c (1 + (i : Int)) then sumN n (fun k => if c (1 + (l.length : Int) + (k : Int)) then 0 else (if elig (p.reqs.getD k default) (l.getD i default) then (l.getD i default).credits else 0)) else 0
 | 0 => by simp [eligTo, net2, Fl.cutE, sumN]
 | n + 1 => by
   have ih := row_cut p l c i n
   rw [eligTo_snoc]
   by_cases he : elig (p.reqs.getD n default) (l.getD i default) = true
   ·rw [if_pos he]
    unfold net2 at ih ⊢
    rw [List.map_append, List.map_append, cutE_app, ih]
    simp only [List.map_cons, List.map_nil, Fl.cutE, edP, sumN]
    rw [if_pos he]
    cases c (1 + (i : Int)) <;> cases c (1 + (l.length : Int) + (n : Int)) <;> simp
   ·rw [if_neg he, ih]
    simp only [sumN]
    rw [if_neg he]
    cases c (1 + (i : Int)) <;> simp
theorem pairs_cut (p : Pg) (l : List At) (c : Int → Bool) : ∀ n : Nat, Fl.cutE (net2 l (pairsTo p l n)) c =
 sumN n (fun i => if c (1 + (i : Int)) then sumN p.reqs.length (fun k => if c (1 + (l.length : Int) + (k : Int)) then 0 else (if elig (p.reqs.getD k default) (l.getD i default) then (l.getD i default).credits else 0)) else 0)
 | 0 => by simp [pairsTo, net2, Fl.cutE, sumN]
 | n + 1 => by
   have ih := pairs_cut p l c n
   unfold pairsTo at ih ⊢
   rw [flat_range]
   have h2 := row_cut p l c n p.reqs.length
   unfold net2 at ih h2 ⊢
   rw [List.map_append, cutE_app, ih]
   simp only [sumN]
   congr 1
theorem net_cut {p : Pg} {l : List At} {cs : List Bool} {c : Int → Bool} (h0 : c 0 = true) (h1 : c (1 + (l.length : Int) + (p.reqs.length : Int)) = false) (hc : ∀ i : Nat, i < 2 + l.length + p.reqs.length → cs[i]? = some (c i)) :
 Fl.cutE (netL p l) c = sumL (accL p l cs) := by
 have sA : ∀ i : Nat, i < l.length → sideA cs i = c (1 + (i : Int)) := fun i hi => by
  unfold sideA
  rw [List.getD_eq_getElem?_getD, hc (1 + i) (by omega)]
  simp
 have sR : ∀ k : Nat, k < p.reqs.length → sideR l cs k = c (1 + (l.length : Int) + (k : Int)) := fun k hk => by
  unfold sideR
  rw [List.getD_eq_getElem?_getD, hc (1 + l.length + k) (by omega)]
  simp
 unfold netL
 rw [acc_sum, cutE_app, cutE_app]
 unfold pairsL
 rw [pairs_cut]
 unfold net1 net3
 rw [cutE_range, cutE_range, ← sumN_add]
 congr 1
 ·refine sumN_congr (fun i hi => ?_)
  unfold edA
  simp only
  rw [h0, sA i hi]
  cases hci : c (1 + (i : Int))
  ·simp
  ·simp
   refine sumN_congr (fun k hk => ?_)
   rw [sR k hk]
 ·refine sumN_congr (fun k hk => ?_)
  unfold edR
  simp only
  rw [h1, sR k hk]
  simp
theorem audit_law {p : Pg} {l : List At} {xs : List Int} {c : Int → Bool} {cs : List Bool} (h0 : askedE p l = 0) (hin : Fl.InN (2 + l.length + p.reqs.length) (netL p l))
 (hM : Fl.MaxR (2 + l.length + p.reqs.length) (netL p l) 0 (1 + (l.length : Int) + (p.reqs.length : Int)) xs c) (hcl : cs.length = 2 + l.length + p.reqs.length) (hc : ∀ i : Nat, i < 2 + l.length + p.reqs.length → cs[i]? = some (c i)) :
 UOk p l (usL (pairsL p l) (xs.drop l.length)) ∧ auditE p l (usL (pairsL p l) (xs.drop l.length)) (totR p.reqs - usT (usL (pairsL p l) (xs.drop l.length))) cs = 0 := by
 obtain ⟨hg, hga⟩ := asked_zero h0
 have hd := hM.dual hin (by omega) (by omega)
 obtain ⟨⟨hb, hcons⟩, ⟨hc0, hc1⟩, _, _⟩ := hM
 rw [net_cut hc0 hc1 hc] at hd
 have hxl := bd_len _ _ hb
 obtain ⟨P, hP⟩ : ∃ P, P = (pairsL p l).length := ⟨_, rfl⟩
 have hn1 : (net1 p l l.length).length = l.length := by simp [net1]
 have hn2 : (net2 l (pairsL p l)).length = P := by simp [net2, hP]
 have hn3 : (net3 p l p.reqs.length).length = p.reqs.length := by simp [net3]
 have hlen : xs.length = l.length + P + p.reqs.length := by rw [hxl]; unfold netL; simp [hn1, hn2, hn3]; omega
 obtain ⟨xA, xP, xR, hxs, hA, hPl, hR⟩ : ∃ xA xP xR, xs = (xA ++ xP) ++ xR ∧ xA.length = l.length ∧ xP.length = P ∧ xR.length = p.reqs.length := by
  refine ⟨xs.take l.length, (xs.drop l.length).take P, (xs.drop l.length).drop P, ?_, by simp; omega, by simp; omega, by simp; omega⟩
  rw [List.append_assoc, List.take_append_drop, List.take_append_drop]
 have hdr : xs.drop l.length = xP ++ xR := by rw [hxs, List.append_assoc, List.drop_left' hA]
 have hus : usL (pairsL p l) (xs.drop l.length) = usL (pairsL p l) xP := by
  rw [hdr]
  have : ∀ (ps : List (Nat × Nat)) (a b : List Int), a.length = ps.length → usL ps (a ++ b) = usL ps a := by
   intro ps
   induction ps with
   | nil => intro a b h; have : a = [] := List.length_eq_zero_iff.1 h; subst this; simp [usL]
   | cons x ps ih =>
     intro a b h
     cases a with
     | nil => simp at h
     | cons y a => simp only [List.cons_append, usL, ih a b (by simpa using h)]
  exact this _ _ _ (by rw [hPl, hP])
 rw [hus]
 obtain ⟨us, hU⟩ : ∃ us, us = usL (pairsL p l) xP := ⟨_, rfl⟩
 unfold netL at hb
 rw [hxs] at hb
 obtain ⟨hb1, hb3⟩ := bd_app _ _ _ _ (by rw [List.length_append, List.length_append, hA, hPl, hn1, hn2]) hb
 obtain ⟨hb1, hb2⟩ := bd_app _ _ _ _ (by rw [hA, hn1]) hb1
 have hsplit : ∀ v, Fl.outE (netL p l) xs v = Fl.outE (net1 p l l.length) xA v + Fl.outE (net2 l (pairsL p l)) xP v + Fl.outE (net3 p l p.reqs.length) xR v := fun v => by
  unfold netL
  rw [hxs, outE_app _ _ _ _ _ (by rw [List.length_append, List.length_append, hA, hPl, hn1, hn2]), outE_app _ _ _ _ _ (by rw [hA, hn1])]
 obtain ⟨o1, o2, o3⟩ := net1_out (p := p) (l := l) hA
 obtain ⟨p1, p2, p3⟩ := pr_out (pairsL p l) xP (fun x hx => pairs_mem hx) hb2
 obtain ⟨r1, r2⟩ := net3_out (p := p) (l := l) hR
 have bA := bd_range (edA p l) l.length xA hA hb1
 have bR := bd_range (edR p l) p.reqs.length xR hR hb3
 rw [← hU] at p1 p2
 have cA : ∀ i : Nat, i < l.length → usA i us = xA.getD i 0 := fun i hi => by
  have h := hcons (1 + (i : Int)) (by omega) (by omega) (by omega) (by omega)
  rw [hsplit, o1 i hi, p1 i hi, r2 _ (by omega)] at h
  omega
 have cR : ∀ k : Nat, k < p.reqs.length → usR k us = xR.getD k 0 := fun k hk => by
  have h := hcons (1 + (l.length : Int) + (k : Int)) (by omega) (by omega) (by omega) (by omega)
  rw [hsplit, o2 _ (by omega), p2 k, r1 k hk] at h
  omega
 have hone : ∀ u ∈ us, (0 ≤ u.att ∧ u.att < (l.length : Int)) ∧ (0 ≤ u.req ∧ u.req < (p.reqs.length : Int)) ∧ (1 ≤ u.credits ∧ u.credits ≤ (l.getD u.att.toNat default).credits) ∧ elig (p.reqs.getD u.req.toNat default) (l.getD u.att.toNat default) = true := fun u hu => by
  rw [hU] at hu
  obtain ⟨x, hx, e1, e2, e3, e4⟩ := usL_mem _ _ hb2 u hu
  obtain ⟨b1, b2⟩ := pairs_mem hx
  rw [e1, e2, Int.toNat_natCast, Int.toNat_natCast]
  exact ⟨by omega, by omega, ⟨e3, e4⟩, pairs_elig hx⟩
 have hUO : UOk p l us := by
  refine ⟨hone, by rw [hU]; exact usL_sorted _ _ hb2 (pairs_sorted p l _), fun u hu => ?_, fun u hu => ?_⟩
  ·obtain ⟨⟨b1, b2⟩, _⟩ := hone u hu
   obtain ⟨i, hi⟩ : ∃ i : Nat, u.att = i := ⟨u.att.toNat, by omega⟩
   rw [hi, Int.toNat_natCast, cA i (by omega)]
   exact (bA i (by omega)).2
  ·obtain ⟨_, ⟨b1, b2⟩, _⟩ := hone u hu
   obtain ⟨k, hk⟩ : ∃ k : Nat, u.req = k := ⟨u.req.toNat, by omega⟩
   rw [hk, Int.toNat_natCast, cR k (by omega)]
   exact (bR k (by omega)).2
 rw [← hU]
 refine ⟨hUO, ?_⟩
 have hok := okAgo_of hUO us [] rfl
 have hal : allowP p l us = 0 := by unfold allowP; rw [if_pos h0, if_pos hok]
 have hval : sumL (accL p l cs) = usT us := by
  rw [← hd, hsplit, o3, p3, r2 0 (by omega)]
  rw [sumN_congr (g := fun i => usA i us) (fun i hi => (cA i hi).symm), usA_total (m := l.length) (fun v hv => (hone v hv).1)]
  omega
 have hnn := miss_nonneg hal
 have hcut : okCut p l cs = true := by
  unfold okCut
  rw [hcl, List.getD_eq_getElem?_getD, hc 0 (by omega), List.getD_eq_getElem?_getD, hc (1 + l.length + p.reqs.length) (by omega)]
  simp only [Option.getD_some]
  rw [show ((0 : Nat) : Int) = 0 from rfl, hc0, show ((1 + l.length + p.reqs.length : Nat) : Int) = 1 + (l.length : Int) + (p.reqs.length : Int) by omega, hc1]
  simp
 unfold auditE boundP
 rw [if_pos hal, if_pos rfl, if_pos h0, if_pos hcut, if_pos rfl, if_pos (by rw [hval]; simp only; omega)]
end Go.Proofs.YtalmbigebjbaoaaGreatDoor
