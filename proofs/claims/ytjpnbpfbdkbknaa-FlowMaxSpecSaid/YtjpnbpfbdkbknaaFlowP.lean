/- Flows and cuts: plain laws, no program. -/
namespace Go.Proofs.Ytjpnbpfbdkbknaa
set_option linter.unusedSimpArgs false
set_option linter.unusedVariables false

structure Ed where
  f : Int
  t : Int
  m : Int
  deriving DecidableEq, Inhabited

/-- what goes out of a node, less what comes in -/
def outE : List Ed → List Int → Int → Int
  | e :: l, x :: xs, v => (if e.f = v then x else 0) - (if e.t = v then x else 0) + outE l xs v
  | _, _, _ => 0
/-- what crosses the border of a set -/
def acrE : List Ed → List Int → (Int → Bool) → Int
  | e :: l, x :: xs, c => (if c e.f then x else 0) - (if c e.t then x else 0) + acrE l xs c
  | _, _, _ => 0
/-- the capacity of a cut -/
def cutE : List Ed → (Int → Bool) → Int
  | e :: l, c => (if c e.f && !c e.t then e.m else 0) + cutE l c
  | [], _ => 0
def sumTo (g : Int → Int) : Nat → Int
  | 0 => 0
  | n + 1 => sumTo g n + g n
/-- within the capacities -/
def Bd : List Ed → List Int → Prop
  | [], [] => True
  | e :: l, x :: xs => 0 ≤ x ∧ x ≤ e.m ∧ Bd l xs
  | _, _ => False
/-- edges between nodes under n -/
def InN (n : Nat) (l : List Ed) : Prop := ∀ e ∈ l, 0 ≤ e.f ∧ e.f < n ∧ 0 ≤ e.t ∧ e.t < n
def IsFl (n : Nat) (l : List Ed) (a b : Int) (xs : List Int) : Prop :=
  Bd l xs ∧ ∀ v : Int, 0 ≤ v → v < n → v ≠ a → v ≠ b → outE l xs v = 0
/-- no more can leave the set -/
def Shut : List Ed → List Int → (Int → Bool) → Prop
  | e :: l, x :: xs, c => (c e.f = true → c e.t = false → x = e.m) ∧ (c e.t = true → c e.f = false → x = 0) ∧ Shut l xs c
  | _, _, _ => True

theorem sumTo_add (g h : Int → Int) : ∀ n, sumTo (fun v => g v + h v) n = sumTo g n + sumTo h n
  | 0 => rfl
  | n + 1 => by simp only [sumTo, sumTo_add g h n]; omega
theorem sumTo_congr {g h : Int → Int} : ∀ n : Nat, (∀ v : Int, 0 ≤ v → v < (n : Int) → g v = h v) → sumTo g n = sumTo h n
  | 0, _ => rfl
  | n + 1, H => by
    simp only [sumTo]
    rw [sumTo_congr n (fun v h0 h1 => H v h0 (by omega)), H n (by omega) (by omega)]
theorem sumTo_zero : ∀ n, sumTo (fun _ => 0) n = 0
  | 0 => rfl
  | n + 1 => by simp [sumTo, sumTo_zero n]
theorem sumTo_at (a x : Int) (h0 : 0 ≤ a) : ∀ n : Nat, sumTo (fun v => if a = v then x else 0) n = if a < n then x else 0
  | 0 => by simp [sumTo]; omega
  | n + 1 => by
    simp only [sumTo, sumTo_at a x h0 n]
    by_cases h : a = (n : Int)
    · rw [if_neg (by omega), if_pos h, if_pos (by omega)]; omega
    · rw [if_neg h]
      by_cases h2 : a < (n : Int)
      · rw [if_pos h2, if_pos (by omega)]; omega
      · rw [if_neg h2, if_neg (by omega)]; rfl
theorem sumTo_pick (c : Int → Bool) (a x : Int) (n : Nat) (h0 : 0 ≤ a) (h1 : a < n) : sumTo (fun v => if c v then (if a = v then x else 0) else 0) n = if c a then x else 0 := by
  rw [sumTo_congr n (h := fun v => if a = v then (if c a then x else 0) else 0) (fun v _ _ => by
    by_cases h : a = v
    · subst h; simp
    · simp [h])]
  rw [sumTo_at _ _ h0, if_pos h1]
theorem acr_sum (n : Nat) (c : Int → Bool) : ∀ (l : List Ed) (xs : List Int), InN n l → acrE l xs c = sumTo (fun v => if c v then outE l xs v else 0) n
  | [], xs, _ => by
    simp only [acrE, outE]
    rw [sumTo_congr n (h := fun _ => 0) (fun v _ _ => by simp), sumTo_zero]
  | e :: l, [], _ => by
    simp only [acrE, outE]
    rw [sumTo_congr n (h := fun _ => 0) (fun v _ _ => by simp), sumTo_zero]
  | e :: l, x :: xs, h => by
    obtain ⟨h1, h2, h3, h4⟩ := h e (List.mem_cons_self ..)
    simp only [acrE, outE]
    rw [acr_sum n c l xs (fun e' he => h e' (List.mem_cons_of_mem _ he))]
    rw [sumTo_congr n (g := fun v => if c v then (if e.f = v then x else 0) - (if e.t = v then x else 0) + outE l xs v else 0)
      (h := fun v => ((if c v then (if e.f = v then x else 0) else 0) + (if c v then (if e.t = v then -x else 0) else 0)) + (if c v then outE l xs v else 0)) (fun v _ _ => by
        by_cases hc : c v
        · simp only [hc, if_true]; split <;> split <;> omega
        · simp [hc])]
    rw [sumTo_add, sumTo_add, sumTo_pick c _ _ n h1 h2, sumTo_pick c _ _ n h3 h4]
    split <;> split <;> omega
theorem acr_out {n : Nat} {l : List Ed} {a b : Int} {xs : List Int} {c : Int → Bool} (hn : InN n l) (h : IsFl n l a b xs) (ha0 : 0 ≤ a) (ha : a < n) (hb : c b = false) (hc : c a = true) : acrE l xs c = outE l xs a := by
  rw [acr_sum n c l xs hn, sumTo_congr n (h := fun v => if a = v then outE l xs a else 0) (fun v h0 h1 => by
    by_cases e : a = v
    · subst e; simp [hc]
    · rw [if_neg e]
      by_cases e2 : v = b
      · subst e2; simp [hb]
      · rw [h.2 v h0 h1 (Ne.symm e) e2]; simp), sumTo_at _ _ ha0, if_pos ha]
theorem acr_le (c : Int → Bool) : ∀ (l : List Ed) (xs : List Int), Bd l xs → acrE l xs c ≤ cutE l c
  | [], [], _ => by simp [acrE, cutE]
  | e :: l, x :: xs, ⟨h0, h1, h2⟩ => by
    have := acr_le c l xs h2
    simp only [acrE, cutE]
    cases c e.f <;> cases c e.t <;> simp <;> omega
theorem acr_shut (c : Int → Bool) : ∀ (l : List Ed) (xs : List Int), Bd l xs → Shut l xs c → acrE l xs c = cutE l c
  | [], [], _, _ => by simp [acrE, cutE]
  | e :: l, x :: xs, ⟨h0, h1, h2⟩, ⟨h3, h4, h5⟩ => by
    have := acr_shut c l xs h2 h5
    simp only [acrE, cutE]
    cases hf : c e.f <;> cases ht : c e.t <;> simp [hf, ht] at h3 h4 ⊢ <;> omega
theorem shut_acr (c : Int → Bool) : ∀ (l : List Ed) (xs : List Int), Bd l xs → acrE l xs c = cutE l c → Shut l xs c
  | [], [], _, _ => trivial
  | e :: l, x :: xs, ⟨h0, h1, h2⟩, h => by
    have hle := acr_le c l xs h2
    simp only [acrE, cutE] at h
    have key : ((c e.f = true → c e.t = false → x = e.m) ∧ (c e.t = true → c e.f = false → x = 0)) ∧ acrE l xs c = cutE l c := by
      cases hf : c e.f <;> cases ht : c e.t <;> simp [hf, ht] at h ⊢ <;> omega
    exact ⟨key.1.1, key.1.2, shut_acr c l xs h2 key.2⟩

/-- a cut between two nodes -/
def IsCut (a b : Int) (c : Int → Bool) : Prop := c a = true ∧ c b = false
/-- what Max returns: a flow, and the least set that it does not leave -/
def MaxR (n : Nat) (l : List Ed) (a b : Int) (xs : List Int) (c : Int → Bool) : Prop :=
  IsFl n l a b xs ∧ IsCut a b c ∧ Shut l xs c ∧ ∀ d : Int → Bool, d a = true → Shut l xs d → ∀ v : Int, 0 ≤ v → v < n → c v = true → d v = true

section
variable {n : Nat} {l : List Ed} {a b : Int} {xs ys : List Int} {c d : Int → Bool}
theorem weakE (hn : InN n l) (ha0 : 0 ≤ a) (ha : a < n) (h : IsFl n l a b xs) (hc : IsCut a b c) : outE l xs a ≤ cutE l c := by
  rw [← acr_out hn h ha0 ha hc.2 hc.1]
  exact acr_le c l xs h.1
theorem MaxR.dual (hn : InN n l) (ha0 : 0 ≤ a) (ha : a < n) (h : MaxR n l a b xs c) : outE l xs a = cutE l c := by
  rw [← acr_out hn h.1 ha0 ha h.2.1.2 h.2.1.1]
  exact acr_shut c l xs h.1.1 h.2.2.1
theorem MaxR.min (hn : InN n l) (ha0 : 0 ≤ a) (ha : a < n) (h : MaxR n l a b xs c) (hd : IsCut a b d) : cutE l c ≤ cutE l d := by
  rw [← h.dual hn ha0 ha]
  exact weakE hn ha0 ha h.1 hd
theorem MaxR.least (hn : InN n l) (ha0 : 0 ≤ a) (ha : a < n) (h : MaxR n l a b xs c) (hd : IsCut a b d) (he : cutE l d ≤ cutE l c) : ∀ v : Int, 0 ≤ v → v < n → c v = true → d v = true := by
  refine h.2.2.2 d hd.1 (shut_acr d l xs h.1.1 ?_)
  have e1 := acr_out hn h.1 ha0 ha hd.2 hd.1
  have e2 := h.dual hn ha0 ha
  have e3 := acr_le d l xs h.1.1
  omega
theorem MaxR.same (hn : InN n l) (ha0 : 0 ≤ a) (ha : a < n) (h : MaxR n l a b xs c) (k : MaxR n l a b ys d) : (∀ v : Int, 0 ≤ v → v < n → c v = d v) ∧ outE l xs a = outE l ys a := by
  have h1 := h.min hn ha0 ha k.2.1
  have h2 := k.min hn ha0 ha h.2.1
  refine ⟨fun v h0 hv => ?_, by rw [h.dual hn ha0 ha, k.dual hn ha0 ha]; omega⟩
  have e1 := h.least hn ha0 ha k.2.1 (by omega) v h0 hv
  have e2 := k.least hn ha0 ha h.2.1 (by omega) v h0 hv
  cases hc : c v <;> cases hd : d v <;> simp_all
/-- capacities scaled -/
def scaleE (k : Int) (l : List Ed) : List Ed := l.map fun e => ⟨e.f, e.t, e.m * k⟩
theorem cut_scale (k : Int) (c : Int → Bool) : ∀ l, cutE (scaleE k l) c = cutE l c * k
  | [] => by simp [cutE, scaleE]
  | e :: l => by
    have := cut_scale k c l
    simp only [scaleE, List.map_cons, cutE] at this ⊢
    rw [this, Int.add_mul]
    split <;> simp
theorem inn_scale {k : Int} (h : InN n l) : InN n (scaleE k l) := by
  intro e he
  obtain ⟨e', he', rfl⟩ := List.mem_map.1 he
  exact h e' he'
theorem MaxR.scale {k : Int} (hk : 0 < k) (hn : InN n l) (ha0 : 0 ≤ a) (ha : a < n) (h : MaxR n l a b xs c) (g : MaxR n (scaleE k l) a b ys d) :
    (∀ v : Int, 0 ≤ v → v < n → c v = d v) ∧ outE (scaleE k l) ys a = outE l xs a * k := by
  have h1 := h.min hn ha0 ha g.2.1
  have h2 := g.min (inn_scale hn) ha0 ha h.2.1
  rw [cut_scale, cut_scale] at h2
  have h3 : cutE l d ≤ cutE l c := Int.le_of_mul_le_mul_right h2 hk
  have h4 : cutE l c = cutE l d := by omega
  refine ⟨fun v h0 hv => ?_, by rw [h.dual hn ha0 ha, g.dual (inn_scale hn) ha0 ha, cut_scale, h4]⟩
  have e1 := h.least hn ha0 ha g.2.1 h3 v h0 hv
  have e2 := g.least (inn_scale hn) ha0 ha h.2.1 (by rw [cut_scale, cut_scale, h4]; omega) v h0 hv
  cases hc : c v <;> cases hd : d v <;> simp_all
/-- edges turned round -/
def turnE (l : List Ed) : List Ed := l.map fun e => ⟨e.t, e.f, e.m⟩
theorem cut_turn (c : Int → Bool) : ∀ l, cutE (turnE l) (fun v => !c v) = cutE l c
  | [] => by simp [cutE, turnE]
  | e :: l => by
    have := cut_turn c l
    simp only [turnE, List.map_cons, cutE] at this ⊢
    rw [this]
    cases c e.f <;> cases c e.t <;> simp
theorem turn_turn (l : List Ed) : turnE (turnE l) = l := by simp [turnE, Function.comp_def]
theorem inn_turn (h : InN n l) : InN n (turnE l) := by
  intro e he
  obtain ⟨e', he', rfl⟩ := List.mem_map.1 he
  obtain ⟨h1, h2, h3, h4⟩ := h e' he'
  exact ⟨h3, h4, h1, h2⟩
theorem MaxR.turn (hn : InN n l) (ha0 : 0 ≤ a) (ha : a < n) (hb0 : 0 ≤ b) (hb : b < n) (h : MaxR n l a b xs c) (g : MaxR n (turnE l) b a ys d) : outE (turnE l) ys b = outE l xs a := by
  have h1 := h.min hn ha0 ha (d := fun v => !d v) ⟨by simp [g.2.1.2], by simp [g.2.1.1]⟩
  have h2 := g.min (inn_turn hn) hb0 hb (d := fun v => !c v) ⟨by simp [h.2.1.2], by simp [h.2.1.1]⟩
  rw [cut_turn] at h2
  have h3 := cut_turn d (turnE l)
  rw [turn_turn] at h3
  rw [h.dual hn ha0 ha, g.dual (inn_turn hn) hb0 hb]
  omega
theorem cut_snoc (y : Ed) (c : Int → Bool) : ∀ l, cutE (l ++ [y]) c = cutE l c + (if c y.f && !c y.t then y.m else 0)
  | [] => by simp [cutE]
  | e :: l => by
    have := cut_snoc y c l
    simp only [List.cons_append, cutE, this]
    omega
theorem MaxR.more {y : Ed} (hy : 0 ≤ y.m) (hn : InN n (l ++ [y])) (ha0 : 0 ≤ a) (ha : a < n) (h : MaxR n l a b xs c) (g : MaxR n (l ++ [y]) a b ys d) :
    outE l xs a ≤ outE (l ++ [y]) ys a ∧ outE (l ++ [y]) ys a ≤ outE l xs a + y.m := by
  have hl : InN n l := fun e he => hn e (by simp [he])
  have h1 := h.min hl ha0 ha g.2.1
  have h2 := g.min hn ha0 ha h.2.1
  rw [h.dual hl ha0 ha, g.dual hn ha0 ha]
  rw [cut_snoc, cut_snoc] at h2
  rw [cut_snoc]
  constructor
  · split <;> omega
  · have : (if c y.f && !c y.t then y.m else 0) ≤ y.m := by split <;> omega
    omega
end

/-- residual edges: 2i is the edge i, 2i + 1 the same edge the other way -/
def startR (l : List Ed) (r : Nat) : Int := if r % 2 = 0 then (l.getD (r / 2) default).f else (l.getD (r / 2) default).t
def endR (l : List Ed) (r : Nat) : Int := if r % 2 = 0 then (l.getD (r / 2) default).t else (l.getD (r / 2) default).f
def capR (l : List Ed) (xs : List Int) (r : Nat) : Int := if r % 2 = 0 then (l.getD (r / 2) default).m - xs.getD (r / 2) 0 else xs.getD (r / 2) 0
def pushR (xs : List Int) (k : Int) (r : Nat) : List Int := xs.set (r / 2) (xs.getD (r / 2) 0 + if r % 2 = 0 then k else -k)
def pushAll (xs : List Int) (k : Int) (rs : List Nat) : List Int := rs.foldl (fun xs r => pushR xs k r) xs
theorem pushR_len (xs : List Int) (k : Int) (r : Nat) : (pushR xs k r).length = xs.length := by simp [pushR]
theorem pushAll_len (k : Int) : ∀ (rs : List Nat) (xs : List Int), (pushAll xs k rs).length = xs.length
  | [], xs => rfl
  | r :: rs, xs => by
    have := pushAll_len k rs (pushR xs k r)
    rw [pushR_len] at this
    exact this
theorem out_set (v : Int) : ∀ (l : List Ed) (xs : List Int) (i : Nat) (z : Int), xs.length = l.length → i < l.length →
    outE l (xs.set i (xs.getD i 0 + z)) v = outE l xs v + ((if (l.getD i default).f = v then z else 0) - (if (l.getD i default).t = v then z else 0))
  | e :: l, x :: xs, 0, z, _, _ => by
    simp only [List.set_cons_zero, outE, List.getD_cons_zero]
    split <;> split <;> omega
  | e :: l, x :: xs, i + 1, z, hl, hi => by
    have := out_set v l xs i z (by simpa using hl) (by simpa using hi)
    simp only [List.set_cons_succ, outE, List.getD_cons_succ, this]
    omega
  | [], _, _, _, _, hi => by simp at hi
  | _ :: _, [], _, _, hl, _ => by simp at hl
theorem out_push {l : List Ed} {xs : List Int} {k : Int} {r : Nat} (v : Int) (hl : xs.length = l.length) (hr : r < 2 * l.length) :
    outE l (pushR xs k r) v = outE l xs v + ((if startR l r = v then k else 0) - (if endR l r = v then k else 0)) := by
  unfold pushR startR endR
  rw [out_set v l xs (r / 2) _ hl (by omega)]
  rcases Nat.mod_two_eq_zero_or_one r with h | h
  · simp only [h, if_true]
  · simp only [h]
    simp
    split <;> split <;> omega
/-- a way back from v to the source -/
def Way (l : List Ed) (a : Int) : Int → List Nat → Prop
  | v, [] => v = a
  | v, r :: rs => r < 2 * l.length ∧ endR l r = v ∧ Way l a (startR l r) rs
theorem out_pushAll {l : List Ed} {k : Int} {a : Int} (u : Int) : ∀ (rs : List Nat) (v : Int) (xs : List Int), xs.length = l.length → Way l a v rs →
    outE l (pushAll xs k rs) u = outE l xs u + ((if a = u then k else 0) - (if v = u then k else 0))
  | [], v, xs, hl, h => by
    have h : v = a := h
    subst h
    simp only [pushAll, List.foldl_nil]
    omega
  | r :: rs, v, xs, hl, ⟨h1, h2, h3⟩ => by
    have := out_pushAll (k := k) u rs _ (pushR xs k r) (by rw [pushR_len, hl]) h3
    have e : pushAll xs k (r :: rs) = pushAll (pushR xs k r) k rs := rfl
    rw [e, this, out_push u hl h1, h2]
    omega
theorem getD_set (xs : List Int) (i j : Nat) (z : Int) (hi : i < xs.length) : (xs.set i z).getD j 0 = if i = j then z else xs.getD j 0 := by
  simp only [List.getD_eq_getElem?_getD, List.getElem?_set]
  split
  · rename_i h; subst h; simp [hi]
  · rfl
theorem push_at {k : Int} (i : Nat) : ∀ (rs : List Nat) (xs : List Int), (∀ r ∈ rs, r < 2 * xs.length) →
    (pushAll xs k rs).getD i 0 = xs.getD i 0 + k * (rs.count (2 * i) : Nat) - k * (rs.count (2 * i + 1) : Nat)
  | [], xs, _ => by simp [pushAll]
  | r :: rs, xs, h => by
    have hr := h r (List.mem_cons_self ..)
    have e : pushAll xs k (r :: rs) = pushAll (pushR xs k r) k rs := rfl
    rw [e, push_at i rs (pushR xs k r) (fun q hq => by rw [pushR_len]; exact h q (List.mem_cons_of_mem _ hq))]
    unfold pushR
    rw [getD_set _ _ _ _ (by omega)]
    simp only [List.count_cons]
    by_cases h1 : r / 2 = i
    · subst h1
      rw [if_pos rfl]
      rcases Nat.mod_two_eq_zero_or_one r with h2 | h2
      · have a1 : (r == 2 * (r / 2)) = true := by simp; omega
        have a2 : (r == 2 * (r / 2) + 1) = false := by simp; omega
        simp only [a1, a2, h2, if_true, if_false, Bool.false_eq_true, Nat.add_zero, Int.natCast_add, Int.mul_add]
        simp
        omega
      · have a1 : (r == 2 * (r / 2)) = false := by simp; omega
        have a2 : (r == 2 * (r / 2) + 1) = true := by simp; omega
        simp only [a1, a2, h2, if_true, if_false, Bool.false_eq_true, Nat.add_zero, Int.natCast_add, Int.mul_add]
        simp
        omega
    · have a1 : (r == 2 * i) = false := by simp; omega
      have a2 : (r == 2 * i + 1) = false := by simp; omega
      rw [if_neg h1]
      simp [a1, a2]
theorem bd_iff : ∀ (l : List Ed) (xs : List Int), Bd l xs ↔ xs.length = l.length ∧ ∀ i, i < l.length → 0 ≤ xs.getD i 0 ∧ xs.getD i 0 ≤ (l.getD i default).m
  | [], [] => by simp [Bd]
  | [], x :: xs => by simp [Bd]
  | e :: l, [] => by simp [Bd]
  | e :: l, x :: xs => by
    simp only [Bd, bd_iff l xs, List.length_cons]
    constructor
    · rintro ⟨h0, h1, h2, h3⟩
      refine ⟨by omega, fun i hi => ?_⟩
      cases i with
      | zero => exact ⟨h0, h1⟩
      | succ i => exact h3 i (by omega)
    · rintro ⟨h2, h3⟩
      exact ⟨(h3 0 (by omega)).1, (h3 0 (by omega)).2, by omega, fun i hi => h3 (i + 1) (by omega)⟩
theorem shut_iff (c : Int → Bool) : ∀ (l : List Ed) (xs : List Int), xs.length = l.length → (Shut l xs c ↔ ∀ i, i < l.length → (c (l.getD i default).f = true → c (l.getD i default).t = false → xs.getD i 0 = (l.getD i default).m) ∧ (c (l.getD i default).t = true → c (l.getD i default).f = false → xs.getD i 0 = 0))
  | [], xs, _ => by cases xs <;> simp [Shut]
  | e :: l, [], h => by simp at h
  | e :: l, x :: xs, h => by
    simp only [Shut, shut_iff c l xs (by simpa using h), List.length_cons]
    constructor
    · rintro ⟨h0, h1, h3⟩
      intro i hi
      cases i with
      | zero => exact ⟨h0, h1⟩
      | succ i => exact h3 i (by omega)
    · intro h3
      exact ⟨(h3 0 (by omega)).1, (h3 0 (by omega)).2, fun i hi => h3 (i + 1) (by omega)⟩
/-- pushing part of a way whose edges differ keeps the bounds -/
theorem push_bd {l : List Ed} {xs : List Int} {k : Int} {rs : List Nat} (hk : 0 ≤ k) (h : Bd l xs) (hr : ∀ r ∈ rs, r < 2 * l.length ∧ k ≤ capR l xs r) (hd : rs.Nodup) : Bd l (pushAll xs k rs) := by
  rw [bd_iff] at h ⊢
  obtain ⟨h1, h2⟩ := h
  refine ⟨by rw [pushAll_len, h1], fun i hi => ?_⟩
  rw [push_at i rs xs (fun r hr' => by rw [h1]; exact (hr r hr').1)]
  obtain ⟨h3, h4⟩ := h2 i hi
  have c1 : rs.count (2 * i) ≤ 1 := List.nodup_iff_count.1 hd _
  have c2 : rs.count (2 * i + 1) ≤ 1 := List.nodup_iff_count.1 hd _
  have m1 : rs.count (2 * i) = 1 → k ≤ (l.getD i default).m - xs.getD i 0 := fun e => by
    have := (hr (2 * i) (List.count_pos_iff.1 (by omega))).2
    have e1 : 2 * i % 2 = 0 := by omega
    have e2 : 2 * i / 2 = i := by omega
    unfold capR at this
    rw [if_pos e1, e2] at this
    exact this
  have m2 : rs.count (2 * i + 1) = 1 → k ≤ xs.getD i 0 := fun e => by
    have := (hr (2 * i + 1) (List.count_pos_iff.1 (by omega))).2
    have e1 : (2 * i + 1) % 2 = 1 := by omega
    have e2 : (2 * i + 1) / 2 = i := by omega
    unfold capR at this
    rw [if_neg (by omega), e2] at this
    exact this
  generalize rs.count (2 * i) = p at *
  generalize rs.count (2 * i + 1) = q at *
  rcases Nat.le_one_iff_eq_zero_or_eq_one.1 c1 with rfl | rfl <;> rcases Nat.le_one_iff_eq_zero_or_eq_one.1 c2 with rfl | rfl <;> simp only [Nat.zero_ne_one, false_implies, true_implies, Int.natCast_zero, Int.natCast_one, Int.mul_zero, Int.mul_one] at m1 m2 ⊢ <;> omega
theorem way_mem {l : List Ed} {a : Int} : ∀ (rs : List Nat) (v : Int), Way l a v rs → ∀ r ∈ rs, r < 2 * l.length
  | r :: rs, v, ⟨h1, _, h3⟩, q, hq => by
    rcases List.mem_cons.1 hq with rfl | hq
    · exact h1
    · exact way_mem rs _ h3 q hq
/-- one more round of Max -/
theorem aug_fl {n : Nat} {l : List Ed} {a b : Int} {xs : List Int} {k : Int} {rs : List Nat} (hk : 0 ≤ k) (h : IsFl n l a b xs) (hw : Way l a b rs) (hc : ∀ r ∈ rs, k ≤ capR l xs r) (hd : rs.Nodup) (hab : a ≠ b) :
    IsFl n l a b (pushAll xs k rs) ∧ outE l (pushAll xs k rs) a = outE l xs a + k := by
  have hl : xs.length = l.length := ((bd_iff _ _).1 h.1).1
  refine ⟨⟨push_bd hk h.1 (fun r hr => ⟨way_mem _ _ hw r hr, hc r hr⟩) hd, fun v h0 h1 h2 h3 => ?_⟩, ?_⟩
  · rw [out_pushAll v rs b xs hl hw, h.2 v h0 h1 h2 h3, if_neg (Ne.symm h2), if_neg (Ne.symm h3)]
    omega
  · rw [out_pushAll a rs b xs hl hw, if_pos rfl, if_neg (Ne.symm hab)]
    omega
def sumM (l : List Ed) : Int := (l.map (·.m)).sum
theorem out_le (v : Int) : ∀ (l : List Ed) (xs : List Int), Bd l xs → -sumM l ≤ outE l xs v ∧ outE l xs v ≤ sumM l
  | [], [], _ => by simp [outE, sumM]
  | e :: l, x :: xs, ⟨h0, h1, h2⟩ => by
    have := out_le v l xs h2
    simp only [outE, sumM, List.map_cons, List.sum_cons] at this ⊢
    constructor <;> split <;> split <;> omega
theorem zeros_fl (n : Nat) (l : List Ed) (a b : Int) (hm : ∀ e ∈ l, 0 ≤ e.m) : IsFl n l a b (List.replicate l.length 0) := by
  constructor
  · rw [bd_iff]
    refine ⟨by simp, fun i hi => ?_⟩
    have : (List.replicate l.length (0 : Int)).getD i 0 = 0 := by simp [List.getD_eq_getElem?_getD, List.getElem?_replicate]; split <;> rfl
    rw [this]
    refine ⟨by omega, hm _ ?_⟩
    simp [List.getD_eq_getElem?_getD, List.getElem?_eq_getElem hi]
  · intro v _ _ _ _
    induction l with
    | nil => rfl
    | cons e l ih =>
      simp only [List.length_cons, List.replicate_succ, outE]
      rw [ih (fun e he => hm e (List.mem_cons_of_mem _ he))]
      simp
end Go.Proofs.Ytjpnbpfbdkbknaa
