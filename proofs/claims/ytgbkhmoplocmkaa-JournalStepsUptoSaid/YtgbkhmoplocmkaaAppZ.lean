/- append(x, make([]byte, k)...): the builtin is given the number k: a row of one's own gets k zeros more. -/
import Derived.Test.YtgbkhmoplocmkaaAppLib
import Derived.Test.YtgbkhmoplocmkaaDskI
import Derived.ArgAppend
import Derived.Lib.AppendZerosOnto
namespace Go.Proofs.Ytgbkhmoplocmkaa
open Go.RowKit
set_option linter.unusedSimpArgs false
set_option linter.unusedVariables false
set_option maxRecDepth 20000

theorem zeroCells_bytes (k : Nat) : (Builtin.zeroCells (Value.int .u8 0).cells k).toList = (List.replicate k (0 : Int)).flatMap byteE := by
  have h : (Builtin.zeroCells (Value.int .u8 0).cells k).toList = List.replicate k (Value.int .u8 0) := by
    refine List.eq_replicate_iff.2 ⟨by simp [Builtin.zeroCells, Value.cells], fun b hb => ?_⟩
    simp [Builtin.zeroCells, Value.cells] at hb
    obtain ⟨a, _, rfl⟩ := hb
    simp [Nat.mod_one]
  rw [h]
  clear h
  induction k with
  | zero => rfl
  | succ k ih => rw [List.replicate_succ, List.replicate_succ, List.flatMap_cons, ih]; rfl

theorem run_append_zeros {P : Program} (w : World) (base : Nat) (t tn ty e : TypeId) (i : TypeInfo) (kq kn : IntKind) (ht : P.underlying t = some (.slice e)) (htn : P.underlying tn = some (.int kn)) (hi : P.info? e = some i) (hz : i.zero = some (.int .u8 0)) (hsize : i.size = 1) (hby : i.bytes = 1)
    (v : Value) (ys : List Int) (hown : Owns w base e 1 byteE v ys) (k : Nat) (h63 : ys.length + k ≤ 1000000) (hbase : base ≤ w.heap.size) :
    ∃ v' w', (Builtin.append_ #[t, tn] ty #[v, .int kq k]).run P w = .ok v' w' ∧ Owns w' base e 1 byteE v' (ys ++ List.replicate k 0) ∧ w.grownBy w' v.ownBlock ∧
      (v'.ownBlock = v.ownBlock ∨ v'.ownBlock = some w.heap.size) := by
  have hw : IntKind.i64.wrap (k : Int) = k := by rw [IntKind.wrap_i64]; omega
  have hneg : ¬ ((k : Int) < 0) := by omega
  have hb2 : k * i.bytes ≤ 281474976710656 := by rw [hby]; omega
  have h48i : ¬ (281474976710656 < (k : Int) * (i.bytes : Int)) := by rw [← Int.natCast_mul]; omega
  have hfl : (ys ++ List.replicate k (0 : Int)).flatMap byteE = ys.flatMap byteE ++ (List.replicate k (0 : Int)).flatMap byteE := List.flatMap_append
  have hzl : ((List.replicate k (0 : Int)).flatMap byteE).length = k := by rw [flat_length (sz := 1) byteE_len]; simp
  have hyl : (ys.flatMap byteE).length = ys.length := by rw [flat_length (sz := 1) byteE_len]; simp
  have hlen : (ys ++ List.replicate k (0 : Int)).length = ys.length + k := by simp
  by_cases hk : k = 0
  · subst hk
    have hw0 : IntKind.i64.wrap 0 = 0 := by decide
    refine ⟨v, w, ?_, by simpa using hown, World.grownBy.refl w _, .inl rfl⟩
    rcases hown.2 with ⟨rfl, _⟩ | ⟨g, cap, cur, rfl, hbg, hg, hnc, hcm, hcs, htake⟩
    · simp [Builtin.append_, run_underlying ht, run_underlying htn, sizeOf, typeInfo, hi, asInt, asIntOf, hw0]
    · simp [Builtin.append_, run_underlying ht, run_underlying htn, sizeOf, typeInfo, hi, asInt, asIntOf, hw0, hnc, storeCells]
  · rcases hown.2 with ⟨rfl, hys⟩ | ⟨g, cap, cur, rfl, hbg, hg, hnc, hcm, hcs, htake⟩
    · have hx : ys = [] := List.eq_nil_of_length_eq_zero hys
      subst hx
      have hr := Lib.run_append_nil_zeros (P := P) w t tn ty e i _ kq kn ht htn hi hz k (by omega) (by omega) (by omega) hb2
      refine ⟨_, _, hr, ?_, ⟨rfl, rfl, rfl, by simp, fun j hj _ => heap_alloc_old w.drew _ hj⟩, .inr rfl⟩
      have hge := grownCap_ge w k 0 e
      have hcm := grownCap_le_maxLen w k 0 e (by simp [maxLen]; omega)
      unfold Owns
      rw [List.nil_append, List.length_replicate]
      refine ⟨by rw [hzl]; omega, .inr ⟨w.heap.size, _, _, rfl, hbase, heap_alloc_new w.drew _, hge, hcm, ?_, ?_⟩⟩
      · simp only [Array.size_append, size_zeroCells]
        simp [Value.cells]
        omega
      · rw [Array.toList_append, zeroCells_bytes, zeroCells_bytes]
        conv => lhs; rw [show k = ((List.replicate k (0 : Int)).flatMap byteE).length from hzl.symm]
        simp only [hzl]
        rw [List.take_append_of_le_length (by omega), List.take_of_length_le (by omega)]
    · by_cases hroom : ys.length + k ≤ cap
      · have hcs' : cur.size = cap := by omega
        have hst := run_storeCells_at P g ys.length e ((List.replicate k (0 : Int)).flatMap byteE) 0 cur w hg (by rw [hzl]; omega) (fun u hu => by obtain ⟨y, _, hy⟩ := List.mem_flatMap.1 hu; exact byteE_one y u hy)
        simp only [Nat.add_zero] at hst
        have hzz : (Builtin.zeroCells (Value.int .u8 0).cells k).toList = (List.replicate k (0 : Int)).flatMap byteE := zeroCells_bytes k
        refine ⟨.slice (some ⟨g, 0, none⟩) (ys.length + k) cap, w.setRow g (cur.toList.take ys.length ++ (List.replicate k (0 : Int)).flatMap byteE ++ cur.toList.drop (ys.length + ((List.replicate k (0 : Int)).flatMap byteE).length)).toArray, ?_, ?_, ⟨rfl, rfl, rfl, by simp, fun j _ hj => setRow_other w g j _ (fun e => hj (by simp [Value.ownBlock, e]))⟩, .inl rfl⟩
        · simp [Builtin.append_, run_underlying ht, run_underlying htn, sizeOf, typeInfo, zeroValue, hi, hz, asInt, asIntOf, hw, hneg, h48i, hsize, hroom, hk, Addr.add_lit, hzz]
          rw [hst]
          simp
        · unfold Owns
          rw [hlen, hfl]
          refine ⟨by rw [List.length_append, hyl, hzl]; omega, .inr ⟨g, cap, _, rfl, hbg, setRow_heap w g cur _ e _ hg, hroom, hcm, ?_, ?_⟩⟩
          · simp only [List.size_toArray, List.length_append, List.length_take, List.length_drop, Array.length_toList]
            omega
          · have ht2 : cur.toList.take ys.length = ys.flatMap byteE := by rw [← htake]; congr 1; omega
            simp only [ht2]
            rw [List.take_append_of_le_length (by rw [List.length_append, hyl, hzl]; omega), List.take_of_length_le (by rw [List.length_append, hyl, hzl]; omega)]
      · have hold : (Builtin.firstCells i.size ys.length (.slice (some ⟨g, 0, none⟩) ys.length cap)).run P w.drew = .ok (ys.flatMap byteE).toArray w.drew := by
          refine run_firstCells_some w.drew i.size ys.length ⟨g, 0, none⟩ ys.length cap _ (by rw [hyl, hsize]; omega) (fun j u hu => ?_)
          exact hown.cells (g := g) rfl j u hu
        have hr := Lib.run_append_grow_zeros (P := P) w t tn ty e i _ kq kn ht htn hi hz (some ⟨g, 0, none⟩) ys.length cap _ hold k (by omega) (by omega) (by omega) (by omega) hb2 (growslice_fits (by omega) (by rw [hby]; omega))
        have hge := grownCap_ge w (ys.length + k) cap e
        have hcm := grownCap_le_maxLen w (ys.length + k) cap e (by simp [maxLen]; omega)
        refine ⟨_, _, hr, ?_, ⟨rfl, rfl, rfl, by simp, fun j hj _ => heap_alloc_old w.drew _ hj⟩, .inr rfl⟩
        unfold Owns
        rw [hlen, hfl]
        refine ⟨by rw [List.length_append, hyl, hzl]; omega, .inr ⟨w.heap.size, _, _, rfl, hbase, heap_alloc_new w.drew _, hge, hcm, ?_, ?_⟩⟩
        · simp only [Array.size_append, List.size_toArray, size_zeroCells, hyl]
          simp [Value.cells]
          omega
        · rw [Array.toList_append, Array.toList_append, zeroCells_bytes, zeroCells_bytes]
          rw [List.take_append_of_le_length (by simp [hyl, hzl]), List.take_of_length_le (by simp [hyl, hzl])]
theorem wpList_append_zeros {P : Program} (w : World) {ops : Array Oper} {rest : List Oper} {o : Oper} {a : Act} {Q : Exit → Act → World → Prop} (hgd : o.guard = none) (s x : Operand) (t tn : TypeId)
    (ho : o.op = .call { callee := .builtin .append, args := #[s, x], argTypes := #[t, tn] }) (base : Nat) (e : TypeId) (i : TypeInfo) (kq kn : IntKind) (ht : P.underlying t = some (.slice e)) (htn : P.underlying tn = some (.int kn)) (hi : P.info? e = some i) (hz : i.zero = some (.int .u8 0)) (hsize : i.size = 1) (hby : i.bytes = 1)
    (v : Value) (ys : List Int) (hs : a.eval s = v) (hown : Owns w base e 1 byteE v ys) (k : Nat) (hx : a.eval x = .int kq k) (h63 : ys.length + k ≤ 1000000) (hbase : base ≤ w.heap.size)
    (h : ∀ v' w', Owns w' base e 1 byteE v' (ys ++ List.replicate k 0) → w.grownBy w' v.ownBlock → (v'.ownBlock = v.ownBlock ∨ v'.ownBlock = some w.heap.size) → wpList P ops Q rest (a.put o.dst v') w') : wpList P ops Q (o :: rest) a w := by
  obtain ⟨v', w', hr, h1, h2, h3⟩ := run_append_zeros (P := P) w base t tn o.type e i kq kn ht htn hi hz hsize hby v ys hown k h63 hbase
  exact Lib.wpList_append_run w hgd s x t tn ho _ _ hs hx _ _ hr (h v' w' h1 h2 h3)

/-- append to a slice whose length is its capacity: always a new row -/
theorem run_append_full {α : Type} {P : Program} (w : World) {en : α → List Value} {sz : Nat} (hen : ∀ y, (en y).length = sz) (h1 : ∀ y, ∀ u ∈ en y, u.oneCell' = true)
    (t ty e : TypeId) (i : TypeInfo) (z : Value) (bytes : Nat) (ht : P.underlying t = some (.slice e)) (hi : P.info? e = some i) (hz : i.zero = some z) (hsize : i.size = sz) (hby : i.bytes = bytes) (hzs : z.cells.size = sz) (hsz : 0 < sz)
    (A : Option Addr) (xs : List α) (B : Nat) (hr : Reads w B A sz en xs) (hnil : A = none → xs = []) (A2 : Option Addr) (c : Nat) (ys : List α) (B2 : Nat) (hr2 : Reads w B2 A2 sz en ys) (hpos : 0 < ys.length)
    (h63 : xs.length + ys.length ≤ maxLen) (hbytes : (xs.length + ys.length) * bytes ≤ 140737488355328) :
    ∃ v' w', (Builtin.append_ #[t, t] ty #[.slice A xs.length xs.length, .slice A2 ys.length c]).run P w = .ok v' w' ∧ Owns w' w.heap.size e sz en v' (xs ++ ys) ∧ w.grownBy w' none := by
  obtain ⟨b2, o2, rfl, _, _⟩ := hr2 hpos
  rcases A with _ | ad
  · obtain rfl := hnil rfl
    obtain ⟨v', w', h2, h3, h4, _⟩ := run_append_reads (P := P) w hen h1 w.heap.size t ty e i z bytes ht hi hz hsize hby hzs hsz _ [] (Owns.nil_ _ _ _ _ _) B2 (some ⟨b2, o2, none⟩) c ys hr2 (fun h => by cases h) h63 hbytes (Nat.le_refl _)
    exact ⟨v', w', h2, h3, h4⟩
  · obtain ⟨v', w', h2, h3, h4⟩ := run_append_arg_grows (P := P) w t ty e i z sz bytes ht hi hz hsize hby hzs hsz ad xs.length xs.length (xs.flatMap en) (flat_length hen xs) (hr.flat hen hsz) ⟨b2, o2, none⟩ ys.length c (ys.flatMap en) (flat_length hen ys) (hr2.flat hen hsz) (by omega) h63 hbytes
    refine ⟨v', w', h2, ?_, h4⟩
    unfold Owns
    rw [List.length_append, List.flatMap_append]
    exact h3
theorem wpList_append_full {α : Type} {P : Program} (w : World) {ops : Array Oper} {rest : List Oper} {o : Oper} {a : Act} {Q : Exit → Act → World → Prop} (hgd : o.guard = none) (s x : Operand) (t : TypeId)
    (ho : o.op = .call { callee := .builtin .append, args := #[s, x], argTypes := #[t, t] }) {en : α → List Value} {sz : Nat} (hen : ∀ y, (en y).length = sz) (h1 : ∀ y, ∀ u ∈ en y, u.oneCell' = true)
    (e : TypeId) (i : TypeInfo) (z : Value) (bytes : Nat) (ht : P.underlying t = some (.slice e)) (hi : P.info? e = some i) (hz : i.zero = some z) (hsize : i.size = sz) (hby : i.bytes = bytes) (hzs : z.cells.size = sz) (hsz : 0 < sz)
    (A : Option Addr) (xs : List α) (hs : a.eval s = .slice A xs.length xs.length) (B : Nat) (hr : Reads w B A sz en xs) (hnil : A = none → xs = []) (A2 : Option Addr) (c : Nat) (ys : List α) (hx : a.eval x = .slice A2 ys.length c) (B2 : Nat) (hr2 : Reads w B2 A2 sz en ys) (hpos : 0 < ys.length)
    (h63 : xs.length + ys.length ≤ maxLen) (hbytes : (xs.length + ys.length) * bytes ≤ 140737488355328)
    (h : ∀ v' w', Owns w' w.heap.size e sz en v' (xs ++ ys) → w.grownBy w' none → wpList P ops Q rest (a.put o.dst v') w') : wpList P ops Q (o :: rest) a w := by
  obtain ⟨v', w', hr', h2, h3⟩ := run_append_full (P := P) w hen h1 t o.type e i z bytes ht hi hz hsize hby hzs hsz A xs B hr hnil A2 c ys B2 hr2 hpos h63 hbytes
  exact Lib.wpList_append_run w hgd s x t t ho _ _ hs hx _ _ hr' (h v' w' h2 h3)
end Go.Proofs.Ytgbkhmoplocmkaa
