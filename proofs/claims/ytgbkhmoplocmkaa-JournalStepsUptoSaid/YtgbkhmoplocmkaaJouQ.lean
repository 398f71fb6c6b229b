/- Journals: plain: what Sync computes. -/
import Derived.Test.YtgbkhmoplocmkaaJouN
import Derived.Test.YtgbkhmoplocmkaaDskR
namespace Go.Proofs.Ytgbkhmoplocmkaa
open Go.RowKit Go.Shelf
set_option linter.unusedSimpArgs false
set_option linter.unusedVariables false
set_option maxRecDepth 20000

def sectK (b : List Int) : Nat := (sectN b.length).toNat
def kindK (k n : Nat) : Int := (if k = 0 then 1 else 0) + (if k + 1 = n then 2 else 0)
def cutB (b : List Int) (k : Nat) : List Int := (b.drop (112 * k)).take 112
/-- the sectors of a record that begins at a -/
def secsB (g : Int) (a : Nat) (b : List Int) : List (List Int) := (List.range (sectK b)).map fun k => encB g ((a + k : Nat) : Int) (kindK k (sectK b)) (cutB b k)
def secsR (g : Int) : Nat → List (List Int) → List (List Int)
  | _, [] => []
  | a, b :: r => secsB g a b ++ secsR g (a + sectK b) r
def pendL : Nat → List (List Int) → List (Int × List Int)
  | _, [] => []
  | a, s :: r => ((a : Int), s) :: pendL (a + 1) r
theorem pendL_append : ∀ (xs ys : List (List Int)) (a : Nat), pendL a (xs ++ ys) = pendL a xs ++ pendL (a + xs.length) ys
  | [], ys, a => rfl
  | x :: xs, ys, a => by simp [pendL, pendL_append xs ys (a + 1), Nat.add_assoc, Nat.add_comm 1]
theorem pendL_len : ∀ (xs : List (List Int)) (a : Nat), (pendL a xs).length = xs.length
  | [], a => rfl
  | x :: xs, a => by simp [pendL, pendL_len xs]
theorem pendL_mem : ∀ (xs : List (List Int)) (a : Nat) (p : Int × List Int), p ∈ pendL a xs → (a : Int) ≤ p.1 ∧ p.1 < (a + xs.length : Nat) ∧ p.2 ∈ xs
  | [], a, p, h => by cases h
  | x :: xs, a, p, h => by
    simp only [pendL, List.mem_cons] at h
    rcases h with rfl | h
    · simp
      omega
    · have := pendL_mem xs (a + 1) p h
      simp at this ⊢
      exact ⟨by omega, by omega, .inr this.2.2⟩
theorem sectN_pos (n : Nat) : 1 ≤ sectN n := by unfold sectN; omega
theorem sectK_int (b : List Int) : ((sectK b : Nat) : Int) = sectN b.length := by have := sectN_pos b.length; unfold sectK; omega
theorem sectK_pos (b : List Int) : 1 ≤ sectK b := by have := sectN_pos b.length; unfold sectK; omega
theorem wrap_len {n : Nat} (h : n ≤ 9223372036854775696) : wrap64 (wrap64 ((n : Int) + 112) - 1) = (n : Int) + 111 := by unfold wrap64; omega
theorem sectN_mid {n : Nat} (h : n ≤ 9223372036854775696) : sectN n = max 1 (((n : Int) + 111) / 112) := by
  unfold sectN
  rw [wrap_len h, Int.tdiv_eq_ediv_of_nonneg (by omega)]
  congr 1
  unfold wrap64
  omega
theorem sectN_le {n : Nat} (h : n ≤ 9223372036854775807) : sectN n ≤ max 1 (((n : Int) + 111) / 112) := by
  by_cases h1 : n ≤ 9223372036854775696
  · rw [sectN_mid h1]; exact Int.le_refl _
  · unfold sectN
    have e3 : wrap64 (wrap64 ((n : Int) + 112) - 1) = (n : Int) + 111 - 18446744073709551616 := by unfold wrap64; omega
    rw [e3]
    generalize hy : (n : Int) + 111 - 18446744073709551616 = y
    have e5 : y.tdiv 112 ≤ 0 := by
      have h := Int.tdiv_nonneg (a := -y) (b := 112) (by omega) (by omega)
      rw [Int.neg_tdiv] at h
      omega
    have e6 : -9223372036854775808 ≤ y.tdiv 112 := by
      have h := Int.tdiv_le_self (a := -y) 112 (by omega)
      rw [Int.neg_tdiv] at h
      omega
    have e7 : wrap64 (y.tdiv 112) = y.tdiv 112 := by generalize y.tdiv 112 = z at *; unfold wrap64; omega
    rw [e7]
    omega
/-- the pieces lie in the record -/
theorem sect_cut {b : List Int} (h : b.length ≤ 9223372036854775807) {k : Nat} (hk : k < sectK b) : 112 * k ≤ b.length := by
  have h1 := sectN_le h
  have h2 := sectK_int b
  omega
theorem cutB_len (b : List Int) (k : Nat) : (cutB b k).length ≤ 112 := by simp [cutB]; omega
theorem cutB_ok {b : List Int} (h : ∀ x ∈ b, 0 ≤ x ∧ x < 256) (k : Nat) : ∀ x ∈ cutB b k, 0 ≤ x ∧ x < 256 := fun x hx => h x (List.mem_of_mem_drop (List.mem_of_mem_take hx))
theorem kindK_range (k n : Nat) : 0 ≤ kindK k n ∧ kindK k n < 256 := by unfold kindK; split <;> split <;> omega
theorem secsB_len (g : Int) (a : Nat) (b : List Int) : (secsB g a b).length = sectK b := by simp [secsB]
theorem secsB_all (g : Int) (a : Nat) (b : List Int) : ∀ s ∈ secsB g a b, s.length = 128 := fun s hs => by
  obtain ⟨k, _, rfl⟩ := List.mem_map.1 hs
  exact enc_len _ _ _ (cutB_len b k)
theorem secsR_all (g : Int) : ∀ (r : List (List Int)) (a : Nat), ∀ s ∈ secsR g a r, s.length = 128
  | [], _, s, hs => by cases hs
  | b :: r, a, s, hs => by
    rcases List.mem_append.1 hs with h | h
    · exact secsB_all g a b s h
    · exact secsR_all g r _ s h
theorem secsB_drop {g : Int} {a : Nat} {b : List Int} {k : Nat} (hk : k < sectK b) : (secsB g a b).drop k = encB g ((a + k : Nat) : Int) (kindK k (sectK b)) (cutB b k) :: (secsB g a b).drop (k + 1) := by
  rw [List.drop_eq_getElem_cons (by rw [secsB_len]; exact hk)]
  congr 1
  simp [secsB]
theorem secsR_drop {g : Int} {a : Nat} {r : List (List Int)} {i : Nat} {b : List Int} (h : r[i]? = some b) : secsR g a (r.drop i) = secsB g a b ++ secsR g (a + sectK b) (r.drop (i + 1)) := by
  obtain ⟨h1, h2⟩ := List.getElem?_eq_some_iff.1 h
  rw [List.drop_eq_getElem_cons h1, h2]
  rfl
/-- the disk while records are being written -/
def dskW (d : Dk) (a : Nat) (pre : List (List Int)) : Dk := ⟨d.secs, pendL a pre, d.left, false⟩
def pre_ok (d : Dk) (a : Nat) (pre : List (List Int)) : Prop := a + pre.length ≤ d.secs.length ∧ ∀ s ∈ pre, s.length = 128
theorem dskW_runs {d : Dk} {a : Nat} {pre : List (List Int)} (hd : validD d = true) (hp : pre_ok d a pre) : runsD (dskW d a pre) = true := by
  obtain ⟨h1, h2⟩ := hp
  simp only [validD, sizesOk, Bool.and_eq_true, decide_eq_true_eq] at hd
  obtain ⟨⟨h3, h4, h5, h6, h7⟩, _, h8⟩ := hd
  have h9 : ∀ b ∈ d.secs, b.length = 128 := fun b hb => by simp [isSec] at h8; exact h8 b hb
  unfold runsD
  rw [runs_mk (d := dskW d a pre) (fun p hp => ?_) h9 h3 h4 (by simp only [dskW, pendL_len]; omega) h6 h7]
  · rfl
  · have := pendL_mem pre a p hp
    simp only [dskW]
    exact ⟨by omega, by omega, h2 _ this.2.2⟩
theorem pad_self {s : List Int} (h : s.length = 128) : padS s = s := by simp [padS, h]
theorem dskW_write {d : Dk} {a : Nat} {pre : List (List Int)} {s : List Int} (hd : validD d = true) (hp : pre_ok d a pre) (hs : s.length = 128) (hlt : a + pre.length < d.secs.length) :
    writeD (dskW d a pre) ((a + pre.length : Nat) : Int) s = (dskW d a (pre ++ [s]), 0) := by
  have h4 : d.secs.length ≤ 4096 := by simp [validD, sizesOk] at hd; omega
  rw [writeD_ok (dskW_runs hd hp) (by unfold hasD; rw [decide_eq_true (by omega), decide_eq_true (show ((a + pre.length : Nat) : Int) < ((dskW d a pre).secs.length : Int) by show _ < (d.secs.length : Int); omega)]; rfl) (by omega) (by simp only [dskW, pendL_len]; omega), pad_self hs]
  simp [dskW, pendL_append, pendL]
theorem dskW_full {d : Dk} {a : Nat} {pre : List (List Int)} {s : List Int} (hlt : ¬ a + pre.length < d.secs.length) : writeD (dskW d a pre) ((a + pre.length : Nat) : Int) s = (Dk.zero, 450) :=
  writeD_no (.inr (by unfold hasD; rw [decide_eq_false (show ¬ ((a + pre.length : Nat) : Int) < ((dskW d a pre).secs.length : Int) by show ¬ _ < (d.secs.length : Int); omega)]; simp))

def goodJ (l : Jl) (d : Dk) : Bool := decide (recsJ d.secs = l.recs.take l.synced.toNat) && !decide (4294967295 < genF d.secs + 1)
/-- what Sync computes -/
def syncW (l : Jl) (d : Dk) : Jl × Dk × Int :=
  let a := (usedR (l.recs.take l.synced.toNat)).toNat
  let ws := secsR (genF d.secs + 1) a (l.recs.drop l.synced.toNat)
  if a + ws.length ≤ d.secs.length then
    (if (syncD (dskW d a ws)).2 = 0 then (⟨l.recs, l.many, l.recs.length⟩, (syncD (dskW d a ws)).1, 0) else (Jl.zero, (syncD (dskW d a ws)).1, (syncD (dskW d a ws)).2))
  else (Jl.zero, Dk.zero, 450)
def syncJ (l : Jl) (d : Dk) : Jl × Dk × Int :=
  if validJ l then
    if validD d then
      if d.stopped then (Jl.zero, Dk.zero, 450)
      else if l.many = (d.secs.length : Int) then
        if d.pend.length = 0 then
          if goodJ l d then
            if l.synced = (l.recs.length : Int) then (l, d, 0) else syncW l d
          else (Jl.zero, Dk.zero, 460)
        else (Jl.zero, Dk.zero, 1)
      else (Jl.zero, Dk.zero, 1)
    else (Jl.zero, Dk.zero, 450)
  else (Jl.zero, Dk.zero, 1)
end Go.Proofs.Ytgbkhmoplocmkaa
