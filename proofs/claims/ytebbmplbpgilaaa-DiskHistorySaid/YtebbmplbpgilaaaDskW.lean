/- Plain law of DiskHistory: what a disk of four sectors holds behind writes, syncs and a stop; holds, walked. -/
import Derived.Test.YtebbmplbpgilaaaDskQ
import Derived.Test.YtebbmplbpgilaaaDskU
import Derived.Test.YtebbmplbpgilaaaDskV
import Derived.BigQuiet
import Derived.Deep.DeepCutAuto
import Derived.Deep.RegionHeld3
namespace Go.Proofs.Ytebbmplbpgilaaa
open Go.RowKit Go.Shelf
set_option linter.unusedSimpArgs false
set_option linter.unusedVariables false

/-- a sector whose halves begin with two bytes -/
def hsL (f s : Int) : List Int := (zeroSec.set 0 f).set 64 s
theorem hsL_len (f s : Int) : (hsL f s).length = 128 := by simp [hsL, zero_len]
theorem hsL_same (c : Int) : hsL c c = doubleL c := rfl
theorem zero_get {i : Nat} (h : i < 128) : zeroSec[i]? = some 0 := by
  unfold zeroSec
  rw [List.getElem?_replicate, if_pos h]
theorem hsL_0 (f s : Int) : (hsL f s)[0]? = some f := by
  unfold hsL
  rw [List.getElem?_set_ne (by decide), List.getElem?_set_self (by rw [zero_len]; decide)]
theorem hsL_64 (f s : Int) : (hsL f s)[64]? = some s := by
  unfold hsL
  rw [List.getElem?_set_self (by rw [List.length_set, zero_len]; decide)]
theorem hsL_1 (f s : Int) : (hsL f s)[1]? = some 0 := by
  unfold hsL
  rw [List.getElem?_set_ne (by decide), List.getElem?_set_ne (by decide)]
  exact zero_get (by decide)
theorem hsL_127 (f s : Int) : (hsL f s)[127]? = some 0 := by
  unfold hsL
  rw [List.getElem?_set_ne (by decide), List.getElem?_set_ne (by decide)]
  exact zero_get (by decide)
/-- a torn sector -/
theorem hsL_torn (f s g t : Int) : (hsL f s).take 64 ++ (hsL g t).drop 64 = hsL f t := by
  apply List.ext_getElem?
  intro i
  rcases Nat.lt_or_ge i 64 with h | h
  · rw [List.getElem?_append_left (by simp [hsL_len]; omega), List.getElem?_take, if_pos h]
    unfold hsL
    rw [List.getElem?_set_ne (show (64 : Nat) ≠ i by omega), List.getElem?_set_ne (show (64 : Nat) ≠ i by omega)]
  · rw [List.getElem?_append_right (by simp [hsL_len]; omega)]
    have e : (List.take 64 (hsL f s)).length = 64 := by simp [hsL_len]
    rw [e, List.getElem?_drop]
    rw [show 64 + (i - 64) = i by omega]
    unfold hsL
    by_cases h64 : i = 64
    · subst h64
      rw [List.getElem?_set_self (by rw [List.length_set, zero_len]; decide), List.getElem?_set_self (by rw [List.length_set, zero_len]; decide)]
    · rw [List.getElem?_set_ne (by omega), List.getElem?_set_ne (by omega), List.getElem?_set_ne (by omega), List.getElem?_set_ne (by omega)]
/-- four bytes behind some writes -/
def putB (fs : List Int) (wt : List Ac) : List Int := wt.foldl (fun f a => f.set (a.at_ % 4).toNat a.byte) fs
theorem putB_len : ∀ (wt : List Ac) (fs : List Int), (putB fs wt).length = fs.length
  | [], _ => rfl
  | a :: l, fs => by
    have e : putB fs (a :: l) = putB (fs.set (a.at_ % 4).toNat a.byte) l := rfl
    rw [e, putB_len l]; simp
theorem putB_snoc (fs : List Int) (wt : List Ac) (a : Ac) : putB fs (wt ++ [a]) = (putB fs wt).set (a.at_ % 4).toNat a.byte := by
  unfold putB
  rw [List.foldl_append]
  rfl
def wrB (wt : List Ac) : List (Int × List Int) := wt.map fun a => (a.at_ % 4, doubleL a.byte)
theorem wrB_len (wt : List Ac) : (wrB wt).length = wt.length := by simp [wrB]
theorem wrB_take (wt : List Ac) (k : Nat) : (wrB wt).take k = wrB (wt.take k) := by simp [wrB, List.map_take]
theorem perform_putB : ∀ (wt : List Ac) (fs : List Int), performD (fs.map doubleL) (wrB wt) = (putB fs wt).map doubleL
  | [], _ => rfl
  | a :: l, fs => by
    have e1 : performD (fs.map doubleL) (wrB (a :: l)) = performD ((fs.map doubleL).set (a.at_ % 4).toNat (doubleL a.byte)) (wrB l) := rfl
    have e2 : putB fs (a :: l) = putB (fs.set (a.at_ % 4).toNat a.byte) l := rfl
    rw [e1, e2, ← perform_putB l, List.map_set]
/-- the disk between two acts -/
def histD (fs : List Int) (wt : List Ac) (room : Int) : Dk := ⟨fs.map doubleL, wrB wt, room, false⟩
theorem hist_runs {fs : List Int} {wt : List Ac} {room : Int} (hf : fs.length = 4) (hw : wt.length ≤ 40) (h0 : 0 ≤ room) (h1 : room ≤ 255) : runsD (histD fs wt room) = true := by
  have hv := runs_mk (d := histD fs wt room) (fun p hp => by
    obtain ⟨a, ha, rfl⟩ := List.mem_map.1 hp
    refine ⟨Int.emod_nonneg _ (by decide), ?_, double_len _⟩
    have := Int.emod_lt_of_pos a.at_ (show (0 : Int) < 4 by decide)
    simp [histD, hf]; omega) (fun b hb => by
    obtain ⟨c, _, rfl⟩ := List.mem_map.1 hb
    exact double_len c) (by simp [histD, hf]) (by simp [histD, hf]) (by simp [histD, wrB_len]; omega) (by simp [histD]; omega) (by simp [histD]; omega)
  show (validD _ && !false) = true
  rw [hv]
  rfl
theorem hist_write {fs : List Int} {wt : List Ac} {room : Int} {a : Ac} (hf : fs.length = 4) (hw : wt.length < 40) (h0 : 0 ≤ room) (h1 : room ≤ 255) : writeD (histD fs wt room) (a.at_ % 4) (doubleL a.byte) = (histD fs (wt ++ [a]) room, 0) := by
  have hr := hist_runs (wt := wt) hf (by omega) h0 h1
  have h4 := Int.emod_lt_of_pos a.at_ (show (0 : Int) < 4 by decide)
  have h5 := Int.emod_nonneg a.at_ (show (4 : Int) ≠ 0 by decide)
  unfold writeD
  rw [hr, show hasD (histD fs wt room) (a.at_ % 4) = true by simp [hasD, histD, hf]; omega]
  simp only [Bool.true_and, if_true]
  rw [if_pos (by rw [double_len]; exact Nat.le_refl _), if_neg (by simp [histD, wrB_len]; omega)]
  have e : padS (doubleL a.byte) = doubleL a.byte := by simp [padS, double_len]
  rw [e]
  simp [histD, wrB]
/-- what is read of the disk -/
theorem hist_sector : ∀ (wt : List Ac) (fs : List Int) (k : Nat), k < fs.length → (lastW (k : Int) (wrB wt)).getD ((fs.map doubleL).getD k []) = doubleL ((putB fs wt).getD k 0) := by
  intro wt fs k hk
  have h := perform_get (wrB wt) (fs.map doubleL) k (by simpa using hk) (fun p hp => by
    obtain ⟨a, ha, rfl⟩ := List.mem_map.1 hp
    exact Int.emod_nonneg _ (by decide))
  rw [perform_putB] at h
  rw [← h]
  have hk2 : k < (putB fs wt).length := by rw [putB_len]; exact hk
  simp [List.getD_eq_getElem?_getD, List.getElem?_eq_getElem hk2]
theorem hist_read {fs : List Int} {wt : List Ac} {room : Int} (hf : fs.length = 4) (hw : wt.length ≤ 40) (h0 : 0 ≤ room) (h1 : room ≤ 255) {k : Nat} (hk : k < 4) : readD (histD fs wt room) k = (hsL ((putB fs wt).getD k 0) ((putB fs wt).getD k 0), 0) := by
  rw [readD_yes (hist_runs hf hw h0 h1) (by simp [hasD, histD, hf]; omega)]
  unfold sectorD
  rw [hsL_same, ← hist_sector wt fs k (by omega)]
  simp [histD]
theorem hist_sync {fs : List Int} {wt : List Ac} {room : Int} (hf : fs.length = 4) (hw : wt.length ≤ 40) (h0 : 0 ≤ room) (h1 : room ≤ 255) (hn : (wt.length : Int) ≤ room) : syncD (histD fs wt room) = (histD (putB fs wt) [] (room - wt.length), 0) := by
  rw [syncD_go (hist_runs hf hw h0 h1) (by simp [histD, wrB_len]; omega)]
  simp only [histD, perform_putB, wrB_len]
  unfold leftD
  rw [if_pos h0]
  rfl
/-- the disk that stops: its sectors -/
theorem hist_stop {fs : List Int} {wt : List Ac} {room : Nat} (hf : fs.length = 4) (hw : wt.length ≤ 40) (h1 : room ≤ 255) (hn : room < wt.length) :
    ∃ ss : List (List Int), syncD (histD fs wt room) = (⟨ss, [], 0, true⟩, 450) ∧ ss.length = 4 ∧ (∀ b ∈ ss, b.length = 128) ∧ ∀ k, k < 4 → ss.getD k [] = hsL ((putB fs (wt.take (room + 1))).getD k 0) ((putB fs (wt.take room)).getD k 0) := by
  have hr := hist_runs (wt := wt) (room := room) hf hw (by omega) (by omega)
  have hwl : wt[room]? = some wt[room] := List.getElem?_eq_getElem hn
  have h4 := Int.emod_lt_of_pos wt[room].at_ (show (0 : Int) < 4 by decide)
  have h5 := Int.emod_nonneg wt[room].at_ (show (4 : Int) ≠ 0 by decide)
  have hg : (wrB wt).getD room (0, []) = (wt[room].at_ % 4, doubleL wt[room].byte) := by
    simp [wrB, List.getD_eq_getElem?_getD, hwl]
  have htk : wt.take (room + 1) = wt.take room ++ [wt[room]] := by rw [List.take_succ_eq_append_getElem hn]
  obtain ⟨j, hj⟩ : ∃ j, j = (wt[room].at_ % 4).toNat := ⟨_, rfl⟩
  have hj4 : j < 4 := by omega
  have hpl : (putB fs (wt.take room)).length = 4 := by rw [putB_len, hf]
  refine ⟨((putB fs (wt.take room)).map doubleL).set j (hsL wt[room].byte ((putB fs (wt.take room)).getD j 0)), ?_, by simp [hpl], fun b hb => ?_, fun k hk => ?_⟩
  · unfold syncD
    rw [if_pos hr, if_pos (by simp [histD, wrB_len]; omega)]
    simp only [histD, Int.toNat_natCast, hg, wrB_take, perform_putB, ← hj]
    have e : ((putB fs (wt.take room)).map doubleL).getD j [] = hsL ((putB fs (wt.take room)).getD j 0) ((putB fs (wt.take room)).getD j 0) := by
      rw [hsL_same]
      simp [List.getD_eq_getElem?_getD, List.getElem?_eq_getElem (show j < (putB fs (wt.take room)).length by omega)]
    rw [e, ← hsL_same, hsL_torn]
  · rcases List.mem_or_eq_of_mem_set hb with h | rfl
    · obtain ⟨c, _, rfl⟩ := List.mem_map.1 h
      exact double_len c
    · exact hsL_len _ _
  · rw [htk, putB_snoc, ← hj]
    by_cases e : j = k
    · subst e
      simp [List.getD_eq_getElem?_getD, hpl, hj4]
    · simp [List.getD_eq_getElem?_getD, List.getElem?_set_ne e, List.getElem?_eq_getElem (show k < (putB fs (wt.take room)).length by omega), hsL_same]
theorem restart_read {ss : List (List Int)} {fs gs : List Int} (h1 : ss.length = 4) (h2 : ∀ b ∈ ss, b.length = 128) (h3 : ∀ k, k < 4 → ss.getD k [] = hsL (fs.getD k 0) (gs.getD k 0)) {k : Nat} (hk : k < 4) : readD ⟨ss, [], -1, false⟩ k = (hsL (fs.getD k 0) (gs.getD k 0), 0) := by
  have hv := runs_mk (d := ⟨ss, [], -1, false⟩) (by simp) h2 (by simp; omega) (by simp; omega) (by simp) (by simp) (by simp)
  have hr : runsD ⟨ss, [], -1, false⟩ = true := by show (validD _ && !false) = true; rw [hv]; rfl
  rw [readD_yes hr (by simp [hasD, h1]; omega)]
  unfold sectorD
  simp only [lastW, Option.getD_none, Int.toNat_natCast]
  rw [h3 k hk]
end Go.Proofs.Ytebbmplbpgilaaa
