/- double, make of 129 bytes; a disk at a place that is left alone. -/
import Derived.Test.YtgbkhmoplocmkaaDskO
namespace Go.Proofs.Ytgbkhmoplocmkaa
open Go.RowKit Go.Shelf
set_option linter.unusedSimpArgs false
set_option linter.unusedVariables false
set_option maxRecDepth 20000

theorem Di.nw {w w' : World} {P : Nat → Prop} {sv pv : Sl} {d : Dk} (h : Di w' (Nw P w) sv pv d) (hP : ∀ b, w.heap.size ≤ b → P b) : Di w' P sv pv d := h.mono (fun b hb => hb.elim id (hP b))

def doubleL (c : Int) : List Int := (zeroSec.set 0 c).set 64 c
theorem double_len (c : Int) : (doubleL c).length = 128 := by simp [doubleL, zero_len]
theorem double_ok {c : Int} (h : 0 ≤ c ∧ c < 256) : ∀ b ∈ doubleL c, 0 ≤ b ∧ b < 256 := by
  intro b hb
  rcases List.mem_or_eq_of_mem_set hb with h1 | rfl
  · rcases List.mem_or_eq_of_mem_set h1 with h2 | rfl
    · exact zero_bounds b h2
    · exact h
  · exact h

def zeros129 : List Int := List.replicate 129 0
def zero129 : Array Value := (zeros129.map (Value.int .u8)).toArray
theorem zeros129_len : zeros129.length = 129 := by simp [zeros129]
theorem zeros129_ok : ∀ b ∈ zeros129, 0 ≤ b ∧ b < 256 := by
  intro b hb
  rw [(List.mem_replicate.1 hb).2]; omega
theorem make129 (W : World) : (Instr.makeSlice 35 (.int .i64 129) (.int .i64 129)).run Try.prog W = .ok (.slice (some ⟨W.heap.size, 0, none⟩) 129 129) (W.alloc (.cells zero129 5)) := by
  obtain ⟨i0, hinf, hz0, hz1, hz2⟩ := info_parts Try.infoByte
  have h := run_make (P := Try.prog) W 35 5 i0 (.int .u8 0) Try.underlying35 hinf hz0 .i64 .i64 129 129 (by decide) (by decide) (by rw [hz2]; decide) (by decide)
  rw [h, hz1]
  have e : madeCells (Value.int .u8 0).cells (Int.toNat 129 * 1) = zero129 := by
    rw [made_one _ _ rfl]
    unfold zero129 zeros129
    rw [List.map_replicate]
    rfl
  rw [e]
  rfl
theorem zero129_by (w : World) (P : Nat → Prop) (hP : P w.heap.size) : By (w.alloc (.cells zero129 5)) P ⟨some ⟨w.heap.size, 0, none⟩, 129, 129⟩ zeros129 := by
  have h := by_block (P := P) (heap_alloc_new w (.cells zero129 5)) hP (by rw [zeros129_len]; decide) zeros129_ok
  rw [zeros129_len] at h
  exact h
theorem one_by (w : World) (P : Nat → Prop) (c : Int) (hc : 0 ≤ c ∧ c < 256) (hP : P w.heap.size) : By (w.alloc (.cells #[.int .u8 c] 5)) P ⟨some ⟨w.heap.size, 0, none⟩, 1, 1⟩ [c] :=
  by_block (P := P) (bs := [c]) (heap_alloc_new w (.cells #[.int .u8 c] 5)) hP (by simp [maxLen]) (by simpa using hc)
/-- a byte that is read -/
theorem By.get {w : World} {P : Nat → Prop} {s : Sl} {bs : List Int} (h : By w P s bs) (hn : bs.length = 128) : ∃ b off c, s = ⟨some ⟨b, off, none⟩, 128, c⟩ ∧ b < w.heap.size ∧ ∀ (i : Nat) (x : Int), bs[i]? = some x → w.cell? ⟨b, off + i, none⟩ = some (.int .u8 x) := by
  obtain ⟨b, off, e, hb, hc⟩ := h.1.reads (by omega)
  have h1 := h.1.1
  obtain ⟨A, n, c⟩ := s
  simp only at e h1
  subst e h1
  exact ⟨b, off, c, by rw [hn], hb, fun i x hx => by have := hc i x 0 _ hx rfl; simpa using this⟩
end Go.Proofs.Ytgbkhmoplocmkaa
