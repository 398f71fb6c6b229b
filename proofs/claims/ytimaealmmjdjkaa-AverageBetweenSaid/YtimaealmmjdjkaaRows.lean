/-
  No cell of these rows narrows 'for every input' (looked for: loops, veiled, ifaces, maps, wideKeys, modest, calm, conditions, laid).
  DERIVED. THE GIVEN ROWS OF THIS SEAT. 7 by the template 'for every input the law returns true; each argument reads behind the call as it read before'; 0 by the template 'total and deterministic' (their statements: YtimaealmmjdjkaaTotals.lean).
  GIVEN WITH THE SEED: the statements are not yours to turn. If you find one false, say at which input.
  Laid BY PROGRAM, IN A SANDBOX (cutbox-rows.mjs): the forced cells as the released guide's own fill.sh prints them over the translation fab3fb4aa471f11e… (all of the seat's roots in one cut). By AI agents, Wed Nov 11 2026. No macro, syntax, notation, axiom, sorry.
-/
import Derived.Test.YtimaealmmjdjkaaChecked
import GoSem.Claim
import GoSem.ClaimJoined
import GoSem.ClaimMapViews
import Derived.JoinedTies
import Derived.KernelRfl
namespace Go.Proofs.Ytimaealmmjdjkaa
/- THE CELL 'sum', in the pinned program and in every row, IS THE sha256 OF THE DUMP (.gsa) THAT YtimaealmmjdjkaaProg.lean LOADS. Nothing in Lean hashes anything: it is a label: what it is worth is what the hold of that sum in a sandbox is worth. -/
noncomputable def Try.pinned : Pinned := { name := "ytimaealmmjdjkaa", sum := "fab3fb4aa471f11e61b27e4749072d05e4c6f7465ec783e7d8ac2df5c0c3b08c", checked := Try.checked }
namespace Rows
def none {H : Type} : Left H := { results := [], args := [] }

/-- 'sizarlaw15.AverageSumsSpec': WHATEVER THE INPUT: true; the input reads as it did. -/
def averageSumsSpecSpec : ChangeSpec := { name := "averageSumsSpec", fn := fun _ => fun
  | [d] => { results := [.lit (.bool true)], args := [d] }
  | _ => none }
def averageSumsSpecRow : OpenClaim := { program := "ytimaealmmjdjkaa", sum := "fab3fb4aa471f11e61b27e4749072d05e4c6f7465ec783e7d8ac2df5c0c3b08c", func := "sizar/sizarlaw15.AverageSumsSpec", spec := "averageSumsSpec", unfollowed := true, recurses := true, apart := false }
def AverageSumsSpecSaid : Prop := averageSumsSpecRow.holds Try.pinned (OpenSpec.ofChange averageSumsSpecSpec)

/-- ITS FALSE NEIGHBOUR: 'it returns false'. Refute it at one input. -/
def averageSumsSpecWrong : ChangeSpec := { name := "averageSumsSpec", fn := fun _ => fun
  | [d] => { results := [.lit (.bool false)], args := [d] }
  | _ => none }
def AverageSumsSpecWrongFalsely : Prop := averageSumsSpecRow.holds Try.pinned (OpenSpec.ofChange averageSumsSpecWrong)

/-- 'sizarlaw15.AverageCountedSpec': WHATEVER THE INPUT: true; the input reads as it did. -/
def averageCountedSpecSpec : ChangeSpec := { name := "averageCountedSpec", fn := fun _ => fun
  | [d1, d2] => { results := [.lit (.bool true)], args := [d1, d2] }
  | _ => none }
def averageCountedSpecRow : OpenClaim := { program := "ytimaealmmjdjkaa", sum := "fab3fb4aa471f11e61b27e4749072d05e4c6f7465ec783e7d8ac2df5c0c3b08c", func := "sizar/sizarlaw15.AverageCountedSpec", spec := "averageCountedSpec", unfollowed := true, recurses := true, apart := false }
def AverageCountedSpecSaid : Prop := averageCountedSpecRow.holds Try.pinned (OpenSpec.ofChange averageCountedSpecSpec)

/-- ITS FALSE NEIGHBOUR: 'it returns false'. Refute it at one input. -/
def averageCountedSpecWrong : ChangeSpec := { name := "averageCountedSpec", fn := fun _ => fun
  | [d1, d2] => { results := [.lit (.bool false)], args := [d1, d2] }
  | _ => none }
def AverageCountedSpecWrongFalsely : Prop := averageCountedSpecRow.holds Try.pinned (OpenSpec.ofChange averageCountedSpecWrong)

/-- 'sizarlaw15.AverageNeededSpec': WHATEVER THE INPUT: true; the input reads as it did. -/
def averageNeededSpecSpec : ChangeSpec := { name := "averageNeededSpec", fn := fun _ => fun
  | [d1, d2, d3] => { results := [.lit (.bool true)], args := [d1, d2, d3] }
  | _ => none }
def averageNeededSpecRow : OpenClaim := { program := "ytimaealmmjdjkaa", sum := "fab3fb4aa471f11e61b27e4749072d05e4c6f7465ec783e7d8ac2df5c0c3b08c", func := "sizar/sizarlaw15.AverageNeededSpec", spec := "averageNeededSpec", unfollowed := true, recurses := true, apart := false }
def AverageNeededSpecSaid : Prop := averageNeededSpecRow.holds Try.pinned (OpenSpec.ofChange averageNeededSpecSpec)

/-- ITS FALSE NEIGHBOUR: 'it returns false'. Refute it at one input. -/
def averageNeededSpecWrong : ChangeSpec := { name := "averageNeededSpec", fn := fun _ => fun
  | [d1, d2, d3] => { results := [.lit (.bool false)], args := [d1, d2, d3] }
  | _ => none }
def AverageNeededSpecWrongFalsely : Prop := averageNeededSpecRow.holds Try.pinned (OpenSpec.ofChange averageNeededSpecWrong)

/-- 'sizarlaw15.AverageParts': WHATEVER THE INPUT: true; the input reads as it did. -/
def averagePartsSpec : ChangeSpec := { name := "averageParts", fn := fun _ => fun
  | [d1, d2] => { results := [.lit (.bool true)], args := [d1, d2] }
  | _ => none }
def averagePartsRow : OpenClaim := { program := "ytimaealmmjdjkaa", sum := "fab3fb4aa471f11e61b27e4749072d05e4c6f7465ec783e7d8ac2df5c0c3b08c", func := "sizar/sizarlaw15.AverageParts", spec := "averageParts", unfollowed := true, recurses := true, apart := false }
def AveragePartsSaid : Prop := averagePartsRow.holds Try.pinned (OpenSpec.ofChange averagePartsSpec)

/-- ITS FALSE NEIGHBOUR: 'it returns false'. Refute it at one input. -/
def averagePartsWrong : ChangeSpec := { name := "averageParts", fn := fun _ => fun
  | [d1, d2] => { results := [.lit (.bool false)], args := [d1, d2] }
  | _ => none }
def AveragePartsWrongFalsely : Prop := averagePartsRow.holds Try.pinned (OpenSpec.ofChange averagePartsWrong)

/-- 'sizarlaw15.AverageCounts': WHATEVER THE INPUT: true; the input reads as it did. -/
def averageCountsSpec : ChangeSpec := { name := "averageCounts", fn := fun _ => fun
  | [d1, d2] => { results := [.lit (.bool true)], args := [d1, d2] }
  | _ => none }
def averageCountsRow : OpenClaim := { program := "ytimaealmmjdjkaa", sum := "fab3fb4aa471f11e61b27e4749072d05e4c6f7465ec783e7d8ac2df5c0c3b08c", func := "sizar/sizarlaw15.AverageCounts", spec := "averageCounts", unfollowed := true, recurses := true, apart := false }
def AverageCountsSaid : Prop := averageCountsRow.holds Try.pinned (OpenSpec.ofChange averageCountsSpec)

/-- ITS FALSE NEIGHBOUR: 'it returns false'. Refute it at one input. -/
def averageCountsWrong : ChangeSpec := { name := "averageCounts", fn := fun _ => fun
  | [d1, d2] => { results := [.lit (.bool false)], args := [d1, d2] }
  | _ => none }
def AverageCountsWrongFalsely : Prop := averageCountsRow.holds Try.pinned (OpenSpec.ofChange averageCountsWrong)

/-- 'sizarlaw15.AverageBetween': WHATEVER THE INPUT: true; the input reads as it did. -/
def averageBetweenSpec : ChangeSpec := { name := "averageBetween", fn := fun _ => fun
  | [d1, d2] => { results := [.lit (.bool true)], args := [d1, d2] }
  | _ => none }
def averageBetweenRow : OpenClaim := { program := "ytimaealmmjdjkaa", sum := "fab3fb4aa471f11e61b27e4749072d05e4c6f7465ec783e7d8ac2df5c0c3b08c", func := "sizar/sizarlaw15.AverageBetween", spec := "averageBetween", unfollowed := true, recurses := true, apart := false }
def AverageBetweenSaid : Prop := averageBetweenRow.holds Try.pinned (OpenSpec.ofChange averageBetweenSpec)

/-- ITS FALSE NEIGHBOUR: 'it returns false'. Refute it at one input. -/
def averageBetweenWrong : ChangeSpec := { name := "averageBetween", fn := fun _ => fun
  | [d1, d2] => { results := [.lit (.bool false)], args := [d1, d2] }
  | _ => none }
def AverageBetweenWrongFalsely : Prop := averageBetweenRow.holds Try.pinned (OpenSpec.ofChange averageBetweenWrong)

/-- 'sizarlaw15.AverageReached': WHATEVER THE INPUT: true; the input reads as it did. -/
def averageReachedSpec : ChangeSpec := { name := "averageReached", fn := fun _ => fun
  | [d1, d2, d3] => { results := [.lit (.bool true)], args := [d1, d2, d3] }
  | _ => none }
def averageReachedRow : OpenClaim := { program := "ytimaealmmjdjkaa", sum := "fab3fb4aa471f11e61b27e4749072d05e4c6f7465ec783e7d8ac2df5c0c3b08c", func := "sizar/sizarlaw15.AverageReached", spec := "averageReached", unfollowed := true, recurses := true, apart := false }
def AverageReachedSaid : Prop := averageReachedRow.holds Try.pinned (OpenSpec.ofChange averageReachedSpec)

/-- ITS FALSE NEIGHBOUR: 'it returns false'. Refute it at one input. -/
def averageReachedWrong : ChangeSpec := { name := "averageReached", fn := fun _ => fun
  | [d1, d2, d3] => { results := [.lit (.bool false)], args := [d1, d2, d3] }
  | _ => none }
def AverageReachedWrongFalsely : Prop := averageReachedRow.holds Try.pinned (OpenSpec.ofChange averageReachedWrong)

/- THE SECOND FORM. 'bulk': how many values and letters a reading holds, each counted each time it is reached (what is shared counts as often as it is met; a slice's spare places count too). A statement '..UptoSaid' is the law's where the arguments, and the package variables that the reading takes, are together of bulk at most 1048576: NARROWER than '..Said'. Prove '..Said' where nothing that the law and all that it calls make is longer than what came in: it says more and counts as full. Else prove '..UptoSaid'. A law counts once. -/
mutual
def uptoBulk {H : Type} : DataW H → Nat
  | .lit (.string bytes) => bytes.length + 1
  | .lit _ => 1
  | .nil => 1
  | .ptr d => uptoBulk d + 1
  | .slice elems spare => uptoBulkAll elems + uptoBulkAll spare + 1
  | .agg parts => uptoBulkAll parts + 1
  | .iface _ d => uptoBulk d + 1
  | .map entries => uptoBulkEntries entries + 1
  | .held _ => 1
def uptoBulkAll {H : Type} : List (DataW H) → Nat
  | [] => 0
  | d :: r => uptoBulk d + uptoBulkAll r
def uptoBulkEntries {H : Type} : List (Lit × DataW H) → Nat
  | [] => 0
  | x :: r => uptoBulkEntry x + uptoBulkEntries r
def uptoBulkEntry {H : Type} : Lit × DataW H → Nat
  | (.string bytes, d) => bytes.length + uptoBulk d + 1
  | (_, d) => uptoBulk d + 1
 end
def uptoSmall : (H : Type) → List (DataW H) → Bool := fun _ ds => decide (uptoBulkAll ds ≤ 1048576)
def OpenSpec.upto (s : _root_.Go.ChangeSpec) : _root_.Go.OpenSpec := { _root_.Go.OpenSpec.ofChange s with cond := some uptoSmall }

/-- 'sizarlaw15.AverageSumsSpec', WHERE WHAT IT READS IS OF BULK AT MOST 1048576: true; the input reads as it did. -/
def averageSumsSpecUptoRow : OpenClaim := { program := "ytimaealmmjdjkaa", sum := "fab3fb4aa471f11e61b27e4749072d05e4c6f7465ec783e7d8ac2df5c0c3b08c", func := "sizar/sizarlaw15.AverageSumsSpec", spec := "averageSumsSpec", unfollowed := true, recurses := true, apart := false, narrowed := true }
def AverageSumsSpecUptoSaid : Prop := averageSumsSpecUptoRow.holds Try.pinned (OpenSpec.upto averageSumsSpecSpec)

/-- 'sizarlaw15.AverageCountedSpec', WHERE WHAT IT READS IS OF BULK AT MOST 1048576: true; the input reads as it did. -/
def averageCountedSpecUptoRow : OpenClaim := { program := "ytimaealmmjdjkaa", sum := "fab3fb4aa471f11e61b27e4749072d05e4c6f7465ec783e7d8ac2df5c0c3b08c", func := "sizar/sizarlaw15.AverageCountedSpec", spec := "averageCountedSpec", unfollowed := true, recurses := true, apart := false, narrowed := true }
def AverageCountedSpecUptoSaid : Prop := averageCountedSpecUptoRow.holds Try.pinned (OpenSpec.upto averageCountedSpecSpec)

/-- 'sizarlaw15.AverageNeededSpec', WHERE WHAT IT READS IS OF BULK AT MOST 1048576: true; the input reads as it did. -/
def averageNeededSpecUptoRow : OpenClaim := { program := "ytimaealmmjdjkaa", sum := "fab3fb4aa471f11e61b27e4749072d05e4c6f7465ec783e7d8ac2df5c0c3b08c", func := "sizar/sizarlaw15.AverageNeededSpec", spec := "averageNeededSpec", unfollowed := true, recurses := true, apart := false, narrowed := true }
def AverageNeededSpecUptoSaid : Prop := averageNeededSpecUptoRow.holds Try.pinned (OpenSpec.upto averageNeededSpecSpec)

/-- 'sizarlaw15.AverageParts', WHERE WHAT IT READS IS OF BULK AT MOST 1048576: true; the input reads as it did. -/
def averagePartsUptoRow : OpenClaim := { program := "ytimaealmmjdjkaa", sum := "fab3fb4aa471f11e61b27e4749072d05e4c6f7465ec783e7d8ac2df5c0c3b08c", func := "sizar/sizarlaw15.AverageParts", spec := "averageParts", unfollowed := true, recurses := true, apart := false, narrowed := true }
def AveragePartsUptoSaid : Prop := averagePartsUptoRow.holds Try.pinned (OpenSpec.upto averagePartsSpec)

/-- 'sizarlaw15.AverageCounts', WHERE WHAT IT READS IS OF BULK AT MOST 1048576: true; the input reads as it did. -/
def averageCountsUptoRow : OpenClaim := { program := "ytimaealmmjdjkaa", sum := "fab3fb4aa471f11e61b27e4749072d05e4c6f7465ec783e7d8ac2df5c0c3b08c", func := "sizar/sizarlaw15.AverageCounts", spec := "averageCounts", unfollowed := true, recurses := true, apart := false, narrowed := true }
def AverageCountsUptoSaid : Prop := averageCountsUptoRow.holds Try.pinned (OpenSpec.upto averageCountsSpec)

/-- 'sizarlaw15.AverageBetween', WHERE WHAT IT READS IS OF BULK AT MOST 1048576: true; the input reads as it did. -/
def averageBetweenUptoRow : OpenClaim := { program := "ytimaealmmjdjkaa", sum := "fab3fb4aa471f11e61b27e4749072d05e4c6f7465ec783e7d8ac2df5c0c3b08c", func := "sizar/sizarlaw15.AverageBetween", spec := "averageBetween", unfollowed := true, recurses := true, apart := false, narrowed := true }
def AverageBetweenUptoSaid : Prop := averageBetweenUptoRow.holds Try.pinned (OpenSpec.upto averageBetweenSpec)

/-- 'sizarlaw15.AverageReached', WHERE WHAT IT READS IS OF BULK AT MOST 1048576: true; the input reads as it did. -/
def averageReachedUptoRow : OpenClaim := { program := "ytimaealmmjdjkaa", sum := "fab3fb4aa471f11e61b27e4749072d05e4c6f7465ec783e7d8ac2df5c0c3b08c", func := "sizar/sizarlaw15.AverageReached", spec := "averageReached", unfollowed := true, recurses := true, apart := false, narrowed := true }
def AverageReachedUptoSaid : Prop := averageReachedUptoRow.holds Try.pinned (OpenSpec.upto averageReachedSpec)

end Rows
end Go.Proofs.Ytimaealmmjdjkaa
