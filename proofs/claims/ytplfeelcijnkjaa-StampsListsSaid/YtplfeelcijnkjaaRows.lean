/-
  No cell of these rows narrows 'for every input' (looked for: loops, veiled, ifaces, maps, wideKeys, modest, calm, conditions, laid).
  DERIVED. THE GIVEN ROWS OF THIS SEAT. 7 by the template 'for every input the law returns true; each argument reads behind the call as it read before'; 0 by the template 'total and deterministic' (their statements: YtplfeelcijnkjaaTotals.lean).
  GIVEN WITH THE SEED: the statements are not yours to turn. If you find one false, say at which input.
  Laid BY PROGRAM, IN A SANDBOX (cutbox-rows.mjs): the forced cells as the released guide's own fill.sh prints them over the translation 61d11fd7b5327ebd… (all of the seat's roots in one cut). By AI agents, Wed Nov 11 2026. No macro, syntax, notation, axiom, sorry.
-/
import Derived.Test.YtplfeelcijnkjaaChecked
import GoSem.Claim
import GoSem.ClaimJoined
import GoSem.ClaimMapViews
import Derived.JoinedTies
import Derived.KernelRfl
namespace Go.Proofs.Ytplfeelcijnkjaa
/- THE CELL 'sum', in the pinned program and in every row, IS THE sha256 OF THE DUMP (.gsa) THAT YtplfeelcijnkjaaProg.lean LOADS. Nothing in Lean hashes anything: it is a label: what it is worth is what the hold of that sum in a sandbox is worth. -/
noncomputable def Try.pinned : Pinned := { name := "ytplfeelcijnkjaa", sum := "61d11fd7b5327ebd8bc029240a25d18943ab3b2ecff562bc7403358b42eeb983", checked := Try.checked }
namespace Rows
def none {H : Type} : Left H := { results := [], args := [] }

/-- 'sizarlaw08.StampsSpec': WHATEVER THE INPUT: true; the input reads as it did. -/
def stampsSpecSpec : ChangeSpec := { name := "stampsSpec", fn := fun _ => fun
  | [d1, d2, d3] => { results := [.lit (.bool true)], args := [d1, d2, d3] }
  | _ => none }
def stampsSpecRow : OpenClaim := { program := "ytplfeelcijnkjaa", sum := "61d11fd7b5327ebd8bc029240a25d18943ab3b2ecff562bc7403358b42eeb983", func := "sizar/sizarlaw08.StampsSpec", spec := "stampsSpec", unfollowed := true, recurses := true, apart := false }
def StampsSpecSaid : Prop := stampsSpecRow.holds Try.pinned (OpenSpec.ofChange stampsSpecSpec)

/-- ITS FALSE NEIGHBOUR: 'it returns false'. Refute it at one input. -/
def stampsSpecWrong : ChangeSpec := { name := "stampsSpec", fn := fun _ => fun
  | [d1, d2, d3] => { results := [.lit (.bool false)], args := [d1, d2, d3] }
  | _ => none }
def StampsSpecWrongFalsely : Prop := stampsSpecRow.holds Try.pinned (OpenSpec.ofChange stampsSpecWrong)

/-- 'sizarlaw08.StampsNextSpec': WHATEVER THE INPUT: true; the input reads as it did. -/
def stampsNextSpecSpec : ChangeSpec := { name := "stampsNextSpec", fn := fun _ => fun
  | [d1, d2, d3, d4] => { results := [.lit (.bool true)], args := [d1, d2, d3, d4] }
  | _ => none }
def stampsNextSpecRow : OpenClaim := { program := "ytplfeelcijnkjaa", sum := "61d11fd7b5327ebd8bc029240a25d18943ab3b2ecff562bc7403358b42eeb983", func := "sizar/sizarlaw08.StampsNextSpec", spec := "stampsNextSpec", unfollowed := true, recurses := true, apart := false }
def StampsNextSpecSaid : Prop := stampsNextSpecRow.holds Try.pinned (OpenSpec.ofChange stampsNextSpecSpec)

/-- ITS FALSE NEIGHBOUR: 'it returns false'. Refute it at one input. -/
def stampsNextSpecWrong : ChangeSpec := { name := "stampsNextSpec", fn := fun _ => fun
  | [d1, d2, d3, d4] => { results := [.lit (.bool false)], args := [d1, d2, d3, d4] }
  | _ => none }
def StampsNextSpecWrongFalsely : Prop := stampsNextSpecRow.holds Try.pinned (OpenSpec.ofChange stampsNextSpecWrong)

/-- 'sizarlaw08.StampsTotal': WHATEVER THE INPUT: true; the input reads as it did. -/
def stampsTotalSpec : ChangeSpec := { name := "stampsTotal", fn := fun _ => fun
  | [d1, d2, d3] => { results := [.lit (.bool true)], args := [d1, d2, d3] }
  | _ => none }
def stampsTotalRow : OpenClaim := { program := "ytplfeelcijnkjaa", sum := "61d11fd7b5327ebd8bc029240a25d18943ab3b2ecff562bc7403358b42eeb983", func := "sizar/sizarlaw08.StampsTotal", spec := "stampsTotal", unfollowed := true, recurses := true, apart := false }
def StampsTotalSaid : Prop := stampsTotalRow.holds Try.pinned (OpenSpec.ofChange stampsTotalSpec)

/-- ITS FALSE NEIGHBOUR: 'it returns false'. Refute it at one input. -/
def stampsTotalWrong : ChangeSpec := { name := "stampsTotal", fn := fun _ => fun
  | [d1, d2, d3] => { results := [.lit (.bool false)], args := [d1, d2, d3] }
  | _ => none }
def StampsTotalWrongFalsely : Prop := stampsTotalRow.holds Try.pinned (OpenSpec.ofChange stampsTotalWrong)

/-- 'sizarlaw08.StampsKnown': WHATEVER THE INPUT: true; the input reads as it did. -/
def stampsKnownSpec : ChangeSpec := { name := "stampsKnown", fn := fun _ => fun
  | [d1, d2] => { results := [.lit (.bool true)], args := [d1, d2] }
  | _ => none }
def stampsKnownRow : OpenClaim := { program := "ytplfeelcijnkjaa", sum := "61d11fd7b5327ebd8bc029240a25d18943ab3b2ecff562bc7403358b42eeb983", func := "sizar/sizarlaw08.StampsKnown", spec := "stampsKnown", unfollowed := true, recurses := true, apart := false }
def StampsKnownSaid : Prop := stampsKnownRow.holds Try.pinned (OpenSpec.ofChange stampsKnownSpec)

/-- ITS FALSE NEIGHBOUR: 'it returns false'. Refute it at one input. -/
def stampsKnownWrong : ChangeSpec := { name := "stampsKnown", fn := fun _ => fun
  | [d1, d2] => { results := [.lit (.bool false)], args := [d1, d2] }
  | _ => none }
def StampsKnownWrongFalsely : Prop := stampsKnownRow.holds Try.pinned (OpenSpec.ofChange stampsKnownWrong)

/-- 'sizarlaw08.StampsLater': WHATEVER THE INPUT: true; the input reads as it did. -/
def stampsLaterSpec : ChangeSpec := { name := "stampsLater", fn := fun _ => fun
  | [d1, d2, d3] => { results := [.lit (.bool true)], args := [d1, d2, d3] }
  | _ => none }
def stampsLaterRow : OpenClaim := { program := "ytplfeelcijnkjaa", sum := "61d11fd7b5327ebd8bc029240a25d18943ab3b2ecff562bc7403358b42eeb983", func := "sizar/sizarlaw08.StampsLater", spec := "stampsLater", unfollowed := true, recurses := true, apart := false }
def StampsLaterSaid : Prop := stampsLaterRow.holds Try.pinned (OpenSpec.ofChange stampsLaterSpec)

/-- ITS FALSE NEIGHBOUR: 'it returns false'. Refute it at one input. -/
def stampsLaterWrong : ChangeSpec := { name := "stampsLater", fn := fun _ => fun
  | [d1, d2, d3] => { results := [.lit (.bool false)], args := [d1, d2, d3] }
  | _ => none }
def StampsLaterWrongFalsely : Prop := stampsLaterRow.holds Try.pinned (OpenSpec.ofChange stampsLaterWrong)

/-- 'sizarlaw08.StampsMerge': WHATEVER THE INPUT: true; the input reads as it did. -/
def stampsMergeSpec : ChangeSpec := { name := "stampsMerge", fn := fun _ => fun
  | [d1, d2, d3] => { results := [.lit (.bool true)], args := [d1, d2, d3] }
  | _ => none }
def stampsMergeRow : OpenClaim := { program := "ytplfeelcijnkjaa", sum := "61d11fd7b5327ebd8bc029240a25d18943ab3b2ecff562bc7403358b42eeb983", func := "sizar/sizarlaw08.StampsMerge", spec := "stampsMerge", unfollowed := true, recurses := true, apart := false }
def StampsMergeSaid : Prop := stampsMergeRow.holds Try.pinned (OpenSpec.ofChange stampsMergeSpec)

/-- ITS FALSE NEIGHBOUR: 'it returns false'. Refute it at one input. -/
def stampsMergeWrong : ChangeSpec := { name := "stampsMerge", fn := fun _ => fun
  | [d1, d2, d3] => { results := [.lit (.bool false)], args := [d1, d2, d3] }
  | _ => none }
def StampsMergeWrongFalsely : Prop := stampsMergeRow.holds Try.pinned (OpenSpec.ofChange stampsMergeWrong)

/-- 'sizarlaw08.StampsLists': WHATEVER THE INPUT: true; the input reads as it did. -/
def stampsListsSpec : ChangeSpec := { name := "stampsLists", fn := fun _ => fun
  | [d1, d2, d3] => { results := [.lit (.bool true)], args := [d1, d2, d3] }
  | _ => none }
def stampsListsRow : OpenClaim := { program := "ytplfeelcijnkjaa", sum := "61d11fd7b5327ebd8bc029240a25d18943ab3b2ecff562bc7403358b42eeb983", func := "sizar/sizarlaw08.StampsLists", spec := "stampsLists", unfollowed := true, recurses := true, apart := false }
def StampsListsSaid : Prop := stampsListsRow.holds Try.pinned (OpenSpec.ofChange stampsListsSpec)

/-- ITS FALSE NEIGHBOUR: 'it returns false'. Refute it at one input. -/
def stampsListsWrong : ChangeSpec := { name := "stampsLists", fn := fun _ => fun
  | [d1, d2, d3] => { results := [.lit (.bool false)], args := [d1, d2, d3] }
  | _ => none }
def StampsListsWrongFalsely : Prop := stampsListsRow.holds Try.pinned (OpenSpec.ofChange stampsListsWrong)

/- THE SECOND FORM. 'bulk': how many values and letters a reading holds, each counted each time it is reached (what is shared counts as often as it is met; a slice's spare places count too). A statement '..UptoSaid' is the law's where the arguments, and the package variables that the reading takes, are together of bulk at most 1048576: NARROWER than '..Said'. Prove '..Said' where nothing that the law and all that it calls make is longer than what came in: it says more and counts as full. Else prove '..UptoSaid'. A law counts once. -/
mutual
def uptoBulk {H : Type} : DataW H → Nat
  | .lit (.string bytes) => bytes.length + 1
  | .lit _ => 1
  | .nil => 1
  | .ptr d => uptoBulk d + 1
  | .slice elems spare => uptoBulkAll elems + uptoBulkAll spare + 1
  | .agg parts => uptoBulkAll parts + 1
  | .iface _ d => uptoBulk d + 1
  | .map entries => uptoBulkEntries entries + 1
  | .held _ => 1
def uptoBulkAll {H : Type} : List (DataW H) → Nat
  | [] => 0
  | d :: r => uptoBulk d + uptoBulkAll r
def uptoBulkEntries {H : Type} : List (Lit × DataW H) → Nat
  | [] => 0
  | x :: r => uptoBulkEntry x + uptoBulkEntries r
def uptoBulkEntry {H : Type} : Lit × DataW H → Nat
  | (.string bytes, d) => bytes.length + uptoBulk d + 1
  | (_, d) => uptoBulk d + 1
 end
def uptoSmall : (H : Type) → List (DataW H) → Bool := fun _ ds => decide (uptoBulkAll ds ≤ 1048576)
def OpenSpec.upto (s : _root_.Go.ChangeSpec) : _root_.Go.OpenSpec := { _root_.Go.OpenSpec.ofChange s with cond := some uptoSmall }

/-- 'sizarlaw08.StampsSpec', WHERE WHAT IT READS IS OF BULK AT MOST 1048576: true; the input reads as it did. -/
def stampsSpecUptoRow : OpenClaim := { program := "ytplfeelcijnkjaa", sum := "61d11fd7b5327ebd8bc029240a25d18943ab3b2ecff562bc7403358b42eeb983", func := "sizar/sizarlaw08.StampsSpec", spec := "stampsSpec", unfollowed := true, recurses := true, apart := false, narrowed := true }
def StampsSpecUptoSaid : Prop := stampsSpecUptoRow.holds Try.pinned (OpenSpec.upto stampsSpecSpec)

/-- 'sizarlaw08.StampsNextSpec', WHERE WHAT IT READS IS OF BULK AT MOST 1048576: true; the input reads as it did. -/
def stampsNextSpecUptoRow : OpenClaim := { program := "ytplfeelcijnkjaa", sum := "61d11fd7b5327ebd8bc029240a25d18943ab3b2ecff562bc7403358b42eeb983", func := "sizar/sizarlaw08.StampsNextSpec", spec := "stampsNextSpec", unfollowed := true, recurses := true, apart := false, narrowed := true }
def StampsNextSpecUptoSaid : Prop := stampsNextSpecUptoRow.holds Try.pinned (OpenSpec.upto stampsNextSpecSpec)

/-- 'sizarlaw08.StampsTotal', WHERE WHAT IT READS IS OF BULK AT MOST 1048576: true; the input reads as it did. -/
def stampsTotalUptoRow : OpenClaim := { program := "ytplfeelcijnkjaa", sum := "61d11fd7b5327ebd8bc029240a25d18943ab3b2ecff562bc7403358b42eeb983", func := "sizar/sizarlaw08.StampsTotal", spec := "stampsTotal", unfollowed := true, recurses := true, apart := false, narrowed := true }
def StampsTotalUptoSaid : Prop := stampsTotalUptoRow.holds Try.pinned (OpenSpec.upto stampsTotalSpec)

/-- 'sizarlaw08.StampsKnown', WHERE WHAT IT READS IS OF BULK AT MOST 1048576: true; the input reads as it did. -/
def stampsKnownUptoRow : OpenClaim := { program := "ytplfeelcijnkjaa", sum := "61d11fd7b5327ebd8bc029240a25d18943ab3b2ecff562bc7403358b42eeb983", func := "sizar/sizarlaw08.StampsKnown", spec := "stampsKnown", unfollowed := true, recurses := true, apart := false, narrowed := true }
def StampsKnownUptoSaid : Prop := stampsKnownUptoRow.holds Try.pinned (OpenSpec.upto stampsKnownSpec)

/-- 'sizarlaw08.StampsLater', WHERE WHAT IT READS IS OF BULK AT MOST 1048576: true; the input reads as it did. -/
def stampsLaterUptoRow : OpenClaim := { program := "ytplfeelcijnkjaa", sum := "61d11fd7b5327ebd8bc029240a25d18943ab3b2ecff562bc7403358b42eeb983", func := "sizar/sizarlaw08.StampsLater", spec := "stampsLater", unfollowed := true, recurses := true, apart := false, narrowed := true }
def StampsLaterUptoSaid : Prop := stampsLaterUptoRow.holds Try.pinned (OpenSpec.upto stampsLaterSpec)

/-- 'sizarlaw08.StampsMerge', WHERE WHAT IT READS IS OF BULK AT MOST 1048576: true; the input reads as it did. -/
def stampsMergeUptoRow : OpenClaim := { program := "ytplfeelcijnkjaa", sum := "61d11fd7b5327ebd8bc029240a25d18943ab3b2ecff562bc7403358b42eeb983", func := "sizar/sizarlaw08.StampsMerge", spec := "stampsMerge", unfollowed := true, recurses := true, apart := false, narrowed := true }
def StampsMergeUptoSaid : Prop := stampsMergeUptoRow.holds Try.pinned (OpenSpec.upto stampsMergeSpec)

/-- 'sizarlaw08.StampsLists', WHERE WHAT IT READS IS OF BULK AT MOST 1048576: true; the input reads as it did. -/
def stampsListsUptoRow : OpenClaim := { program := "ytplfeelcijnkjaa", sum := "61d11fd7b5327ebd8bc029240a25d18943ab3b2ecff562bc7403358b42eeb983", func := "sizar/sizarlaw08.StampsLists", spec := "stampsLists", unfollowed := true, recurses := true, apart := false, narrowed := true }
def StampsListsUptoSaid : Prop := stampsListsUptoRow.holds Try.pinned (OpenSpec.upto stampsListsSpec)

end Rows
end Go.Proofs.Ytplfeelcijnkjaa
