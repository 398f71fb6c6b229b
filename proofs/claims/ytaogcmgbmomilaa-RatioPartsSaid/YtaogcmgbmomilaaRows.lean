/-
  No cell of these rows narrows 'for every input' (looked for: loops, veiled, ifaces, maps, wideKeys, modest, calm, conditions, laid).
  DERIVED. THE GIVEN ROWS OF THIS SEAT. 8 by the template 'for every input the law returns true; each argument reads behind the call as it read before'; 0 by the template 'total and deterministic' (their statements: YtaogcmgbmomilaaTotals.lean).
  GIVEN WITH THE SEED: the statements are not yours to turn. If you find one false, say at which input.
  Laid BY PROGRAM, IN A SANDBOX (cutbox-rows.mjs): the forced cells as the released guide's own fill.sh prints them over the translation 5c0cab4d4aa4962a… (all of the seat's roots in one cut). By AI agents, Wed Nov 11 2026. No macro, syntax, notation, axiom, sorry.
-/
import Derived.Test.YtaogcmgbmomilaaChecked
import GoSem.Claim
import GoSem.ClaimJoined
import GoSem.ClaimMapViews
import Derived.JoinedTies
import Derived.KernelRfl
namespace Go.Proofs.Ytaogcmgbmomilaa
/- THE CELL 'sum', in the pinned program and in every row, IS THE sha256 OF THE DUMP (.gsa) THAT YtaogcmgbmomilaaProg.lean LOADS. Nothing in Lean hashes anything: it is a label: what it is worth is what the hold of that sum in a sandbox is worth. -/
noncomputable def Try.pinned : Pinned := { name := "ytaogcmgbmomilaa", sum := "5c0cab4d4aa4962a009396b1ca0bf7eb56ee966788b1d7c6c4376cfef5063dff", checked := Try.checked }
namespace Rows
def none {H : Type} : Left H := { results := [], args := [] }

/-- 'sizarlaw05.RatioNewSpec': WHATEVER THE INPUT: true; the input reads as it did. -/
def ratioNewSpecSpec : ChangeSpec := { name := "ratioNewSpec", fn := fun _ => fun
  | [d1, d2, d3] => { results := [.lit (.bool true)], args := [d1, d2, d3] }
  | _ => none }
def ratioNewSpecRow : OpenClaim := { program := "ytaogcmgbmomilaa", sum := "5c0cab4d4aa4962a009396b1ca0bf7eb56ee966788b1d7c6c4376cfef5063dff", func := "sizar/sizarlaw05.RatioNewSpec", spec := "ratioNewSpec", unfollowed := true, recurses := true, apart := false }
def RatioNewSpecSaid : Prop := ratioNewSpecRow.holds Try.pinned (OpenSpec.ofChange ratioNewSpecSpec)

/-- ITS FALSE NEIGHBOUR: 'it returns false'. Refute it at one input. -/
def ratioNewSpecWrong : ChangeSpec := { name := "ratioNewSpec", fn := fun _ => fun
  | [d1, d2, d3] => { results := [.lit (.bool false)], args := [d1, d2, d3] }
  | _ => none }
def RatioNewSpecWrongFalsely : Prop := ratioNewSpecRow.holds Try.pinned (OpenSpec.ofChange ratioNewSpecWrong)

/-- 'sizarlaw05.RatioAddSpec': WHATEVER THE INPUT: true; the input reads as it did. -/
def ratioAddSpecSpec : ChangeSpec := { name := "ratioAddSpec", fn := fun _ => fun
  | [d1, d2] => { results := [.lit (.bool true)], args := [d1, d2] }
  | _ => none }
def ratioAddSpecRow : OpenClaim := { program := "ytaogcmgbmomilaa", sum := "5c0cab4d4aa4962a009396b1ca0bf7eb56ee966788b1d7c6c4376cfef5063dff", func := "sizar/sizarlaw05.RatioAddSpec", spec := "ratioAddSpec", unfollowed := true, recurses := true, apart := false }
def RatioAddSpecSaid : Prop := ratioAddSpecRow.holds Try.pinned (OpenSpec.ofChange ratioAddSpecSpec)

/-- ITS FALSE NEIGHBOUR: 'it returns false'. Refute it at one input. -/
def ratioAddSpecWrong : ChangeSpec := { name := "ratioAddSpec", fn := fun _ => fun
  | [d1, d2] => { results := [.lit (.bool false)], args := [d1, d2] }
  | _ => none }
def RatioAddSpecWrongFalsely : Prop := ratioAddSpecRow.holds Try.pinned (OpenSpec.ofChange ratioAddSpecWrong)

/-- 'sizarlaw05.RatioMeanSpec': WHATEVER THE INPUT: true; the input reads as it did. -/
def ratioMeanSpecSpec : ChangeSpec := { name := "ratioMeanSpec", fn := fun _ => fun
  | [d1, d2] => { results := [.lit (.bool true)], args := [d1, d2] }
  | _ => none }
def ratioMeanSpecRow : OpenClaim := { program := "ytaogcmgbmomilaa", sum := "5c0cab4d4aa4962a009396b1ca0bf7eb56ee966788b1d7c6c4376cfef5063dff", func := "sizar/sizarlaw05.RatioMeanSpec", spec := "ratioMeanSpec", unfollowed := true, recurses := true, apart := false }
def RatioMeanSpecSaid : Prop := ratioMeanSpecRow.holds Try.pinned (OpenSpec.ofChange ratioMeanSpecSpec)

/-- ITS FALSE NEIGHBOUR: 'it returns false'. Refute it at one input. -/
def ratioMeanSpecWrong : ChangeSpec := { name := "ratioMeanSpec", fn := fun _ => fun
  | [d1, d2] => { results := [.lit (.bool false)], args := [d1, d2] }
  | _ => none }
def RatioMeanSpecWrongFalsely : Prop := ratioMeanSpecRow.holds Try.pinned (OpenSpec.ofChange ratioMeanSpecWrong)

/-- 'sizarlaw05.RatioField': WHATEVER THE INPUT: true; the input reads as it did. -/
def ratioFieldSpec : ChangeSpec := { name := "ratioField", fn := fun _ => fun
  | [d1, d2, d3] => { results := [.lit (.bool true)], args := [d1, d2, d3] }
  | _ => none }
def ratioFieldRow : OpenClaim := { program := "ytaogcmgbmomilaa", sum := "5c0cab4d4aa4962a009396b1ca0bf7eb56ee966788b1d7c6c4376cfef5063dff", func := "sizar/sizarlaw05.RatioField", spec := "ratioField", unfollowed := true, recurses := true, apart := false }
def RatioFieldSaid : Prop := ratioFieldRow.holds Try.pinned (OpenSpec.ofChange ratioFieldSpec)

/-- ITS FALSE NEIGHBOUR: 'it returns false'. Refute it at one input. -/
def ratioFieldWrong : ChangeSpec := { name := "ratioField", fn := fun _ => fun
  | [d1, d2, d3] => { results := [.lit (.bool false)], args := [d1, d2, d3] }
  | _ => none }
def RatioFieldWrongFalsely : Prop := ratioFieldRow.holds Try.pinned (OpenSpec.ofChange ratioFieldWrong)

/-- 'sizarlaw05.RatioOrder': WHATEVER THE INPUT: true; the input reads as it did. -/
def ratioOrderSpec : ChangeSpec := { name := "ratioOrder", fn := fun _ => fun
  | [d1, d2, d3] => { results := [.lit (.bool true)], args := [d1, d2, d3] }
  | _ => none }
def ratioOrderRow : OpenClaim := { program := "ytaogcmgbmomilaa", sum := "5c0cab4d4aa4962a009396b1ca0bf7eb56ee966788b1d7c6c4376cfef5063dff", func := "sizar/sizarlaw05.RatioOrder", spec := "ratioOrder", unfollowed := true, recurses := true, apart := false }
def RatioOrderSaid : Prop := ratioOrderRow.holds Try.pinned (OpenSpec.ofChange ratioOrderSpec)

/-- ITS FALSE NEIGHBOUR: 'it returns false'. Refute it at one input. -/
def ratioOrderWrong : ChangeSpec := { name := "ratioOrder", fn := fun _ => fun
  | [d1, d2, d3] => { results := [.lit (.bool false)], args := [d1, d2, d3] }
  | _ => none }
def RatioOrderWrongFalsely : Prop := ratioOrderRow.holds Try.pinned (OpenSpec.ofChange ratioOrderWrong)

/-- 'sizarlaw05.RatioLowest': WHATEVER THE INPUT: true; the input reads as it did. -/
def ratioLowestSpec : ChangeSpec := { name := "ratioLowest", fn := fun _ => fun
  | [d1, d2, d3] => { results := [.lit (.bool true)], args := [d1, d2, d3] }
  | _ => none }
def ratioLowestRow : OpenClaim := { program := "ytaogcmgbmomilaa", sum := "5c0cab4d4aa4962a009396b1ca0bf7eb56ee966788b1d7c6c4376cfef5063dff", func := "sizar/sizarlaw05.RatioLowest", spec := "ratioLowest", unfollowed := true, recurses := true, apart := false }
def RatioLowestSaid : Prop := ratioLowestRow.holds Try.pinned (OpenSpec.ofChange ratioLowestSpec)

/-- ITS FALSE NEIGHBOUR: 'it returns false'. Refute it at one input. -/
def ratioLowestWrong : ChangeSpec := { name := "ratioLowest", fn := fun _ => fun
  | [d1, d2, d3] => { results := [.lit (.bool false)], args := [d1, d2, d3] }
  | _ => none }
def RatioLowestWrongFalsely : Prop := ratioLowestRow.holds Try.pinned (OpenSpec.ofChange ratioLowestWrong)

/-- 'sizarlaw05.RatioBetween': WHATEVER THE INPUT: true; the input reads as it did. -/
def ratioBetweenSpec : ChangeSpec := { name := "ratioBetween", fn := fun _ => fun
  | [d1, d2, d3] => { results := [.lit (.bool true)], args := [d1, d2, d3] }
  | _ => none }
def ratioBetweenRow : OpenClaim := { program := "ytaogcmgbmomilaa", sum := "5c0cab4d4aa4962a009396b1ca0bf7eb56ee966788b1d7c6c4376cfef5063dff", func := "sizar/sizarlaw05.RatioBetween", spec := "ratioBetween", unfollowed := true, recurses := true, apart := false }
def RatioBetweenSaid : Prop := ratioBetweenRow.holds Try.pinned (OpenSpec.ofChange ratioBetweenSpec)

/-- ITS FALSE NEIGHBOUR: 'it returns false'. Refute it at one input. -/
def ratioBetweenWrong : ChangeSpec := { name := "ratioBetween", fn := fun _ => fun
  | [d1, d2, d3] => { results := [.lit (.bool false)], args := [d1, d2, d3] }
  | _ => none }
def RatioBetweenWrongFalsely : Prop := ratioBetweenRow.holds Try.pinned (OpenSpec.ofChange ratioBetweenWrong)

/-- 'sizarlaw05.RatioParts': WHATEVER THE INPUT: true; the input reads as it did. -/
def ratioPartsSpec : ChangeSpec := { name := "ratioParts", fn := fun _ => fun
  | [d1, d2, d3] => { results := [.lit (.bool true)], args := [d1, d2, d3] }
  | _ => none }
def ratioPartsRow : OpenClaim := { program := "ytaogcmgbmomilaa", sum := "5c0cab4d4aa4962a009396b1ca0bf7eb56ee966788b1d7c6c4376cfef5063dff", func := "sizar/sizarlaw05.RatioParts", spec := "ratioParts", unfollowed := true, recurses := true, apart := false }
def RatioPartsSaid : Prop := ratioPartsRow.holds Try.pinned (OpenSpec.ofChange ratioPartsSpec)

/-- ITS FALSE NEIGHBOUR: 'it returns false'. Refute it at one input. -/
def ratioPartsWrong : ChangeSpec := { name := "ratioParts", fn := fun _ => fun
  | [d1, d2, d3] => { results := [.lit (.bool false)], args := [d1, d2, d3] }
  | _ => none }
def RatioPartsWrongFalsely : Prop := ratioPartsRow.holds Try.pinned (OpenSpec.ofChange ratioPartsWrong)

/- THE SECOND FORM. 'bulk': how many values and letters a reading holds, each counted each time it is reached (what is shared counts as often as it is met; a slice's spare places count too). A statement '..UptoSaid' is the law's where the arguments, and the package variables that the reading takes, are together of bulk at most 1048576: NARROWER than '..Said'. Prove '..Said' where nothing that the law and all that it calls make is longer than what came in: it says more and counts as full. Else prove '..UptoSaid'. A law counts once. -/
mutual
def uptoBulk {H : Type} : DataW H → Nat
  | .lit (.string bytes) => bytes.length + 1
  | .lit _ => 1
  | .nil => 1
  | .ptr d => uptoBulk d + 1
  | .slice elems spare => uptoBulkAll elems + uptoBulkAll spare + 1
  | .agg parts => uptoBulkAll parts + 1
  | .iface _ d => uptoBulk d + 1
  | .map entries => uptoBulkEntries entries + 1
  | .held _ => 1
def uptoBulkAll {H : Type} : List (DataW H) → Nat
  | [] => 0
  | d :: r => uptoBulk d + uptoBulkAll r
def uptoBulkEntries {H : Type} : List (Lit × DataW H) → Nat
  | [] => 0
  | x :: r => uptoBulkEntry x + uptoBulkEntries r
def uptoBulkEntry {H : Type} : Lit × DataW H → Nat
  | (.string bytes, d) => bytes.length + uptoBulk d + 1
  | (_, d) => uptoBulk d + 1
 end
def uptoSmall : (H : Type) → List (DataW H) → Bool := fun _ ds => decide (uptoBulkAll ds ≤ 1048576)
def OpenSpec.upto (s : _root_.Go.ChangeSpec) : _root_.Go.OpenSpec := { _root_.Go.OpenSpec.ofChange s with cond := some uptoSmall }

/-- 'sizarlaw05.RatioNewSpec', WHERE WHAT IT READS IS OF BULK AT MOST 1048576: true; the input reads as it did. -/
def ratioNewSpecUptoRow : OpenClaim := { program := "ytaogcmgbmomilaa", sum := "5c0cab4d4aa4962a009396b1ca0bf7eb56ee966788b1d7c6c4376cfef5063dff", func := "sizar/sizarlaw05.RatioNewSpec", spec := "ratioNewSpec", unfollowed := true, recurses := true, apart := false, narrowed := true }
def RatioNewSpecUptoSaid : Prop := ratioNewSpecUptoRow.holds Try.pinned (OpenSpec.upto ratioNewSpecSpec)

/-- 'sizarlaw05.RatioAddSpec', WHERE WHAT IT READS IS OF BULK AT MOST 1048576: true; the input reads as it did. -/
def ratioAddSpecUptoRow : OpenClaim := { program := "ytaogcmgbmomilaa", sum := "5c0cab4d4aa4962a009396b1ca0bf7eb56ee966788b1d7c6c4376cfef5063dff", func := "sizar/sizarlaw05.RatioAddSpec", spec := "ratioAddSpec", unfollowed := true, recurses := true, apart := false, narrowed := true }
def RatioAddSpecUptoSaid : Prop := ratioAddSpecUptoRow.holds Try.pinned (OpenSpec.upto ratioAddSpecSpec)

/-- 'sizarlaw05.RatioMeanSpec', WHERE WHAT IT READS IS OF BULK AT MOST 1048576: true; the input reads as it did. -/
def ratioMeanSpecUptoRow : OpenClaim := { program := "ytaogcmgbmomilaa", sum := "5c0cab4d4aa4962a009396b1ca0bf7eb56ee966788b1d7c6c4376cfef5063dff", func := "sizar/sizarlaw05.RatioMeanSpec", spec := "ratioMeanSpec", unfollowed := true, recurses := true, apart := false, narrowed := true }
def RatioMeanSpecUptoSaid : Prop := ratioMeanSpecUptoRow.holds Try.pinned (OpenSpec.upto ratioMeanSpecSpec)

/-- 'sizarlaw05.RatioField', WHERE WHAT IT READS IS OF BULK AT MOST 1048576: true; the input reads as it did. -/
def ratioFieldUptoRow : OpenClaim := { program := "ytaogcmgbmomilaa", sum := "5c0cab4d4aa4962a009396b1ca0bf7eb56ee966788b1d7c6c4376cfef5063dff", func := "sizar/sizarlaw05.RatioField", spec := "ratioField", unfollowed := true, recurses := true, apart := false, narrowed := true }
def RatioFieldUptoSaid : Prop := ratioFieldUptoRow.holds Try.pinned (OpenSpec.upto ratioFieldSpec)

/-- 'sizarlaw05.RatioOrder', WHERE WHAT IT READS IS OF BULK AT MOST 1048576: true; the input reads as it did. -/
def ratioOrderUptoRow : OpenClaim := { program := "ytaogcmgbmomilaa", sum := "5c0cab4d4aa4962a009396b1ca0bf7eb56ee966788b1d7c6c4376cfef5063dff", func := "sizar/sizarlaw05.RatioOrder", spec := "ratioOrder", unfollowed := true, recurses := true, apart := false, narrowed := true }
def RatioOrderUptoSaid : Prop := ratioOrderUptoRow.holds Try.pinned (OpenSpec.upto ratioOrderSpec)

/-- 'sizarlaw05.RatioLowest', WHERE WHAT IT READS IS OF BULK AT MOST 1048576: true; the input reads as it did. -/
def ratioLowestUptoRow : OpenClaim := { program := "ytaogcmgbmomilaa", sum := "5c0cab4d4aa4962a009396b1ca0bf7eb56ee966788b1d7c6c4376cfef5063dff", func := "sizar/sizarlaw05.RatioLowest", spec := "ratioLowest", unfollowed := true, recurses := true, apart := false, narrowed := true }
def RatioLowestUptoSaid : Prop := ratioLowestUptoRow.holds Try.pinned (OpenSpec.upto ratioLowestSpec)

/-- 'sizarlaw05.RatioBetween', WHERE WHAT IT READS IS OF BULK AT MOST 1048576: true; the input reads as it did. -/
def ratioBetweenUptoRow : OpenClaim := { program := "ytaogcmgbmomilaa", sum := "5c0cab4d4aa4962a009396b1ca0bf7eb56ee966788b1d7c6c4376cfef5063dff", func := "sizar/sizarlaw05.RatioBetween", spec := "ratioBetween", unfollowed := true, recurses := true, apart := false, narrowed := true }
def RatioBetweenUptoSaid : Prop := ratioBetweenUptoRow.holds Try.pinned (OpenSpec.upto ratioBetweenSpec)

/-- 'sizarlaw05.RatioParts', WHERE WHAT IT READS IS OF BULK AT MOST 1048576: true; the input reads as it did. -/
def ratioPartsUptoRow : OpenClaim := { program := "ytaogcmgbmomilaa", sum := "5c0cab4d4aa4962a009396b1ca0bf7eb56ee966788b1d7c6c4376cfef5063dff", func := "sizar/sizarlaw05.RatioParts", spec := "ratioParts", unfollowed := true, recurses := true, apart := false, narrowed := true }
def RatioPartsUptoSaid : Prop := ratioPartsUptoRow.holds Try.pinned (OpenSpec.upto ratioPartsSpec)

end Rows
end Go.Proofs.Ytaogcmgbmomilaa
