/-
  No cell of these rows narrows 'for every input' (looked for: loops, veiled, ifaces, maps, wideKeys, modest, calm, conditions, laid).
  DERIVED. THE GIVEN ROWS OF THIS SEAT. 4 by the template 'for every input the law returns true; each argument reads behind the call as it read before'; 0 by the template 'total and deterministic' (their statements: YtmkiggcghbeacaaTotals.lean).
  GIVEN WITH THE SEED: the statements are not yours to turn. If you find one false, say at which input.
  Laid BY PROGRAM, IN A SANDBOX (cutbox-rows.mjs): the forced cells as the released guide's own fill.sh prints them over the translation 751a84a1129b8831… (all of the seat's roots in one cut). By AI agents, Wed Nov 11 2026. No macro, syntax, notation, axiom, sorry.
-/
import Derived.Test.YtmkiggcghbeacaaChecked
import GoSem.Claim
import GoSem.ClaimJoined
import GoSem.ClaimMapViews
import Derived.JoinedTies
import Derived.KernelRfl
namespace Go.Proofs.Ytmkiggcghbeacaa
/- THE CELL 'sum', in the pinned program and in every row, IS THE sha256 OF THE DUMP (.gsa) THAT YtmkiggcghbeacaaProg.lean LOADS. Nothing in Lean hashes anything: it is a label: what it is worth is what the hold of that sum in a sandbox is worth. -/
noncomputable def Try.pinned : Pinned := { name := "ytmkiggcghbeacaa", sum := "751a84a1129b883183a287f8ca09eef604523a5b15cd2d255b72bb5b1f939d98", checked := Try.checked }
namespace Rows
def none {H : Type} : Left H := { results := [], args := [] }

/-- 'tolllaw10.CrcMatchesReference': WHATEVER THE INPUT: true; the input reads as it did. -/
def crcMatchesReferenceSpec : ChangeSpec := { name := "crcMatchesReference", fn := fun _ => fun
  | [d] => { results := [.lit (.bool true)], args := [d] }
  | _ => none }
def crcMatchesReferenceRow : OpenClaim := { program := "ytmkiggcghbeacaa", sum := "751a84a1129b883183a287f8ca09eef604523a5b15cd2d255b72bb5b1f939d98", func := "toll/tolllaw10.CrcMatchesReference", spec := "crcMatchesReference", unfollowed := true, recurses := true, apart := false }
def CrcMatchesReferenceSaid : Prop := crcMatchesReferenceRow.holds Try.pinned (OpenSpec.ofChange crcMatchesReferenceSpec)

/-- ITS FALSE NEIGHBOUR: 'it returns false'. Refute it at one input. -/
def crcMatchesReferenceWrong : ChangeSpec := { name := "crcMatchesReference", fn := fun _ => fun
  | [d] => { results := [.lit (.bool false)], args := [d] }
  | _ => none }
def CrcMatchesReferenceWrongFalsely : Prop := crcMatchesReferenceRow.holds Try.pinned (OpenSpec.ofChange crcMatchesReferenceWrong)

/-- 'tolllaw10.CrcChecks': WHATEVER THE INPUT: true; the input reads as it did. -/
def crcChecksSpec : ChangeSpec := { name := "crcChecks", fn := fun _ => fun
  | [d] => { results := [.lit (.bool true)], args := [d] }
  | _ => none }
def crcChecksRow : OpenClaim := { program := "ytmkiggcghbeacaa", sum := "751a84a1129b883183a287f8ca09eef604523a5b15cd2d255b72bb5b1f939d98", func := "toll/tolllaw10.CrcChecks", spec := "crcChecks", unfollowed := true, recurses := true, apart := false }
def CrcChecksSaid : Prop := crcChecksRow.holds Try.pinned (OpenSpec.ofChange crcChecksSpec)

/-- ITS FALSE NEIGHBOUR: 'it returns false'. Refute it at one input. -/
def crcChecksWrong : ChangeSpec := { name := "crcChecks", fn := fun _ => fun
  | [d] => { results := [.lit (.bool false)], args := [d] }
  | _ => none }
def CrcChecksWrongFalsely : Prop := crcChecksRow.holds Try.pinned (OpenSpec.ofChange crcChecksWrong)

/-- 'tolllaw10.CrcChanges': WHATEVER THE INPUT: true; the input reads as it did. -/
def crcChangesSpec : ChangeSpec := { name := "crcChanges", fn := fun _ => fun
  | [d1, d2, d3] => { results := [.lit (.bool true)], args := [d1, d2, d3] }
  | _ => none }
def crcChangesRow : OpenClaim := { program := "ytmkiggcghbeacaa", sum := "751a84a1129b883183a287f8ca09eef604523a5b15cd2d255b72bb5b1f939d98", func := "toll/tolllaw10.CrcChanges", spec := "crcChanges", unfollowed := true, recurses := true, apart := false }
def CrcChangesSaid : Prop := crcChangesRow.holds Try.pinned (OpenSpec.ofChange crcChangesSpec)

/-- ITS FALSE NEIGHBOUR: 'it returns false'. Refute it at one input. -/
def crcChangesWrong : ChangeSpec := { name := "crcChanges", fn := fun _ => fun
  | [d1, d2, d3] => { results := [.lit (.bool false)], args := [d1, d2, d3] }
  | _ => none }
def CrcChangesWrongFalsely : Prop := crcChangesRow.holds Try.pinned (OpenSpec.ofChange crcChangesWrong)

/-- 'tolllaw10.CrcSteps': WHATEVER THE INPUT: true; the input reads as it did. -/
def crcStepsSpec : ChangeSpec := { name := "crcSteps", fn := fun _ => fun
  | [d1, d2, d3, d4] => { results := [.lit (.bool true)], args := [d1, d2, d3, d4] }
  | _ => none }
def crcStepsRow : OpenClaim := { program := "ytmkiggcghbeacaa", sum := "751a84a1129b883183a287f8ca09eef604523a5b15cd2d255b72bb5b1f939d98", func := "toll/tolllaw10.CrcSteps", spec := "crcSteps", unfollowed := true, recurses := true, apart := false }
def CrcStepsSaid : Prop := crcStepsRow.holds Try.pinned (OpenSpec.ofChange crcStepsSpec)

/-- ITS FALSE NEIGHBOUR: 'it returns false'. Refute it at one input. -/
def crcStepsWrong : ChangeSpec := { name := "crcSteps", fn := fun _ => fun
  | [d1, d2, d3, d4] => { results := [.lit (.bool false)], args := [d1, d2, d3, d4] }
  | _ => none }
def CrcStepsWrongFalsely : Prop := crcStepsRow.holds Try.pinned (OpenSpec.ofChange crcStepsWrong)

/- THE SECOND FORM. 'bulk': how many values and letters a reading holds, each counted each time it is reached (what is shared counts as often as it is met; a slice's spare places count too). A statement '..UptoSaid' is the law's where the arguments, and the package variables that the reading takes, are together of bulk at most 1048576: NARROWER than '..Said'. Prove '..Said' where nothing that the law and all that it calls make is longer than what came in: it says more and counts as full. Else prove '..UptoSaid'. A law counts once. -/
mutual
def uptoBulk {H : Type} : DataW H → Nat
  | .lit (.string bytes) => bytes.length + 1
  | .lit _ => 1
  | .nil => 1
  | .ptr d => uptoBulk d + 1
  | .slice elems spare => uptoBulkAll elems + uptoBulkAll spare + 1
  | .agg parts => uptoBulkAll parts + 1
  | .iface _ d => uptoBulk d + 1
  | .map entries => uptoBulkEntries entries + 1
  | .held _ => 1
def uptoBulkAll {H : Type} : List (DataW H) → Nat
  | [] => 0
  | d :: r => uptoBulk d + uptoBulkAll r
def uptoBulkEntries {H : Type} : List (Lit × DataW H) → Nat
  | [] => 0
  | x :: r => uptoBulkEntry x + uptoBulkEntries r
def uptoBulkEntry {H : Type} : Lit × DataW H → Nat
  | (.string bytes, d) => bytes.length + uptoBulk d + 1
  | (_, d) => uptoBulk d + 1
 end
def uptoSmall : (H : Type) → List (DataW H) → Bool := fun _ ds => decide (uptoBulkAll ds ≤ 1048576)
def OpenSpec.upto (s : _root_.Go.ChangeSpec) : _root_.Go.OpenSpec := { _root_.Go.OpenSpec.ofChange s with cond := some uptoSmall }

/-- 'tolllaw10.CrcMatchesReference', WHERE WHAT IT READS IS OF BULK AT MOST 1048576: true; the input reads as it did. -/
def crcMatchesReferenceUptoRow : OpenClaim := { program := "ytmkiggcghbeacaa", sum := "751a84a1129b883183a287f8ca09eef604523a5b15cd2d255b72bb5b1f939d98", func := "toll/tolllaw10.CrcMatchesReference", spec := "crcMatchesReference", unfollowed := true, recurses := true, apart := false, narrowed := true }
def CrcMatchesReferenceUptoSaid : Prop := crcMatchesReferenceUptoRow.holds Try.pinned (OpenSpec.upto crcMatchesReferenceSpec)

/-- 'tolllaw10.CrcChecks', WHERE WHAT IT READS IS OF BULK AT MOST 1048576: true; the input reads as it did. -/
def crcChecksUptoRow : OpenClaim := { program := "ytmkiggcghbeacaa", sum := "751a84a1129b883183a287f8ca09eef604523a5b15cd2d255b72bb5b1f939d98", func := "toll/tolllaw10.CrcChecks", spec := "crcChecks", unfollowed := true, recurses := true, apart := false, narrowed := true }
def CrcChecksUptoSaid : Prop := crcChecksUptoRow.holds Try.pinned (OpenSpec.upto crcChecksSpec)

/-- 'tolllaw10.CrcChanges', WHERE WHAT IT READS IS OF BULK AT MOST 1048576: true; the input reads as it did. -/
def crcChangesUptoRow : OpenClaim := { program := "ytmkiggcghbeacaa", sum := "751a84a1129b883183a287f8ca09eef604523a5b15cd2d255b72bb5b1f939d98", func := "toll/tolllaw10.CrcChanges", spec := "crcChanges", unfollowed := true, recurses := true, apart := false, narrowed := true }
def CrcChangesUptoSaid : Prop := crcChangesUptoRow.holds Try.pinned (OpenSpec.upto crcChangesSpec)

/-- 'tolllaw10.CrcSteps', WHERE WHAT IT READS IS OF BULK AT MOST 1048576: true; the input reads as it did. -/
def crcStepsUptoRow : OpenClaim := { program := "ytmkiggcghbeacaa", sum := "751a84a1129b883183a287f8ca09eef604523a5b15cd2d255b72bb5b1f939d98", func := "toll/tolllaw10.CrcSteps", spec := "crcSteps", unfollowed := true, recurses := true, apart := false, narrowed := true }
def CrcStepsUptoSaid : Prop := crcStepsUptoRow.holds Try.pinned (OpenSpec.upto crcStepsSpec)

end Rows
end Go.Proofs.Ytmkiggcghbeacaa
