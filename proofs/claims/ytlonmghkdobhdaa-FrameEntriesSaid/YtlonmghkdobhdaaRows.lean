/-
  No cell of these rows narrows 'for every input' (looked for: loops, veiled, ifaces, maps, wideKeys, modest, calm, conditions, laid).
  DERIVED. THE GIVEN ROWS OF THIS SEAT. 5 by the template 'for every input the law returns true; each argument reads behind the call as it read before'; 0 by the template 'total and deterministic' (their statements: YtlonmghkdobhdaaTotals.lean).
  GIVEN WITH THE SEED: the statements are not yours to turn. If you find one false, say at which input.
  Laid BY PROGRAM, IN A SANDBOX (cutbox-rows.mjs): the forced cells as the released guide's own fill.sh prints them over the translation 7a03aa1adf585c8c… (all of the seat's roots in one cut). By AI agents, Wed Nov 11 2026. No macro, syntax, notation, axiom, sorry.
-/
import Derived.Test.YtlonmghkdobhdaaChecked
import GoSem.Claim
import GoSem.ClaimJoined
import GoSem.ClaimMapViews
import Derived.JoinedTies
import Derived.KernelRfl
namespace Go.Proofs.Ytlonmghkdobhdaa
/- THE CELL 'sum', in the pinned program and in every row, IS THE sha256 OF THE DUMP (.gsa) THAT YtlonmghkdobhdaaProg.lean LOADS. Nothing in Lean hashes anything: it is a label: what it is worth is what the hold of that sum in a sandbox is worth. -/
noncomputable def Try.pinned : Pinned := { name := "ytlonmghkdobhdaa", sum := "7a03aa1adf585c8c0abb3b7b3905dc8945cb92f6b4b3cd2390b6f33077e66738", checked := Try.checked }
namespace Rows
def none {H : Type} : Left H := { results := [], args := [] }

/-- 'tolllaw17.FrameMakes': WHATEVER THE INPUT: true; the input reads as it did. -/
def frameMakesSpec : ChangeSpec := { name := "frameMakes", fn := fun _ => fun
  | [d1, d2] => { results := [.lit (.bool true)], args := [d1, d2] }
  | _ => none }
def frameMakesRow : OpenClaim := { program := "ytlonmghkdobhdaa", sum := "7a03aa1adf585c8c0abb3b7b3905dc8945cb92f6b4b3cd2390b6f33077e66738", func := "toll/tolllaw17.FrameMakes", spec := "frameMakes", unfollowed := true, recurses := true, apart := false }
def FrameMakesSaid : Prop := frameMakesRow.holds Try.pinned (OpenSpec.ofChange frameMakesSpec)

/-- ITS FALSE NEIGHBOUR: 'it returns false'. Refute it at one input. -/
def frameMakesWrong : ChangeSpec := { name := "frameMakes", fn := fun _ => fun
  | [d1, d2] => { results := [.lit (.bool false)], args := [d1, d2] }
  | _ => none }
def FrameMakesWrongFalsely : Prop := frameMakesRow.holds Try.pinned (OpenSpec.ofChange frameMakesWrong)

/-- 'tolllaw17.FrameTears': WHATEVER THE INPUT: true; the input reads as it did. -/
def frameTearsSpec : ChangeSpec := { name := "frameTears", fn := fun _ => fun
  | [d1, d2, d3, d4] => { results := [.lit (.bool true)], args := [d1, d2, d3, d4] }
  | _ => none }
def frameTearsRow : OpenClaim := { program := "ytlonmghkdobhdaa", sum := "7a03aa1adf585c8c0abb3b7b3905dc8945cb92f6b4b3cd2390b6f33077e66738", func := "toll/tolllaw17.FrameTears", spec := "frameTears", unfollowed := true, recurses := true, apart := false }
def FrameTearsSaid : Prop := frameTearsRow.holds Try.pinned (OpenSpec.ofChange frameTearsSpec)

/-- ITS FALSE NEIGHBOUR: 'it returns false'. Refute it at one input. -/
def frameTearsWrong : ChangeSpec := { name := "frameTears", fn := fun _ => fun
  | [d1, d2, d3, d4] => { results := [.lit (.bool false)], args := [d1, d2, d3, d4] }
  | _ => none }
def FrameTearsWrongFalsely : Prop := frameTearsRow.holds Try.pinned (OpenSpec.ofChange frameTearsWrong)

/-- 'tolllaw17.FrameChanges': WHATEVER THE INPUT: true; the input reads as it did. -/
def frameChangesSpec : ChangeSpec := { name := "frameChanges", fn := fun _ => fun
  | [d1, d2, d3, d4] => { results := [.lit (.bool true)], args := [d1, d2, d3, d4] }
  | _ => none }
def frameChangesRow : OpenClaim := { program := "ytlonmghkdobhdaa", sum := "7a03aa1adf585c8c0abb3b7b3905dc8945cb92f6b4b3cd2390b6f33077e66738", func := "toll/tolllaw17.FrameChanges", spec := "frameChanges", unfollowed := true, recurses := true, apart := false }
def FrameChangesSaid : Prop := frameChangesRow.holds Try.pinned (OpenSpec.ofChange frameChangesSpec)

/-- ITS FALSE NEIGHBOUR: 'it returns false'. Refute it at one input. -/
def frameChangesWrong : ChangeSpec := { name := "frameChanges", fn := fun _ => fun
  | [d1, d2, d3, d4] => { results := [.lit (.bool false)], args := [d1, d2, d3, d4] }
  | _ => none }
def FrameChangesWrongFalsely : Prop := frameChangesRow.holds Try.pinned (OpenSpec.ofChange frameChangesWrong)

/-- 'tolllaw17.FrameMatchesReference': WHATEVER THE INPUT: true; the input reads as it did. -/
def frameMatchesReferenceSpec : ChangeSpec := { name := "frameMatchesReference", fn := fun _ => fun
  | [d] => { results := [.lit (.bool true)], args := [d] }
  | _ => none }
def frameMatchesReferenceRow : OpenClaim := { program := "ytlonmghkdobhdaa", sum := "7a03aa1adf585c8c0abb3b7b3905dc8945cb92f6b4b3cd2390b6f33077e66738", func := "toll/tolllaw17.FrameMatchesReference", spec := "frameMatchesReference", unfollowed := true, recurses := true, apart := false }
def FrameMatchesReferenceSaid : Prop := frameMatchesReferenceRow.holds Try.pinned (OpenSpec.ofChange frameMatchesReferenceSpec)

/-- ITS FALSE NEIGHBOUR: 'it returns false'. Refute it at one input. -/
def frameMatchesReferenceWrong : ChangeSpec := { name := "frameMatchesReference", fn := fun _ => fun
  | [d] => { results := [.lit (.bool false)], args := [d] }
  | _ => none }
def FrameMatchesReferenceWrongFalsely : Prop := frameMatchesReferenceRow.holds Try.pinned (OpenSpec.ofChange frameMatchesReferenceWrong)

/-- 'tolllaw17.FrameEntries': WHATEVER THE INPUT: true; the input reads as it did. -/
def frameEntriesSpec : ChangeSpec := { name := "frameEntries", fn := fun _ => fun
  | [d1, d2] => { results := [.lit (.bool true)], args := [d1, d2] }
  | _ => none }
def frameEntriesRow : OpenClaim := { program := "ytlonmghkdobhdaa", sum := "7a03aa1adf585c8c0abb3b7b3905dc8945cb92f6b4b3cd2390b6f33077e66738", func := "toll/tolllaw17.FrameEntries", spec := "frameEntries", unfollowed := true, recurses := true, apart := false }
def FrameEntriesSaid : Prop := frameEntriesRow.holds Try.pinned (OpenSpec.ofChange frameEntriesSpec)

/-- ITS FALSE NEIGHBOUR: 'it returns false'. Refute it at one input. -/
def frameEntriesWrong : ChangeSpec := { name := "frameEntries", fn := fun _ => fun
  | [d1, d2] => { results := [.lit (.bool false)], args := [d1, d2] }
  | _ => none }
def FrameEntriesWrongFalsely : Prop := frameEntriesRow.holds Try.pinned (OpenSpec.ofChange frameEntriesWrong)

/- THE SECOND FORM. 'bulk': how many values and letters a reading holds, each counted each time it is reached (what is shared counts as often as it is met; a slice's spare places count too). A statement '..UptoSaid' is the law's where the arguments, and the package variables that the reading takes, are together of bulk at most 1048576: NARROWER than '..Said'. Prove '..Said' where nothing that the law and all that it calls make is longer than what came in: it says more and counts as full. Else prove '..UptoSaid'. A law counts once. -/
mutual
def uptoBulk {H : Type} : DataW H → Nat
  | .lit (.string bytes) => bytes.length + 1
  | .lit _ => 1
  | .nil => 1
  | .ptr d => uptoBulk d + 1
  | .slice elems spare => uptoBulkAll elems + uptoBulkAll spare + 1
  | .agg parts => uptoBulkAll parts + 1
  | .iface _ d => uptoBulk d + 1
  | .map entries => uptoBulkEntries entries + 1
  | .held _ => 1
def uptoBulkAll {H : Type} : List (DataW H) → Nat
  | [] => 0
  | d :: r => uptoBulk d + uptoBulkAll r
def uptoBulkEntries {H : Type} : List (Lit × DataW H) → Nat
  | [] => 0
  | x :: r => uptoBulkEntry x + uptoBulkEntries r
def uptoBulkEntry {H : Type} : Lit × DataW H → Nat
  | (.string bytes, d) => bytes.length + uptoBulk d + 1
  | (_, d) => uptoBulk d + 1
 end
def uptoSmall : (H : Type) → List (DataW H) → Bool := fun _ ds => decide (uptoBulkAll ds ≤ 1048576)
def OpenSpec.upto (s : _root_.Go.ChangeSpec) : _root_.Go.OpenSpec := { _root_.Go.OpenSpec.ofChange s with cond := some uptoSmall }

/-- 'tolllaw17.FrameMakes', WHERE WHAT IT READS IS OF BULK AT MOST 1048576: true; the input reads as it did. -/
def frameMakesUptoRow : OpenClaim := { program := "ytlonmghkdobhdaa", sum := "7a03aa1adf585c8c0abb3b7b3905dc8945cb92f6b4b3cd2390b6f33077e66738", func := "toll/tolllaw17.FrameMakes", spec := "frameMakes", unfollowed := true, recurses := true, apart := false, narrowed := true }
def FrameMakesUptoSaid : Prop := frameMakesUptoRow.holds Try.pinned (OpenSpec.upto frameMakesSpec)

/-- 'tolllaw17.FrameTears', WHERE WHAT IT READS IS OF BULK AT MOST 1048576: true; the input reads as it did. -/
def frameTearsUptoRow : OpenClaim := { program := "ytlonmghkdobhdaa", sum := "7a03aa1adf585c8c0abb3b7b3905dc8945cb92f6b4b3cd2390b6f33077e66738", func := "toll/tolllaw17.FrameTears", spec := "frameTears", unfollowed := true, recurses := true, apart := false, narrowed := true }
def FrameTearsUptoSaid : Prop := frameTearsUptoRow.holds Try.pinned (OpenSpec.upto frameTearsSpec)

/-- 'tolllaw17.FrameChanges', WHERE WHAT IT READS IS OF BULK AT MOST 1048576: true; the input reads as it did. -/
def frameChangesUptoRow : OpenClaim := { program := "ytlonmghkdobhdaa", sum := "7a03aa1adf585c8c0abb3b7b3905dc8945cb92f6b4b3cd2390b6f33077e66738", func := "toll/tolllaw17.FrameChanges", spec := "frameChanges", unfollowed := true, recurses := true, apart := false, narrowed := true }
def FrameChangesUptoSaid : Prop := frameChangesUptoRow.holds Try.pinned (OpenSpec.upto frameChangesSpec)

/-- 'tolllaw17.FrameMatchesReference', WHERE WHAT IT READS IS OF BULK AT MOST 1048576: true; the input reads as it did. -/
def frameMatchesReferenceUptoRow : OpenClaim := { program := "ytlonmghkdobhdaa", sum := "7a03aa1adf585c8c0abb3b7b3905dc8945cb92f6b4b3cd2390b6f33077e66738", func := "toll/tolllaw17.FrameMatchesReference", spec := "frameMatchesReference", unfollowed := true, recurses := true, apart := false, narrowed := true }
def FrameMatchesReferenceUptoSaid : Prop := frameMatchesReferenceUptoRow.holds Try.pinned (OpenSpec.upto frameMatchesReferenceSpec)

/-- 'tolllaw17.FrameEntries', WHERE WHAT IT READS IS OF BULK AT MOST 1048576: true; the input reads as it did. -/
def frameEntriesUptoRow : OpenClaim := { program := "ytlonmghkdobhdaa", sum := "7a03aa1adf585c8c0abb3b7b3905dc8945cb92f6b4b3cd2390b6f33077e66738", func := "toll/tolllaw17.FrameEntries", spec := "frameEntries", unfollowed := true, recurses := true, apart := false, narrowed := true }
def FrameEntriesUptoSaid : Prop := frameEntriesUptoRow.holds Try.pinned (OpenSpec.upto frameEntriesSpec)

end Rows
end Go.Proofs.Ytlonmghkdobhdaa
