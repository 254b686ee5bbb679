/-
  No cell of these rows narrows 'for every input' (looked for: loops, veiled, ifaces, maps, wideKeys, modest, calm, conditions, laid).
  DERIVED. THE GIVEN ROWS OF THIS SEAT. 5 by the template 'for every input the law returns true; each argument reads behind the call as it read before'; 0 by the template 'total and deterministic' (their statements: YtemjeppneahgeaaTotals.lean).
  GIVEN WITH THE SEED: the statements are not yours to turn. If you find one false, say at which input.
  Laid BY PROGRAM, IN A SANDBOX (cutbox-rows.mjs): the forced cells as the released guide's own fill.sh prints them over the translation 43ae0b02f5d5c701… (all of the seat's roots in one cut). By AI agents, Wed Nov 11 2026. No macro, syntax, notation, axiom, sorry.
-/
import Derived.Test.YtemjeppneahgeaaChecked
import GoSem.Claim
import GoSem.ClaimJoined
import GoSem.ClaimMapViews
import Derived.JoinedTies
import Derived.KernelRfl
namespace Go.Proofs.Ytemjeppneahgeaa
/- THE CELL 'sum', in the pinned program and in every row, IS THE sha256 OF THE DUMP (.gsa) THAT YtemjeppneahgeaaProg.lean LOADS. Nothing in Lean hashes anything: it is a label: what it is worth is what the hold of that sum in a sandbox is worth. -/
noncomputable def Try.pinned : Pinned := { name := "ytemjeppneahgeaa", sum := "43ae0b02f5d5c7013a8ee01fede398efa8a4dcb684b760fc51872bf613d8fc0e", checked := Try.checked }
namespace Rows
def none {H : Type} : Left H := { results := [], args := [] }

/-- 'tolllaw15.SectorMatchesReference': WHATEVER THE INPUT: true; the input reads as it did. -/
def sectorMatchesReferenceSpec : ChangeSpec := { name := "sectorMatchesReference", fn := fun _ => fun
  | [d1, d2, d3] => { results := [.lit (.bool true)], args := [d1, d2, d3] }
  | _ => none }
def sectorMatchesReferenceRow : OpenClaim := { program := "ytemjeppneahgeaa", sum := "43ae0b02f5d5c7013a8ee01fede398efa8a4dcb684b760fc51872bf613d8fc0e", func := "toll/tolllaw15.SectorMatchesReference", spec := "sectorMatchesReference", apart := false }
def SectorMatchesReferenceSaid : Prop := sectorMatchesReferenceRow.holds Try.pinned (OpenSpec.ofChange sectorMatchesReferenceSpec)

/-- ITS FALSE NEIGHBOUR: 'it returns false'. Refute it at one input. -/
def sectorMatchesReferenceWrong : ChangeSpec := { name := "sectorMatchesReference", fn := fun _ => fun
  | [d1, d2, d3] => { results := [.lit (.bool false)], args := [d1, d2, d3] }
  | _ => none }
def SectorMatchesReferenceWrongFalsely : Prop := sectorMatchesReferenceRow.holds Try.pinned (OpenSpec.ofChange sectorMatchesReferenceWrong)

/-- 'tolllaw15.SectorMakes': WHATEVER THE INPUT: true; the input reads as it did. -/
def sectorMakesSpec : ChangeSpec := { name := "sectorMakes", fn := fun _ => fun
  | [d] => { results := [.lit (.bool true)], args := [d] }
  | _ => none }
def sectorMakesRow : OpenClaim := { program := "ytemjeppneahgeaa", sum := "43ae0b02f5d5c7013a8ee01fede398efa8a4dcb684b760fc51872bf613d8fc0e", func := "toll/tolllaw15.SectorMakes", spec := "sectorMakes", apart := false }
def SectorMakesSaid : Prop := sectorMakesRow.holds Try.pinned (OpenSpec.ofChange sectorMakesSpec)

/-- ITS FALSE NEIGHBOUR: 'it returns false'. Refute it at one input. -/
def sectorMakesWrong : ChangeSpec := { name := "sectorMakes", fn := fun _ => fun
  | [d] => { results := [.lit (.bool false)], args := [d] }
  | _ => none }
def SectorMakesWrongFalsely : Prop := sectorMakesRow.holds Try.pinned (OpenSpec.ofChange sectorMakesWrong)

/-- 'tolllaw15.SectorOrder': WHATEVER THE INPUT: true; the input reads as it did. -/
def sectorOrderSpec : ChangeSpec := { name := "sectorOrder", fn := fun _ => fun
  | [d1, d2, d3] => { results := [.lit (.bool true)], args := [d1, d2, d3] }
  | _ => none }
def sectorOrderRow : OpenClaim := { program := "ytemjeppneahgeaa", sum := "43ae0b02f5d5c7013a8ee01fede398efa8a4dcb684b760fc51872bf613d8fc0e", func := "toll/tolllaw15.SectorOrder", spec := "sectorOrder", unfollowed := true, recurses := true, apart := false }
def SectorOrderSaid : Prop := sectorOrderRow.holds Try.pinned (OpenSpec.ofChange sectorOrderSpec)

/-- ITS FALSE NEIGHBOUR: 'it returns false'. Refute it at one input. -/
def sectorOrderWrong : ChangeSpec := { name := "sectorOrder", fn := fun _ => fun
  | [d1, d2, d3] => { results := [.lit (.bool false)], args := [d1, d2, d3] }
  | _ => none }
def SectorOrderWrongFalsely : Prop := sectorOrderRow.holds Try.pinned (OpenSpec.ofChange sectorOrderWrong)

/-- 'tolllaw15.SectorCrashes': WHATEVER THE INPUT: true; the input reads as it did. -/
def sectorCrashesSpec : ChangeSpec := { name := "sectorCrashes", fn := fun _ => fun
  | [d1, d2, d3] => { results := [.lit (.bool true)], args := [d1, d2, d3] }
  | _ => none }
def sectorCrashesRow : OpenClaim := { program := "ytemjeppneahgeaa", sum := "43ae0b02f5d5c7013a8ee01fede398efa8a4dcb684b760fc51872bf613d8fc0e", func := "toll/tolllaw15.SectorCrashes", spec := "sectorCrashes", unfollowed := true, recurses := true, apart := false }
def SectorCrashesSaid : Prop := sectorCrashesRow.holds Try.pinned (OpenSpec.ofChange sectorCrashesSpec)

/-- ITS FALSE NEIGHBOUR: 'it returns false'. Refute it at one input. -/
def sectorCrashesWrong : ChangeSpec := { name := "sectorCrashes", fn := fun _ => fun
  | [d1, d2, d3] => { results := [.lit (.bool false)], args := [d1, d2, d3] }
  | _ => none }
def SectorCrashesWrongFalsely : Prop := sectorCrashesRow.holds Try.pinned (OpenSpec.ofChange sectorCrashesWrong)

/-- 'tolllaw15.SectorLast': WHATEVER THE INPUT: true; the input reads as it did. -/
def sectorLastSpec : ChangeSpec := { name := "sectorLast", fn := fun _ => fun
  | [d1, d2, d3] => { results := [.lit (.bool true)], args := [d1, d2, d3] }
  | _ => none }
def sectorLastRow : OpenClaim := { program := "ytemjeppneahgeaa", sum := "43ae0b02f5d5c7013a8ee01fede398efa8a4dcb684b760fc51872bf613d8fc0e", func := "toll/tolllaw15.SectorLast", spec := "sectorLast", unfollowed := true, recurses := true, apart := false }
def SectorLastSaid : Prop := sectorLastRow.holds Try.pinned (OpenSpec.ofChange sectorLastSpec)

/-- ITS FALSE NEIGHBOUR: 'it returns false'. Refute it at one input. -/
def sectorLastWrong : ChangeSpec := { name := "sectorLast", fn := fun _ => fun
  | [d1, d2, d3] => { results := [.lit (.bool false)], args := [d1, d2, d3] }
  | _ => none }
def SectorLastWrongFalsely : Prop := sectorLastRow.holds Try.pinned (OpenSpec.ofChange sectorLastWrong)

/- THE SECOND FORM. 'bulk': how many values and letters a reading holds, each counted each time it is reached (what is shared counts as often as it is met; a slice's spare places count too). A statement '..UptoSaid' is the law's where the arguments, and the package variables that the reading takes, are together of bulk at most 1048576: NARROWER than '..Said'. Prove '..Said' where nothing that the law and all that it calls make is longer than what came in: it says more and counts as full. Else prove '..UptoSaid'. A law counts once. -/
mutual
def uptoBulk {H : Type} : DataW H → Nat
  | .lit (.string bytes) => bytes.length + 1
  | .lit _ => 1
  | .nil => 1
  | .ptr d => uptoBulk d + 1
  | .slice elems spare => uptoBulkAll elems + uptoBulkAll spare + 1
  | .agg parts => uptoBulkAll parts + 1
  | .iface _ d => uptoBulk d + 1
  | .map entries => uptoBulkEntries entries + 1
  | .held _ => 1
def uptoBulkAll {H : Type} : List (DataW H) → Nat
  | [] => 0
  | d :: r => uptoBulk d + uptoBulkAll r
def uptoBulkEntries {H : Type} : List (Lit × DataW H) → Nat
  | [] => 0
  | x :: r => uptoBulkEntry x + uptoBulkEntries r
def uptoBulkEntry {H : Type} : Lit × DataW H → Nat
  | (.string bytes, d) => bytes.length + uptoBulk d + 1
  | (_, d) => uptoBulk d + 1
 end
def uptoSmall : (H : Type) → List (DataW H) → Bool := fun _ ds => decide (uptoBulkAll ds ≤ 1048576)
def OpenSpec.upto (s : _root_.Go.ChangeSpec) : _root_.Go.OpenSpec := { _root_.Go.OpenSpec.ofChange s with cond := some uptoSmall }

/-- 'tolllaw15.SectorMatchesReference', WHERE WHAT IT READS IS OF BULK AT MOST 1048576: true; the input reads as it did. -/
def sectorMatchesReferenceUptoRow : OpenClaim := { program := "ytemjeppneahgeaa", sum := "43ae0b02f5d5c7013a8ee01fede398efa8a4dcb684b760fc51872bf613d8fc0e", func := "toll/tolllaw15.SectorMatchesReference", spec := "sectorMatchesReference", apart := false, narrowed := true }
def SectorMatchesReferenceUptoSaid : Prop := sectorMatchesReferenceUptoRow.holds Try.pinned (OpenSpec.upto sectorMatchesReferenceSpec)

/-- 'tolllaw15.SectorMakes', WHERE WHAT IT READS IS OF BULK AT MOST 1048576: true; the input reads as it did. -/
def sectorMakesUptoRow : OpenClaim := { program := "ytemjeppneahgeaa", sum := "43ae0b02f5d5c7013a8ee01fede398efa8a4dcb684b760fc51872bf613d8fc0e", func := "toll/tolllaw15.SectorMakes", spec := "sectorMakes", apart := false, narrowed := true }
def SectorMakesUptoSaid : Prop := sectorMakesUptoRow.holds Try.pinned (OpenSpec.upto sectorMakesSpec)

/-- 'tolllaw15.SectorOrder', WHERE WHAT IT READS IS OF BULK AT MOST 1048576: true; the input reads as it did. -/
def sectorOrderUptoRow : OpenClaim := { program := "ytemjeppneahgeaa", sum := "43ae0b02f5d5c7013a8ee01fede398efa8a4dcb684b760fc51872bf613d8fc0e", func := "toll/tolllaw15.SectorOrder", spec := "sectorOrder", unfollowed := true, recurses := true, apart := false, narrowed := true }
def SectorOrderUptoSaid : Prop := sectorOrderUptoRow.holds Try.pinned (OpenSpec.upto sectorOrderSpec)

/-- 'tolllaw15.SectorCrashes', WHERE WHAT IT READS IS OF BULK AT MOST 1048576: true; the input reads as it did. -/
def sectorCrashesUptoRow : OpenClaim := { program := "ytemjeppneahgeaa", sum := "43ae0b02f5d5c7013a8ee01fede398efa8a4dcb684b760fc51872bf613d8fc0e", func := "toll/tolllaw15.SectorCrashes", spec := "sectorCrashes", unfollowed := true, recurses := true, apart := false, narrowed := true }
def SectorCrashesUptoSaid : Prop := sectorCrashesUptoRow.holds Try.pinned (OpenSpec.upto sectorCrashesSpec)

/-- 'tolllaw15.SectorLast', WHERE WHAT IT READS IS OF BULK AT MOST 1048576: true; the input reads as it did. -/
def sectorLastUptoRow : OpenClaim := { program := "ytemjeppneahgeaa", sum := "43ae0b02f5d5c7013a8ee01fede398efa8a4dcb684b760fc51872bf613d8fc0e", func := "toll/tolllaw15.SectorLast", spec := "sectorLast", unfollowed := true, recurses := true, apart := false, narrowed := true }
def SectorLastUptoSaid : Prop := sectorLastUptoRow.holds Try.pinned (OpenSpec.upto sectorLastSpec)

end Rows
end Go.Proofs.Ytemjeppneahgeaa
