/-
  DERIVED. GIVEN WITH THE SEED: THE CARDS: each row of YtlcfaaodmickbaaGreatDoorRows.lean that lists a variable, with what it lists TIED to the program's text (the seventh form; the later family's looks); each row that meets fmt, with fmt's text TOLD by the authors' own Lean function (tested against real Go, not proved from fmt's source: count such statements apart). THE CARD IS WHAT COUNTS. Prove the row's statement (the work); the ties are given (YtlcfaaodmickbaaGreatDoorTie.lean); close each card by the builder's one call (the guide's Derived/Test/ToyasCard.lean, 'card_holds'). Laid BY PROGRAM, IN A SANDBOX (cutbox-door.mjs). By AI agents, Wed Nov 11 2026. No macro, syntax, notation, axiom, sorry.
-/
import Derived.Test.YtlcfaaodmickbaaGreatDoorRows
import GoSem.ClaimSeven
namespace Go.Proofs.YtlcfaaodmickbaaGreatDoor
namespace Rows

/-- THE TIED CARD OF 'tolltop.TopRoom'. -/
def topRoomCard : Claim7 := { stood := { row := topRoomRow, standIns := [], harness := (true, "c8eb1d76c801e3e29bccb731da9f61026041864cd8303f2112d1fa061012020b"), looks := true }, kinds := [], alts := [], laidByText := true, laidKinds := [.data], laidTests := true, laidLooks := .later }
def TopRoomCardSaid : Prop := Claim7.holds Tryz.pinned (.plain (OpenSpec.ofChange topRoomSpec)) topRoomCard

/-- THE TIED CARD OF 'tolltop.TopCompact'. -/
def topCompactCard : Claim7 := { stood := { row := topCompactRow, standIns := [], harness := (true, "c8eb1d76c801e3e29bccb731da9f61026041864cd8303f2112d1fa061012020b"), looks := true }, kinds := [], alts := [], laidByText := true, laidKinds := [.data], laidTests := true, laidLooks := .later }
def TopCompactCardSaid : Prop := Claim7.holds Tryz.pinned (.plain (OpenSpec.ofChange topCompactSpec)) topCompactCard

/-- THE TIED CARD OF 'tolltop.TopTorn'. -/
def topTornCard : Claim7 := { stood := { row := topTornRow, standIns := [], harness := (true, "c8eb1d76c801e3e29bccb731da9f61026041864cd8303f2112d1fa061012020b"), looks := true }, kinds := [], alts := [], laidByText := true, laidKinds := [.data], laidTests := true, laidLooks := .later }
def TopTornCardSaid : Prop := Claim7.holds Tryz.pinned (.plain (OpenSpec.ofChange topTornSpec)) topTornCard

/-- THE TIED CARD OF 'tolltop.TopQuarantine'. -/
def topQuarantineCard : Claim7 := { stood := { row := topQuarantineRow, standIns := [], harness := (true, "c8eb1d76c801e3e29bccb731da9f61026041864cd8303f2112d1fa061012020b"), looks := true }, kinds := [], alts := [], laidByText := true, laidKinds := [.data], laidTests := true, laidLooks := .later }
def TopQuarantineCardSaid : Prop := Claim7.holds Tryz.pinned (.plain (OpenSpec.ofChange topQuarantineSpec)) topQuarantineCard

/-- THE SECOND FORM's CARD OF 'tolltop.TopRoom'. -/
def topRoomUptoCard : Claim7 := { stood := { row := topRoomUptoRow, standIns := [], harness := (true, "c8eb1d76c801e3e29bccb731da9f61026041864cd8303f2112d1fa061012020b"), looks := true }, kinds := [], alts := [], laidByText := true, laidKinds := [.data], laidTests := true, laidLooks := .later }
def TopRoomUptoCardSaid : Prop := Claim7.holds Tryz.pinned (.plain (OpenSpec.upto topRoomSpec)) topRoomUptoCard

/-- THE SECOND FORM's CARD OF 'tolltop.TopCompact'. -/
def topCompactUptoCard : Claim7 := { stood := { row := topCompactUptoRow, standIns := [], harness := (true, "c8eb1d76c801e3e29bccb731da9f61026041864cd8303f2112d1fa061012020b"), looks := true }, kinds := [], alts := [], laidByText := true, laidKinds := [.data], laidTests := true, laidLooks := .later }
def TopCompactUptoCardSaid : Prop := Claim7.holds Tryz.pinned (.plain (OpenSpec.upto topCompactSpec)) topCompactUptoCard

/-- THE SECOND FORM's CARD OF 'tolltop.TopTorn'. -/
def topTornUptoCard : Claim7 := { stood := { row := topTornUptoRow, standIns := [], harness := (true, "c8eb1d76c801e3e29bccb731da9f61026041864cd8303f2112d1fa061012020b"), looks := true }, kinds := [], alts := [], laidByText := true, laidKinds := [.data], laidTests := true, laidLooks := .later }
def TopTornUptoCardSaid : Prop := Claim7.holds Tryz.pinned (.plain (OpenSpec.upto topTornSpec)) topTornUptoCard

/-- THE SECOND FORM's CARD OF 'tolltop.TopQuarantine'. -/
def topQuarantineUptoCard : Claim7 := { stood := { row := topQuarantineUptoRow, standIns := [], harness := (true, "c8eb1d76c801e3e29bccb731da9f61026041864cd8303f2112d1fa061012020b"), looks := true }, kinds := [], alts := [], laidByText := true, laidKinds := [.data], laidTests := true, laidLooks := .later }
def TopQuarantineUptoCardSaid : Prop := Claim7.holds Tryz.pinned (.plain (OpenSpec.upto topQuarantineSpec)) topQuarantineUptoCard
end Rows
end Go.Proofs.YtlcfaaodmickbaaGreatDoor
