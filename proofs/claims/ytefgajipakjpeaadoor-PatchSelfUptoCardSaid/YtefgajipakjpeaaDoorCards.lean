/-
  DERIVED. GIVEN WITH THE SEED: THE CARDS: each row of YtefgajipakjpeaaDoorRows.lean that lists a variable, with what it lists TIED to the program's text (the seventh form; the later family's looks); each row that meets fmt, with fmt's text TOLD by the authors' own Lean function (tested against real Go, not proved from fmt's source: count such statements apart). THE CARD IS WHAT COUNTS. Prove the row's statement (the work); the ties are given (YtefgajipakjpeaaDoorTie.lean); close each card by the builder's one call (the guide's Derived/Test/ToyasCard.lean, 'card_holds'). Laid BY PROGRAM, IN A SANDBOX (cutbox-door.mjs). By AI agents, Wed Nov 11 2026. No macro, syntax, notation, axiom, sorry.
-/
import Derived.Test.YtefgajipakjpeaaDoorRows
import GoSem.ClaimSeven
namespace Go.Proofs.YtefgajipakjpeaaDoor
namespace Rows

/-- THE TIED CARD OF 'linchpinlaw27.PatchReads'. -/
def patchReadsCard : Claim7 := { stood := { row := patchReadsRow, standIns := [], harness := (true, "c053927256b2d9fa084383df73633ede588a5a14d154e9cf39f22f94691d3852"), looks := false }, kinds := [], alts := [], laidByText := true, laidKinds := [.data, .data], laidTests := true, laidLooks := .later }
def PatchReadsCardSaid : Prop := Claim7.holds Tryd.pinned (.plain (OpenSpec.ofChange patchReadsSpec)) patchReadsCard

/-- THE TIED CARD OF 'linchpinlaw27.PatchSelf'. -/
def patchSelfCard : Claim7 := { stood := { row := patchSelfRow, standIns := [], harness := (true, "c053927256b2d9fa084383df73633ede588a5a14d154e9cf39f22f94691d3852"), looks := false }, kinds := [], alts := [], laidByText := true, laidKinds := [.data, .data], laidTests := true, laidLooks := .later }
def PatchSelfCardSaid : Prop := Claim7.holds Tryd.pinned (.plain (OpenSpec.ofChange patchSelfSpec)) patchSelfCard

/-- THE TIED CARD OF 'linchpinlaw27.PatchJoins'. -/
def patchJoinsCard : Claim7 := { stood := { row := patchJoinsRow, standIns := [], harness := (true, "c053927256b2d9fa084383df73633ede588a5a14d154e9cf39f22f94691d3852"), looks := false }, kinds := [], alts := [], laidByText := true, laidKinds := [.data, .data], laidTests := true, laidLooks := .later }
def PatchJoinsCardSaid : Prop := Claim7.holds Tryd.pinned (.plain (OpenSpec.ofChange patchJoinsSpec)) patchJoinsCard

/-- THE SECOND FORM's CARD OF 'linchpinlaw27.PatchReads'. -/
def patchReadsUptoCard : Claim7 := { stood := { row := patchReadsUptoRow, standIns := [], harness := (true, "c053927256b2d9fa084383df73633ede588a5a14d154e9cf39f22f94691d3852"), looks := false }, kinds := [], alts := [], laidByText := true, laidKinds := [.data, .data], laidTests := true, laidLooks := .later }
def PatchReadsUptoCardSaid : Prop := Claim7.holds Tryd.pinned (.plain (OpenSpec.upto patchReadsSpec)) patchReadsUptoCard

/-- THE SECOND FORM's CARD OF 'linchpinlaw27.PatchSelf'. -/
def patchSelfUptoCard : Claim7 := { stood := { row := patchSelfUptoRow, standIns := [], harness := (true, "c053927256b2d9fa084383df73633ede588a5a14d154e9cf39f22f94691d3852"), looks := false }, kinds := [], alts := [], laidByText := true, laidKinds := [.data, .data], laidTests := true, laidLooks := .later }
def PatchSelfUptoCardSaid : Prop := Claim7.holds Tryd.pinned (.plain (OpenSpec.upto patchSelfSpec)) patchSelfUptoCard

/-- THE SECOND FORM's CARD OF 'linchpinlaw27.PatchJoins'. -/
def patchJoinsUptoCard : Claim7 := { stood := { row := patchJoinsUptoRow, standIns := [], harness := (true, "c053927256b2d9fa084383df73633ede588a5a14d154e9cf39f22f94691d3852"), looks := false }, kinds := [], alts := [], laidByText := true, laidKinds := [.data, .data], laidTests := true, laidLooks := .later }
def PatchJoinsUptoCardSaid : Prop := Claim7.holds Tryd.pinned (.plain (OpenSpec.upto patchJoinsSpec)) patchJoinsUptoCard
end Rows
end Go.Proofs.YtefgajipakjpeaaDoor
