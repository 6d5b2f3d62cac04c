/-
  DERIVED. GIVEN WITH THE SEED: THE CARDS: each row of YtoflajekfpggbaaDoorRows.lean that lists a variable, with what it lists TIED to the program's text (the seventh form; the later family's looks); each row that meets fmt, with fmt's text TOLD by the authors' own Lean function (tested against real Go, not proved from fmt's source: count such statements apart). THE CARD IS WHAT COUNTS. Prove the row's statement (the work); the ties are given (YtoflajekfpggbaaDoorTie.lean); close each card by the builder's one call (the guide's Derived/Test/ToyasCard.lean, 'card_holds'). Laid BY PROGRAM, IN A SANDBOX (cutbox-door.mjs). By AI agents, Wed Nov 11 2026. No macro, syntax, notation, axiom, sorry.
-/
import Derived.Test.YtoflajekfpggbaaDoorRows
import GoSem.ClaimSeven
namespace Go.Proofs.YtoflajekfpggbaaDoor
namespace Rows

/-- THE TIED CARD OF 'fairwaylaw17.GroupCommits'. -/
def groupCommitsCard : Claim7 := { stood := { row := groupCommitsRow, standIns := [], harness := (true, "a8e7c5d48ca741f49540bc1cee67b4163bad9d20a820b1a68ae75871b96fa5cc"), looks := true }, kinds := [], alts := [], laidByText := true, laidKinds := [.data, .pinned], laidTests := true, laidLooks := .later }
def GroupCommitsCardSaid : Prop := Claim7.holds Tryd.pinned (.plain (OpenSpec.ofChange groupCommitsSpec)) groupCommitsCard

/-- THE TIED CARD OF 'fairwaylaw17.GroupRises'. -/
def groupRisesCard : Claim7 := { stood := { row := groupRisesRow, standIns := [], harness := (true, "a8e7c5d48ca741f49540bc1cee67b4163bad9d20a820b1a68ae75871b96fa5cc"), looks := true }, kinds := [], alts := [], laidByText := true, laidKinds := [.data, .pinned], laidTests := true, laidLooks := .later }
def GroupRisesCardSaid : Prop := Claim7.holds Tryd.pinned (.plain (OpenSpec.ofChange groupRisesSpec)) groupRisesCard

/-- THE TIED CARD OF 'fairwaylaw17.GroupLines'. -/
def groupLinesCard : Claim7 := { stood := { row := groupLinesRow, standIns := [], harness := (true, "a8e7c5d48ca741f49540bc1cee67b4163bad9d20a820b1a68ae75871b96fa5cc"), looks := true }, kinds := [], alts := [], laidByText := true, laidKinds := [.data, .data, .data, .data, .sentinel, .sentinel, .pinned], laidTests := true, laidLooks := .later }
def GroupLinesCardSaid : Prop := Claim7.holds Tryd.pinned (.plain (OpenSpec.ofChange groupLinesSpec)) groupLinesCard

/-- THE SECOND FORM's CARD OF 'fairwaylaw17.GroupCommits'. -/
def groupCommitsUptoCard : Claim7 := { stood := { row := groupCommitsUptoRow, standIns := [], harness := (true, "a8e7c5d48ca741f49540bc1cee67b4163bad9d20a820b1a68ae75871b96fa5cc"), looks := true }, kinds := [], alts := [], laidByText := true, laidKinds := [.data, .pinned], laidTests := true, laidLooks := .later }
def GroupCommitsUptoCardSaid : Prop := Claim7.holds Tryd.pinned (.plain (OpenSpec.upto groupCommitsSpec)) groupCommitsUptoCard

/-- THE SECOND FORM's CARD OF 'fairwaylaw17.GroupRises'. -/
def groupRisesUptoCard : Claim7 := { stood := { row := groupRisesUptoRow, standIns := [], harness := (true, "a8e7c5d48ca741f49540bc1cee67b4163bad9d20a820b1a68ae75871b96fa5cc"), looks := true }, kinds := [], alts := [], laidByText := true, laidKinds := [.data, .pinned], laidTests := true, laidLooks := .later }
def GroupRisesUptoCardSaid : Prop := Claim7.holds Tryd.pinned (.plain (OpenSpec.upto groupRisesSpec)) groupRisesUptoCard

/-- THE SECOND FORM's CARD OF 'fairwaylaw17.GroupLines'. -/
def groupLinesUptoCard : Claim7 := { stood := { row := groupLinesUptoRow, standIns := [], harness := (true, "a8e7c5d48ca741f49540bc1cee67b4163bad9d20a820b1a68ae75871b96fa5cc"), looks := true }, kinds := [], alts := [], laidByText := true, laidKinds := [.data, .data, .data, .data, .sentinel, .sentinel, .pinned], laidTests := true, laidLooks := .later }
def GroupLinesUptoCardSaid : Prop := Claim7.holds Tryd.pinned (.plain (OpenSpec.upto groupLinesSpec)) groupLinesUptoCard
end Rows
end Go.Proofs.YtoflajekfpggbaaDoor
