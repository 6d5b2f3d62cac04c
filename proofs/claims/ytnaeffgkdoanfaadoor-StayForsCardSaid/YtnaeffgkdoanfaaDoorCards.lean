/-
  DERIVED. GIVEN WITH THE SEED: THE CARDS: each row of YtnaeffgkdoanfaaDoorRows.lean that lists a variable, with what it lists TIED to the program's text (the seventh form; the later family's looks); each row that meets fmt, with fmt's text TOLD by the authors' own Lean function (tested against real Go, not proved from fmt's source: count such statements apart). THE CARD IS WHAT COUNTS. Prove the row's statement (the work); the ties are given (YtnaeffgkdoanfaaDoorTie.lean); close each card by the builder's one call (the guide's Derived/Test/ToyasCard.lean, 'card_holds'). Laid BY PROGRAM, IN A SANDBOX (cutbox-door.mjs). By AI agents, Wed Nov 11 2026. No macro, syntax, notation, axiom, sorry.
-/
import Derived.Test.YtnaeffgkdoanfaaDoorRows
import GoSem.ClaimSeven
namespace Go.Proofs.YtnaeffgkdoanfaaDoor
namespace Rows

/-- THE TIED CARD OF 'fairwaylaw7.NameMatches'. -/
def nameMatchesCard : Claim7 := { stood := { row := nameMatchesRow, standIns := [], harness := (true, "6d62699919bd806f558eacb06cac8ab0a86348ad0a9302564e006299432ac5e4"), looks := false }, kinds := [], alts := [], laidByText := true, laidKinds := [.data, .pinned], laidTests := true, laidLooks := .later }
def NameMatchesCardSaid : Prop := Claim7.holds Tryd.pinned (.plain (OpenSpec.ofChange nameMatchesSpec)) nameMatchesCard

/-- THE TIED CARD OF 'fairwaylaw7.NameOwn'. -/
def nameOwnCard : Claim7 := { stood := { row := nameOwnRow, standIns := [], harness := (true, "6d62699919bd806f558eacb06cac8ab0a86348ad0a9302564e006299432ac5e4"), looks := false }, kinds := [], alts := [], laidByText := true, laidKinds := [.data, .pinned], laidTests := true, laidLooks := .later }
def NameOwnCardSaid : Prop := Claim7.holds Tryd.pinned (.plain (OpenSpec.ofChange nameOwnSpec)) nameOwnCard

/-- THE TIED CARD OF 'fairwaylaw7.NameTells'. -/
def nameTellsCard : Claim7 := { stood := { row := nameTellsRow, standIns := [], harness := (true, "6d62699919bd806f558eacb06cac8ab0a86348ad0a9302564e006299432ac5e4"), looks := false }, kinds := [], alts := [], laidByText := true, laidKinds := [.data, .pinned], laidTests := true, laidLooks := .later }
def NameTellsCardSaid : Prop := Claim7.holds Tryd.pinned (.plain (OpenSpec.ofChange nameTellsSpec)) nameTellsCard

/-- THE TIED CARD OF 'fairwaylaw7.NameDollar'. -/
def nameDollarCard : Claim7 := { stood := { row := nameDollarRow, standIns := [], harness := (true, "6d62699919bd806f558eacb06cac8ab0a86348ad0a9302564e006299432ac5e4"), looks := false }, kinds := [], alts := [], laidByText := true, laidKinds := [.data, .pinned], laidTests := true, laidLooks := .later }
def NameDollarCardSaid : Prop := Claim7.holds Tryd.pinned (.plain (OpenSpec.ofChange nameDollarSpec)) nameDollarCard

/-- THE TIED CARD OF 'fairwaylaw18.StayPuts'. -/
def stayPutsCard : Claim7 := { stood := { row := stayPutsRow, standIns := [], harness := (true, "6d62699919bd806f558eacb06cac8ab0a86348ad0a9302564e006299432ac5e4"), looks := false }, kinds := [], alts := [], laidByText := true, laidKinds := [.data, .pinned], laidTests := true, laidLooks := .later }
def StayPutsCardSaid : Prop := Claim7.holds Tryd.pinned (.plain (OpenSpec.ofChange stayPutsSpec)) stayPutsCard

/-- THE TIED CARD OF 'fairwaylaw18.StayFors'. -/
def stayForsCard : Claim7 := { stood := { row := stayForsRow, standIns := [], harness := (true, "6d62699919bd806f558eacb06cac8ab0a86348ad0a9302564e006299432ac5e4"), looks := false }, kinds := [], alts := [], laidByText := true, laidKinds := [.data, .pinned], laidTests := true, laidLooks := .later }
def StayForsCardSaid : Prop := Claim7.holds Tryd.pinned (.plain (OpenSpec.ofChange stayForsSpec)) stayForsCard

/-- THE TIED CARD OF 'fairwaylaw18.StayLast'. -/
def stayLastCard : Claim7 := { stood := { row := stayLastRow, standIns := [], harness := (true, "6d62699919bd806f558eacb06cac8ab0a86348ad0a9302564e006299432ac5e4"), looks := false }, kinds := [], alts := [], laidByText := true, laidKinds := [.data, .pinned], laidTests := true, laidLooks := .later }
def StayLastCardSaid : Prop := Claim7.holds Tryd.pinned (.plain (OpenSpec.ofChange stayLastSpec)) stayLastCard

/-- THE SECOND FORM's CARD OF 'fairwaylaw7.NameMatches'. -/
def nameMatchesUptoCard : Claim7 := { stood := { row := nameMatchesUptoRow, standIns := [], harness := (true, "6d62699919bd806f558eacb06cac8ab0a86348ad0a9302564e006299432ac5e4"), looks := false }, kinds := [], alts := [], laidByText := true, laidKinds := [.data, .pinned], laidTests := true, laidLooks := .later }
def NameMatchesUptoCardSaid : Prop := Claim7.holds Tryd.pinned (.plain (OpenSpec.upto nameMatchesSpec)) nameMatchesUptoCard

/-- THE SECOND FORM's CARD OF 'fairwaylaw7.NameOwn'. -/
def nameOwnUptoCard : Claim7 := { stood := { row := nameOwnUptoRow, standIns := [], harness := (true, "6d62699919bd806f558eacb06cac8ab0a86348ad0a9302564e006299432ac5e4"), looks := false }, kinds := [], alts := [], laidByText := true, laidKinds := [.data, .pinned], laidTests := true, laidLooks := .later }
def NameOwnUptoCardSaid : Prop := Claim7.holds Tryd.pinned (.plain (OpenSpec.upto nameOwnSpec)) nameOwnUptoCard

/-- THE SECOND FORM's CARD OF 'fairwaylaw7.NameTells'. -/
def nameTellsUptoCard : Claim7 := { stood := { row := nameTellsUptoRow, standIns := [], harness := (true, "6d62699919bd806f558eacb06cac8ab0a86348ad0a9302564e006299432ac5e4"), looks := false }, kinds := [], alts := [], laidByText := true, laidKinds := [.data, .pinned], laidTests := true, laidLooks := .later }
def NameTellsUptoCardSaid : Prop := Claim7.holds Tryd.pinned (.plain (OpenSpec.upto nameTellsSpec)) nameTellsUptoCard

/-- THE SECOND FORM's CARD OF 'fairwaylaw7.NameDollar'. -/
def nameDollarUptoCard : Claim7 := { stood := { row := nameDollarUptoRow, standIns := [], harness := (true, "6d62699919bd806f558eacb06cac8ab0a86348ad0a9302564e006299432ac5e4"), looks := false }, kinds := [], alts := [], laidByText := true, laidKinds := [.data, .pinned], laidTests := true, laidLooks := .later }
def NameDollarUptoCardSaid : Prop := Claim7.holds Tryd.pinned (.plain (OpenSpec.upto nameDollarSpec)) nameDollarUptoCard

/-- THE SECOND FORM's CARD OF 'fairwaylaw18.StayPuts'. -/
def stayPutsUptoCard : Claim7 := { stood := { row := stayPutsUptoRow, standIns := [], harness := (true, "6d62699919bd806f558eacb06cac8ab0a86348ad0a9302564e006299432ac5e4"), looks := false }, kinds := [], alts := [], laidByText := true, laidKinds := [.data, .pinned], laidTests := true, laidLooks := .later }
def StayPutsUptoCardSaid : Prop := Claim7.holds Tryd.pinned (.plain (OpenSpec.upto stayPutsSpec)) stayPutsUptoCard

/-- THE SECOND FORM's CARD OF 'fairwaylaw18.StayFors'. -/
def stayForsUptoCard : Claim7 := { stood := { row := stayForsUptoRow, standIns := [], harness := (true, "6d62699919bd806f558eacb06cac8ab0a86348ad0a9302564e006299432ac5e4"), looks := false }, kinds := [], alts := [], laidByText := true, laidKinds := [.data, .pinned], laidTests := true, laidLooks := .later }
def StayForsUptoCardSaid : Prop := Claim7.holds Tryd.pinned (.plain (OpenSpec.upto stayForsSpec)) stayForsUptoCard

/-- THE SECOND FORM's CARD OF 'fairwaylaw18.StayLast'. -/
def stayLastUptoCard : Claim7 := { stood := { row := stayLastUptoRow, standIns := [], harness := (true, "6d62699919bd806f558eacb06cac8ab0a86348ad0a9302564e006299432ac5e4"), looks := false }, kinds := [], alts := [], laidByText := true, laidKinds := [.data, .pinned], laidTests := true, laidLooks := .later }
def StayLastUptoCardSaid : Prop := Claim7.holds Tryd.pinned (.plain (OpenSpec.upto stayLastSpec)) stayLastUptoCard
end Rows
end Go.Proofs.YtnaeffgkdoanfaaDoor
