/-
  NARROWER THAN 'FOR EVERY INPUT', by the rows' own cells (each row's printed sentence says how): NameMatches: laid · NameOwn: laid · NameTells: laid · NameDollar: laid · StayPuts: laid · StayFors: laid · StayLast: laid.
  DERIVED. THE GIVEN ROWS OF THIS SEAT. 7 by the template 'for every input the law returns true; each argument reads behind the call as it read before'; 0 by the template 'total and deterministic' (their statements: YtnaeffgkdoanfaaDoorTotals.lean).
  GIVEN WITH THE SEED: the statements are not yours to turn. If you find one false, say at which input.
  Laid BY PROGRAM, IN A SANDBOX (cutbox-rows.mjs): the forced cells as the released guide's own fill.sh prints them over the translation de513f4b1c2963a9… (all of the seat's roots in one cut). By AI agents, Wed Nov 11 2026. No macro, syntax, notation, axiom, sorry.
-/
import Derived.Test.YtnaeffgkdoanfaaDoorChecked
import GoSem.PinnedTables
import GoSem.Claim
import GoSem.ClaimJoined
import GoSem.ClaimMapViews
import Derived.JoinedTies
import Derived.KernelRfl
namespace Go.Proofs.YtnaeffgkdoanfaaDoor
/- THE CELL 'sum', in the pinned program and in every row, IS THE sha256 OF THE DUMP (.gsa) THAT YtnaeffgkdoanfaaDoorProg.lean LOADS. Nothing in Lean hashes anything: it is a label: what it is worth is what the hold of that sum in a sandbox is worth. -/
noncomputable def Tryd.pinned : Pinned := { name := "ytnaeffgkdoanfaadoor", sum := "de513f4b1c2963a9990c43164f28601b6e5bfefeb45cb78c73883ffd723457d7", checked := Tryd.checked }
namespace Rows
def none {H : Type} : Left H := { results := [], args := [] }

/- WHAT THE LISTED PACKAGE-LEVEL VARIABLES READ AS WHEN THE CALL BEGINS. Each datum BY PROGRAM (the guide's laid-datum.mjs) off the statement by which the dump's own 'gosem.cut.vars' lays the variable. In a bare row this is a premise. The card (YtnaeffgkdoanfaaDoorCards.lean) ties it to the program's text. -/
def laid_unicode_utf8_acceptRanges {H : Type} : DataW H := .agg [.agg [.lit (.int .u8 128), .lit (.int .u8 191)], .agg [.lit (.int .u8 160), .lit (.int .u8 191)], .agg [.lit (.int .u8 128), .lit (.int .u8 159)], .agg [.lit (.int .u8 144), .lit (.int .u8 191)], .agg [.lit (.int .u8 128), .lit (.int .u8 143)], .agg [.lit (.int .u8 0), .lit (.int .u8 0)], .agg [.lit (.int .u8 0), .lit (.int .u8 0)], .agg [.lit (.int .u8 0), .lit (.int .u8 0)], .agg [.lit (.int .u8 0), .lit (.int .u8 0)], .agg [.lit (.int .u8 0), .lit (.int .u8 0)], .agg [.lit (.int .u8 0), .lit (.int .u8 0)], .agg [.lit (.int .u8 0), .lit (.int .u8 0)], .agg [.lit (.int .u8 0), .lit (.int .u8 0)], .agg [.lit (.int .u8 0), .lit (.int .u8 0)], .agg [.lit (.int .u8 0), .lit (.int .u8 0)], .agg [.lit (.int .u8 0), .lit (.int .u8 0)]]
/-- One of Go's own tables, pinned by name: the form's constant. -/
def laid_unicode_utf8_first : DataW Unit := Go.Pinned.utf8First

/-- 'fairwaylaw7.NameMatches': WHATEVER THE INPUT: true; the input reads as it did. -/
def nameMatchesSpec : ChangeSpec := { name := "nameMatches", fn := fun _ => fun
  | [d] => { results := [.lit (.bool true)], args := [d] }
  | _ => none }
def nameMatchesRow : OpenClaim := { program := "ytnaeffgkdoanfaadoor", sum := "de513f4b1c2963a9990c43164f28601b6e5bfefeb45cb78c73883ffd723457d7", func := "fairway/fairwaylaw7.NameMatches", spec := "nameMatches", unfollowed := true, recurses := true, named := ["unicode/utf8.first", "unicode/utf8.acceptRanges"], apart := false, laid := [("unicode/utf8.acceptRanges", laid_unicode_utf8_acceptRanges), ("unicode/utf8.first", laid_unicode_utf8_first)] }
def NameMatchesSaid : Prop := nameMatchesRow.holds Tryd.pinned (OpenSpec.ofChange nameMatchesSpec)

/-- ITS FALSE NEIGHBOUR: 'it returns false'. Refute it at one input. -/
def nameMatchesWrong : ChangeSpec := { name := "nameMatches", fn := fun _ => fun
  | [d] => { results := [.lit (.bool false)], args := [d] }
  | _ => none }
def NameMatchesWrongFalsely : Prop := nameMatchesRow.holds Tryd.pinned (OpenSpec.ofChange nameMatchesWrong)

/-- 'fairwaylaw7.NameOwn': WHATEVER THE INPUT: true; the input reads as it did. -/
def nameOwnSpec : ChangeSpec := { name := "nameOwn", fn := fun _ => fun
  | [d] => { results := [.lit (.bool true)], args := [d] }
  | _ => none }
def nameOwnRow : OpenClaim := { program := "ytnaeffgkdoanfaadoor", sum := "de513f4b1c2963a9990c43164f28601b6e5bfefeb45cb78c73883ffd723457d7", func := "fairway/fairwaylaw7.NameOwn", spec := "nameOwn", unfollowed := true, recurses := true, named := ["unicode/utf8.first", "unicode/utf8.acceptRanges"], apart := false, laid := [("unicode/utf8.acceptRanges", laid_unicode_utf8_acceptRanges), ("unicode/utf8.first", laid_unicode_utf8_first)] }
def NameOwnSaid : Prop := nameOwnRow.holds Tryd.pinned (OpenSpec.ofChange nameOwnSpec)

/-- ITS FALSE NEIGHBOUR: 'it returns false'. Refute it at one input. -/
def nameOwnWrong : ChangeSpec := { name := "nameOwn", fn := fun _ => fun
  | [d] => { results := [.lit (.bool false)], args := [d] }
  | _ => none }
def NameOwnWrongFalsely : Prop := nameOwnRow.holds Tryd.pinned (OpenSpec.ofChange nameOwnWrong)

/-- 'fairwaylaw7.NameTells': WHATEVER THE INPUT: true; the input reads as it did. -/
def nameTellsSpec : ChangeSpec := { name := "nameTells", fn := fun _ => fun
  | [d] => { results := [.lit (.bool true)], args := [d] }
  | _ => none }
def nameTellsRow : OpenClaim := { program := "ytnaeffgkdoanfaadoor", sum := "de513f4b1c2963a9990c43164f28601b6e5bfefeb45cb78c73883ffd723457d7", func := "fairway/fairwaylaw7.NameTells", spec := "nameTells", inPlace := ["internal/bytealg.IndexByteString", "internal/bytealg.IndexString"], unfollowed := true, recurses := true, named := ["unicode/utf8.first", "unicode/utf8.acceptRanges", "internal/bytealg.MaxLen"], apart := false, laid := [("unicode/utf8.acceptRanges", laid_unicode_utf8_acceptRanges), ("unicode/utf8.first", laid_unicode_utf8_first)] }
def NameTellsSaid : Prop := nameTellsRow.holds Tryd.pinned (OpenSpec.ofChange nameTellsSpec)

/-- ITS FALSE NEIGHBOUR: 'it returns false'. Refute it at one input. -/
def nameTellsWrong : ChangeSpec := { name := "nameTells", fn := fun _ => fun
  | [d] => { results := [.lit (.bool false)], args := [d] }
  | _ => none }
def NameTellsWrongFalsely : Prop := nameTellsRow.holds Tryd.pinned (OpenSpec.ofChange nameTellsWrong)

/-- 'fairwaylaw7.NameDollar': WHATEVER THE INPUT: true; the input reads as it did. -/
def nameDollarSpec : ChangeSpec := { name := "nameDollar", fn := fun _ => fun
  | [d] => { results := [.lit (.bool true)], args := [d] }
  | _ => none }
def nameDollarRow : OpenClaim := { program := "ytnaeffgkdoanfaadoor", sum := "de513f4b1c2963a9990c43164f28601b6e5bfefeb45cb78c73883ffd723457d7", func := "fairway/fairwaylaw7.NameDollar", spec := "nameDollar", inPlace := ["internal/bytealg.IndexByteString", "internal/bytealg.IndexString"], unfollowed := true, recurses := true, named := ["unicode/utf8.first", "unicode/utf8.acceptRanges", "internal/bytealg.MaxLen"], apart := false, laid := [("unicode/utf8.acceptRanges", laid_unicode_utf8_acceptRanges), ("unicode/utf8.first", laid_unicode_utf8_first)] }
def NameDollarSaid : Prop := nameDollarRow.holds Tryd.pinned (OpenSpec.ofChange nameDollarSpec)

/-- ITS FALSE NEIGHBOUR: 'it returns false'. Refute it at one input. -/
def nameDollarWrong : ChangeSpec := { name := "nameDollar", fn := fun _ => fun
  | [d] => { results := [.lit (.bool false)], args := [d] }
  | _ => none }
def NameDollarWrongFalsely : Prop := nameDollarRow.holds Tryd.pinned (OpenSpec.ofChange nameDollarWrong)

/-- 'fairwaylaw18.StayPuts': WHATEVER THE INPUT: true; the input reads as it did. -/
def stayPutsSpec : ChangeSpec := { name := "stayPuts", fn := fun _ => fun
  | [d] => { results := [.lit (.bool true)], args := [d] }
  | _ => none }
def stayPutsRow : OpenClaim := { program := "ytnaeffgkdoanfaadoor", sum := "de513f4b1c2963a9990c43164f28601b6e5bfefeb45cb78c73883ffd723457d7", func := "fairway/fairwaylaw18.StayPuts", spec := "stayPuts", inPlace := ["slices.overlaps[fairway/api.Retained]"], unfollowed := true, recurses := true, named := ["unicode/utf8.first", "unicode/utf8.acceptRanges"], apart := false, laid := [("unicode/utf8.acceptRanges", laid_unicode_utf8_acceptRanges), ("unicode/utf8.first", laid_unicode_utf8_first)] }
def StayPutsSaid : Prop := stayPutsRow.holds Tryd.pinned (OpenSpec.ofChange stayPutsSpec)

/-- ITS FALSE NEIGHBOUR: 'it returns false'. Refute it at one input. -/
def stayPutsWrong : ChangeSpec := { name := "stayPuts", fn := fun _ => fun
  | [d] => { results := [.lit (.bool false)], args := [d] }
  | _ => none }
def StayPutsWrongFalsely : Prop := stayPutsRow.holds Tryd.pinned (OpenSpec.ofChange stayPutsWrong)

/-- 'fairwaylaw18.StayFors': WHATEVER THE INPUT: true; the input reads as it did. -/
def stayForsSpec : ChangeSpec := { name := "stayFors", fn := fun _ => fun
  | [d] => { results := [.lit (.bool true)], args := [d] }
  | _ => none }
def stayForsRow : OpenClaim := { program := "ytnaeffgkdoanfaadoor", sum := "de513f4b1c2963a9990c43164f28601b6e5bfefeb45cb78c73883ffd723457d7", func := "fairway/fairwaylaw18.StayFors", spec := "stayFors", inPlace := ["slices.overlaps[fairway/api.Retained]"], unfollowed := true, recurses := true, named := ["unicode/utf8.first", "unicode/utf8.acceptRanges"], apart := false, laid := [("unicode/utf8.acceptRanges", laid_unicode_utf8_acceptRanges), ("unicode/utf8.first", laid_unicode_utf8_first)] }
def StayForsSaid : Prop := stayForsRow.holds Tryd.pinned (OpenSpec.ofChange stayForsSpec)

/-- ITS FALSE NEIGHBOUR: 'it returns false'. Refute it at one input. -/
def stayForsWrong : ChangeSpec := { name := "stayFors", fn := fun _ => fun
  | [d] => { results := [.lit (.bool false)], args := [d] }
  | _ => none }
def StayForsWrongFalsely : Prop := stayForsRow.holds Tryd.pinned (OpenSpec.ofChange stayForsWrong)

/-- 'fairwaylaw18.StayLast': WHATEVER THE INPUT: true; the input reads as it did. -/
def stayLastSpec : ChangeSpec := { name := "stayLast", fn := fun _ => fun
  | [d] => { results := [.lit (.bool true)], args := [d] }
  | _ => none }
def stayLastRow : OpenClaim := { program := "ytnaeffgkdoanfaadoor", sum := "de513f4b1c2963a9990c43164f28601b6e5bfefeb45cb78c73883ffd723457d7", func := "fairway/fairwaylaw18.StayLast", spec := "stayLast", inPlace := ["slices.overlaps[fairway/api.Retained]"], unfollowed := true, recurses := true, named := ["unicode/utf8.first", "unicode/utf8.acceptRanges"], apart := false, laid := [("unicode/utf8.acceptRanges", laid_unicode_utf8_acceptRanges), ("unicode/utf8.first", laid_unicode_utf8_first)] }
def StayLastSaid : Prop := stayLastRow.holds Tryd.pinned (OpenSpec.ofChange stayLastSpec)

/-- ITS FALSE NEIGHBOUR: 'it returns false'. Refute it at one input. -/
def stayLastWrong : ChangeSpec := { name := "stayLast", fn := fun _ => fun
  | [d] => { results := [.lit (.bool false)], args := [d] }
  | _ => none }
def StayLastWrongFalsely : Prop := stayLastRow.holds Tryd.pinned (OpenSpec.ofChange stayLastWrong)

/- THE SECOND FORM. 'bulk': how many values and letters a reading holds, each counted each time it is reached (what is shared counts as often as it is met; a slice's spare places count too). A statement '..UptoSaid' is the law's where the arguments, and the package variables that the reading takes, are together of bulk at most 1048576: NARROWER than '..Said'. Prove '..Said' where nothing that the law and all that it calls make is longer than what came in: it says more and counts as full. Else prove '..UptoSaid'. A law counts once. -/
mutual
def uptoBulk {H : Type} : DataW H → Nat
  | .lit (.string bytes) => bytes.length + 1
  | .lit _ => 1
  | .nil => 1
  | .ptr d => uptoBulk d + 1
  | .slice elems spare => uptoBulkAll elems + uptoBulkAll spare + 1
  | .agg parts => uptoBulkAll parts + 1
  | .iface _ d => uptoBulk d + 1
  | .map entries => uptoBulkEntries entries + 1
  | .held _ => 1
def uptoBulkAll {H : Type} : List (DataW H) → Nat
  | [] => 0
  | d :: r => uptoBulk d + uptoBulkAll r
def uptoBulkEntries {H : Type} : List (Lit × DataW H) → Nat
  | [] => 0
  | x :: r => uptoBulkEntry x + uptoBulkEntries r
def uptoBulkEntry {H : Type} : Lit × DataW H → Nat
  | (.string bytes, d) => bytes.length + uptoBulk d + 1
  | (_, d) => uptoBulk d + 1
 end
def uptoSmall : (H : Type) → List (DataW H) → Bool := fun _ ds => decide (uptoBulkAll ds ≤ 1048576)
def OpenSpec.upto (s : _root_.Go.ChangeSpec) : _root_.Go.OpenSpec := { _root_.Go.OpenSpec.ofChange s with cond := some uptoSmall }

/-- 'fairwaylaw7.NameMatches', WHERE WHAT IT READS IS OF BULK AT MOST 1048576: true; the input reads as it did. -/
def nameMatchesUptoRow : OpenClaim := { program := "ytnaeffgkdoanfaadoor", sum := "de513f4b1c2963a9990c43164f28601b6e5bfefeb45cb78c73883ffd723457d7", func := "fairway/fairwaylaw7.NameMatches", spec := "nameMatches", unfollowed := true, recurses := true, named := ["unicode/utf8.first", "unicode/utf8.acceptRanges"], apart := false, laid := [("unicode/utf8.acceptRanges", laid_unicode_utf8_acceptRanges), ("unicode/utf8.first", laid_unicode_utf8_first)], narrowed := true }
def NameMatchesUptoSaid : Prop := nameMatchesUptoRow.holds Tryd.pinned (OpenSpec.upto nameMatchesSpec)

/-- 'fairwaylaw7.NameOwn', WHERE WHAT IT READS IS OF BULK AT MOST 1048576: true; the input reads as it did. -/
def nameOwnUptoRow : OpenClaim := { program := "ytnaeffgkdoanfaadoor", sum := "de513f4b1c2963a9990c43164f28601b6e5bfefeb45cb78c73883ffd723457d7", func := "fairway/fairwaylaw7.NameOwn", spec := "nameOwn", unfollowed := true, recurses := true, named := ["unicode/utf8.first", "unicode/utf8.acceptRanges"], apart := false, laid := [("unicode/utf8.acceptRanges", laid_unicode_utf8_acceptRanges), ("unicode/utf8.first", laid_unicode_utf8_first)], narrowed := true }
def NameOwnUptoSaid : Prop := nameOwnUptoRow.holds Tryd.pinned (OpenSpec.upto nameOwnSpec)

/-- 'fairwaylaw7.NameTells', WHERE WHAT IT READS IS OF BULK AT MOST 1048576: true; the input reads as it did. -/
def nameTellsUptoRow : OpenClaim := { program := "ytnaeffgkdoanfaadoor", sum := "de513f4b1c2963a9990c43164f28601b6e5bfefeb45cb78c73883ffd723457d7", func := "fairway/fairwaylaw7.NameTells", spec := "nameTells", inPlace := ["internal/bytealg.IndexByteString", "internal/bytealg.IndexString"], unfollowed := true, recurses := true, named := ["unicode/utf8.first", "unicode/utf8.acceptRanges", "internal/bytealg.MaxLen"], apart := false, laid := [("unicode/utf8.acceptRanges", laid_unicode_utf8_acceptRanges), ("unicode/utf8.first", laid_unicode_utf8_first)], narrowed := true }
def NameTellsUptoSaid : Prop := nameTellsUptoRow.holds Tryd.pinned (OpenSpec.upto nameTellsSpec)

/-- 'fairwaylaw7.NameDollar', WHERE WHAT IT READS IS OF BULK AT MOST 1048576: true; the input reads as it did. -/
def nameDollarUptoRow : OpenClaim := { program := "ytnaeffgkdoanfaadoor", sum := "de513f4b1c2963a9990c43164f28601b6e5bfefeb45cb78c73883ffd723457d7", func := "fairway/fairwaylaw7.NameDollar", spec := "nameDollar", inPlace := ["internal/bytealg.IndexByteString", "internal/bytealg.IndexString"], unfollowed := true, recurses := true, named := ["unicode/utf8.first", "unicode/utf8.acceptRanges", "internal/bytealg.MaxLen"], apart := false, laid := [("unicode/utf8.acceptRanges", laid_unicode_utf8_acceptRanges), ("unicode/utf8.first", laid_unicode_utf8_first)], narrowed := true }
def NameDollarUptoSaid : Prop := nameDollarUptoRow.holds Tryd.pinned (OpenSpec.upto nameDollarSpec)

/-- 'fairwaylaw18.StayPuts', WHERE WHAT IT READS IS OF BULK AT MOST 1048576: true; the input reads as it did. -/
def stayPutsUptoRow : OpenClaim := { program := "ytnaeffgkdoanfaadoor", sum := "de513f4b1c2963a9990c43164f28601b6e5bfefeb45cb78c73883ffd723457d7", func := "fairway/fairwaylaw18.StayPuts", spec := "stayPuts", inPlace := ["slices.overlaps[fairway/api.Retained]"], unfollowed := true, recurses := true, named := ["unicode/utf8.first", "unicode/utf8.acceptRanges"], apart := false, laid := [("unicode/utf8.acceptRanges", laid_unicode_utf8_acceptRanges), ("unicode/utf8.first", laid_unicode_utf8_first)], narrowed := true }
def StayPutsUptoSaid : Prop := stayPutsUptoRow.holds Tryd.pinned (OpenSpec.upto stayPutsSpec)

/-- 'fairwaylaw18.StayFors', WHERE WHAT IT READS IS OF BULK AT MOST 1048576: true; the input reads as it did. -/
def stayForsUptoRow : OpenClaim := { program := "ytnaeffgkdoanfaadoor", sum := "de513f4b1c2963a9990c43164f28601b6e5bfefeb45cb78c73883ffd723457d7", func := "fairway/fairwaylaw18.StayFors", spec := "stayFors", inPlace := ["slices.overlaps[fairway/api.Retained]"], unfollowed := true, recurses := true, named := ["unicode/utf8.first", "unicode/utf8.acceptRanges"], apart := false, laid := [("unicode/utf8.acceptRanges", laid_unicode_utf8_acceptRanges), ("unicode/utf8.first", laid_unicode_utf8_first)], narrowed := true }
def StayForsUptoSaid : Prop := stayForsUptoRow.holds Tryd.pinned (OpenSpec.upto stayForsSpec)

/-- 'fairwaylaw18.StayLast', WHERE WHAT IT READS IS OF BULK AT MOST 1048576: true; the input reads as it did. -/
def stayLastUptoRow : OpenClaim := { program := "ytnaeffgkdoanfaadoor", sum := "de513f4b1c2963a9990c43164f28601b6e5bfefeb45cb78c73883ffd723457d7", func := "fairway/fairwaylaw18.StayLast", spec := "stayLast", inPlace := ["slices.overlaps[fairway/api.Retained]"], unfollowed := true, recurses := true, named := ["unicode/utf8.first", "unicode/utf8.acceptRanges"], apart := false, laid := [("unicode/utf8.acceptRanges", laid_unicode_utf8_acceptRanges), ("unicode/utf8.first", laid_unicode_utf8_first)], narrowed := true }
def StayLastUptoSaid : Prop := stayLastUptoRow.holds Tryd.pinned (OpenSpec.upto stayLastSpec)

end Rows
end Go.Proofs.YtnaeffgkdoanfaaDoor
