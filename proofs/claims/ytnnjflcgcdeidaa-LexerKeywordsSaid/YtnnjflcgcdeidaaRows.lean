/-
  NARROWER THAN 'FOR EVERY INPUT', by the rows' own cells (each row's printed sentence says how): UnifyMakes: loops · UnifySame: loops.
  DERIVED. THE GIVEN ROWS OF THIS SEAT. 13 by the template 'for every input the law returns true; each argument reads behind the call as it read before'; 0 by the template 'total and deterministic' (their statements: YtnnjflcgcdeidaaTotals.lean).
  GIVEN WITH THE SEED: the statements are not yours to turn. If you find one false, say at which input.
  Laid BY PROGRAM, IN A SANDBOX (cutbox-rows.mjs): the forced cells as the released guide's own fill.sh prints them over the translation dbcb3ae5d8344bbd… (all of the seat's roots in one cut). By AI agents, Wed Nov 11 2026. No macro, syntax, notation, axiom, sorry.
-/
import Derived.Test.YtnnjflcgcdeidaaChecked
import GoSem.Claim
import GoSem.ClaimJoined
import GoSem.ClaimMapViews
import Derived.JoinedTies
import Derived.KernelRfl
namespace Go.Proofs.Ytnnjflcgcdeidaa
/- THE CELL 'sum', in the pinned program and in every row, IS THE sha256 OF THE DUMP (.gsa) THAT YtnnjflcgcdeidaaProg.lean LOADS. Nothing in Lean hashes anything: it is a label: what it is worth is what the hold of that sum in a sandbox is worth. -/
noncomputable def Try.pinned : Pinned := { name := "ytnnjflcgcdeidaa", sum := "dbcb3ae5d8344bbd255bf843c813e444a31653a22af68e7786344c6bb522185a", checked := Try.checked }
namespace Rows
def none {H : Type} : Left H := { results := [], args := [] }

/-- 'provenancelaw1.Names': WHATEVER THE INPUT: true; the input reads as it did. -/
def namesSpec : ChangeSpec := { name := "names", fn := fun _ => fun
  | [] => { results := [.lit (.bool true)], args := [] }
  | _ => none }
def namesRow : OpenClaim := { program := "ytnnjflcgcdeidaa", sum := "dbcb3ae5d8344bbd255bf843c813e444a31653a22af68e7786344c6bb522185a", func := "provenance/provenancelaw1.Names", spec := "names", apart := false }
def NamesSaid : Prop := namesRow.holds Try.pinned (OpenSpec.ofChange namesSpec)

/-- ITS FALSE NEIGHBOUR: 'it returns false'. Refute it at one input. -/
def namesWrong : ChangeSpec := { name := "names", fn := fun _ => fun
  | [] => { results := [.lit (.bool false)], args := [] }
  | _ => none }
def NamesWrongFalsely : Prop := namesRow.holds Try.pinned (OpenSpec.ofChange namesWrong)

/-- 'provenancelaw1.WordPacked': WHATEVER THE INPUT: true; the input reads as it did. -/
def wordPackedSpec : ChangeSpec := { name := "wordPacked", fn := fun _ => fun
  | [d1, d2] => { results := [.lit (.bool true)], args := [d1, d2] }
  | _ => none }
def wordPackedRow : OpenClaim := { program := "ytnnjflcgcdeidaa", sum := "dbcb3ae5d8344bbd255bf843c813e444a31653a22af68e7786344c6bb522185a", func := "provenance/provenancelaw1.WordPacked", spec := "wordPacked", apart := false }
def WordPackedSaid : Prop := wordPackedRow.holds Try.pinned (OpenSpec.ofChange wordPackedSpec)

/-- ITS FALSE NEIGHBOUR: 'it returns false'. Refute it at one input. -/
def wordPackedWrong : ChangeSpec := { name := "wordPacked", fn := fun _ => fun
  | [d1, d2] => { results := [.lit (.bool false)], args := [d1, d2] }
  | _ => none }
def WordPackedWrongFalsely : Prop := wordPackedRow.holds Try.pinned (OpenSpec.ofChange wordPackedWrong)

/-- 'provenancelaw1.IfaceDigests': WHATEVER THE INPUT: true; the input reads as it did. -/
def ifaceDigestsSpec : ChangeSpec := { name := "ifaceDigests", fn := fun _ => fun
  | [d] => { results := [.lit (.bool true)], args := [d] }
  | _ => none }
def ifaceDigestsRow : OpenClaim := { program := "ytnnjflcgcdeidaa", sum := "dbcb3ae5d8344bbd255bf843c813e444a31653a22af68e7786344c6bb522185a", func := "provenance/provenancelaw1.IfaceDigests", spec := "ifaceDigests", apart := false }
def IfaceDigestsSaid : Prop := ifaceDigestsRow.holds Try.pinned (OpenSpec.ofChange ifaceDigestsSpec)

/-- ITS FALSE NEIGHBOUR: 'it returns false'. Refute it at one input. -/
def ifaceDigestsWrong : ChangeSpec := { name := "ifaceDigests", fn := fun _ => fun
  | [d] => { results := [.lit (.bool false)], args := [d] }
  | _ => none }
def IfaceDigestsWrongFalsely : Prop := ifaceDigestsRow.holds Try.pinned (OpenSpec.ofChange ifaceDigestsWrong)

/-- 'provenancelaw1.WordArithmetic': WHATEVER THE INPUT: true; the input reads as it did. -/
def wordArithmeticSpec : ChangeSpec := { name := "wordArithmetic", fn := fun _ => fun
  | [d1, d2] => { results := [.lit (.bool true)], args := [d1, d2] }
  | _ => none }
def wordArithmeticRow : OpenClaim := { program := "ytnnjflcgcdeidaa", sum := "dbcb3ae5d8344bbd255bf843c813e444a31653a22af68e7786344c6bb522185a", func := "provenance/provenancelaw1.WordArithmetic", spec := "wordArithmetic", apart := false }
def WordArithmeticSaid : Prop := wordArithmeticRow.holds Try.pinned (OpenSpec.ofChange wordArithmeticSpec)

/-- ITS FALSE NEIGHBOUR: 'it returns false'. Refute it at one input. -/
def wordArithmeticWrong : ChangeSpec := { name := "wordArithmetic", fn := fun _ => fun
  | [d1, d2] => { results := [.lit (.bool false)], args := [d1, d2] }
  | _ => none }
def WordArithmeticWrongFalsely : Prop := wordArithmeticRow.holds Try.pinned (OpenSpec.ofChange wordArithmeticWrong)

/-- 'provenancelaw1.UnifyMakes': WHATEVER THE INPUT: true; the input reads as it did. -/
def unifyMakesSpec : ChangeSpec := { name := "unifyMakes", fn := fun _ => fun
  | [d1, d2, d3, d4, d5, d6] => { results := [.lit (.bool true)], args := [d1, d2, d3, d4, d5, d6] }
  | _ => none }
def unifyMakesRow : OpenClaim := { program := "ytnnjflcgcdeidaa", sum := "dbcb3ae5d8344bbd255bf843c813e444a31653a22af68e7786344c6bb522185a", func := "provenance/provenancelaw1.UnifyMakes", spec := "unifyMakes", unfollowed := true, recurses := true, loops := true, apart := false }
def UnifyMakesSaid : Prop := unifyMakesRow.holds Try.pinned (OpenSpec.ofChange unifyMakesSpec)

/-- ITS FALSE NEIGHBOUR: 'it returns false'. Refute it at one input. -/
def unifyMakesWrong : ChangeSpec := { name := "unifyMakes", fn := fun _ => fun
  | [d1, d2, d3, d4, d5, d6] => { results := [.lit (.bool false)], args := [d1, d2, d3, d4, d5, d6] }
  | _ => none }
def UnifyMakesWrongFalsely : Prop := unifyMakesRow.holds Try.pinned (OpenSpec.ofChange unifyMakesWrong)

/-- 'provenancelaw1.PrinterTells': WHATEVER THE INPUT: true; the input reads as it did. -/
def printerTellsSpec : ChangeSpec := { name := "printerTells", fn := fun _ => fun
  | [d1, d2, d3, d4] => { results := [.lit (.bool true)], args := [d1, d2, d3, d4] }
  | _ => none }
def printerTellsRow : OpenClaim := { program := "ytnnjflcgcdeidaa", sum := "dbcb3ae5d8344bbd255bf843c813e444a31653a22af68e7786344c6bb522185a", func := "provenance/provenancelaw1.PrinterTells", spec := "printerTells", inPlace := ["internal/bytealg.IndexByteString"], unfollowed := true, recurses := true, apart := false }
def PrinterTellsSaid : Prop := printerTellsRow.holds Try.pinned (OpenSpec.ofChange printerTellsSpec)

/-- ITS FALSE NEIGHBOUR: 'it returns false'. Refute it at one input. -/
def printerTellsWrong : ChangeSpec := { name := "printerTells", fn := fun _ => fun
  | [d1, d2, d3, d4] => { results := [.lit (.bool false)], args := [d1, d2, d3, d4] }
  | _ => none }
def PrinterTellsWrongFalsely : Prop := printerTellsRow.holds Try.pinned (OpenSpec.ofChange printerTellsWrong)

/-- 'provenancelaw1.ModulesOrdered': WHATEVER THE INPUT: true; the input reads as it did. -/
def modulesOrderedSpec : ChangeSpec := { name := "modulesOrdered", fn := fun _ => fun
  | [d1, d2] => { results := [.lit (.bool true)], args := [d1, d2] }
  | _ => none }
def modulesOrderedRow : OpenClaim := { program := "ytnnjflcgcdeidaa", sum := "dbcb3ae5d8344bbd255bf843c813e444a31653a22af68e7786344c6bb522185a", func := "provenance/provenancelaw1.ModulesOrdered", spec := "modulesOrdered", unfollowed := true, recurses := true, apart := false }
def ModulesOrderedSaid : Prop := modulesOrderedRow.holds Try.pinned (OpenSpec.ofChange modulesOrderedSpec)

/-- ITS FALSE NEIGHBOUR: 'it returns false'. Refute it at one input. -/
def modulesOrderedWrong : ChangeSpec := { name := "modulesOrdered", fn := fun _ => fun
  | [d1, d2] => { results := [.lit (.bool false)], args := [d1, d2] }
  | _ => none }
def ModulesOrderedWrongFalsely : Prop := modulesOrderedRow.holds Try.pinned (OpenSpec.ofChange modulesOrderedWrong)

/-- 'provenancelaw1.StoreScript': WHATEVER THE INPUT: true; the input reads as it did. -/
def storeScriptSpec : ChangeSpec := { name := "storeScript", fn := fun _ => fun
  | [d1, d2] => { results := [.lit (.bool true)], args := [d1, d2] }
  | _ => none }
def storeScriptRow : OpenClaim := { program := "ytnnjflcgcdeidaa", sum := "dbcb3ae5d8344bbd255bf843c813e444a31653a22af68e7786344c6bb522185a", func := "provenance/provenancelaw1.StoreScript", spec := "storeScript", apart := false }
def StoreScriptSaid : Prop := storeScriptRow.holds Try.pinned (OpenSpec.ofChange storeScriptSpec)

/-- ITS FALSE NEIGHBOUR: 'it returns false'. Refute it at one input. -/
def storeScriptWrong : ChangeSpec := { name := "storeScript", fn := fun _ => fun
  | [d1, d2] => { results := [.lit (.bool false)], args := [d1, d2] }
  | _ => none }
def StoreScriptWrongFalsely : Prop := storeScriptRow.holds Try.pinned (OpenSpec.ofChange storeScriptWrong)

/-- 'provenancelaw1.FixityTree': WHATEVER THE INPUT: true; the input reads as it did. -/
def fixityTreeSpec : ChangeSpec := { name := "fixityTree", fn := fun _ => fun
  | [d1, d2] => { results := [.lit (.bool true)], args := [d1, d2] }
  | _ => none }
def fixityTreeRow : OpenClaim := { program := "ytnnjflcgcdeidaa", sum := "dbcb3ae5d8344bbd255bf843c813e444a31653a22af68e7786344c6bb522185a", func := "provenance/provenancelaw1.FixityTree", spec := "fixityTree", unfollowed := true, recurses := true, apart := false }
def FixityTreeSaid : Prop := fixityTreeRow.holds Try.pinned (OpenSpec.ofChange fixityTreeSpec)

/-- ITS FALSE NEIGHBOUR: 'it returns false'. Refute it at one input. -/
def fixityTreeWrong : ChangeSpec := { name := "fixityTree", fn := fun _ => fun
  | [d1, d2] => { results := [.lit (.bool false)], args := [d1, d2] }
  | _ => none }
def FixityTreeWrongFalsely : Prop := fixityTreeRow.holds Try.pinned (OpenSpec.ofChange fixityTreeWrong)

/-- 'provenancelaw1.LexerKeywords': WHATEVER THE INPUT: true; the input reads as it did. -/
def lexerKeywordsSpec : ChangeSpec := { name := "lexerKeywords", fn := fun _ => fun
  | [d] => { results := [.lit (.bool true)], args := [d] }
  | _ => none }
def lexerKeywordsRow : OpenClaim := { program := "ytnnjflcgcdeidaa", sum := "dbcb3ae5d8344bbd255bf843c813e444a31653a22af68e7786344c6bb522185a", func := "provenance/provenancelaw1.LexerKeywords", spec := "lexerKeywords", inPlace := ["internal/bytealg.IndexByteString", "internal/bytealg.IndexString"], named := ["internal/bytealg.MaxLen"], apart := false }
def LexerKeywordsSaid : Prop := lexerKeywordsRow.holds Try.pinned (OpenSpec.ofChange lexerKeywordsSpec)

/-- ITS FALSE NEIGHBOUR: 'it returns false'. Refute it at one input. -/
def lexerKeywordsWrong : ChangeSpec := { name := "lexerKeywords", fn := fun _ => fun
  | [d] => { results := [.lit (.bool false)], args := [d] }
  | _ => none }
def LexerKeywordsWrongFalsely : Prop := lexerKeywordsRow.holds Try.pinned (OpenSpec.ofChange lexerKeywordsWrong)

/-- 'provenancelaw1.LayoutBlocks': WHATEVER THE INPUT: true; the input reads as it did. -/
def layoutBlocksSpec : ChangeSpec := { name := "layoutBlocks", fn := fun _ => fun
  | [d] => { results := [.lit (.bool true)], args := [d] }
  | _ => none }
def layoutBlocksRow : OpenClaim := { program := "ytnnjflcgcdeidaa", sum := "dbcb3ae5d8344bbd255bf843c813e444a31653a22af68e7786344c6bb522185a", func := "provenance/provenancelaw1.LayoutBlocks", spec := "layoutBlocks", unfollowed := true, recurses := true, apart := false }
def LayoutBlocksSaid : Prop := layoutBlocksRow.holds Try.pinned (OpenSpec.ofChange layoutBlocksSpec)

/-- ITS FALSE NEIGHBOUR: 'it returns false'. Refute it at one input. -/
def layoutBlocksWrong : ChangeSpec := { name := "layoutBlocks", fn := fun _ => fun
  | [d] => { results := [.lit (.bool false)], args := [d] }
  | _ => none }
def LayoutBlocksWrongFalsely : Prop := layoutBlocksRow.holds Try.pinned (OpenSpec.ofChange layoutBlocksWrong)

/-- 'provenancelaw1.PrinterChecks': WHATEVER THE INPUT: true; the input reads as it did. -/
def printerChecksSpec : ChangeSpec := { name := "printerChecks", fn := fun _ => fun
  | [d] => { results := [.lit (.bool true)], args := [d] }
  | _ => none }
def printerChecksRow : OpenClaim := { program := "ytnnjflcgcdeidaa", sum := "dbcb3ae5d8344bbd255bf843c813e444a31653a22af68e7786344c6bb522185a", func := "provenance/provenancelaw1.PrinterChecks", spec := "printerChecks", inPlace := ["internal/bytealg.IndexByteString"], unfollowed := true, recurses := true, apart := false }
def PrinterChecksSaid : Prop := printerChecksRow.holds Try.pinned (OpenSpec.ofChange printerChecksSpec)

/-- ITS FALSE NEIGHBOUR: 'it returns false'. Refute it at one input. -/
def printerChecksWrong : ChangeSpec := { name := "printerChecks", fn := fun _ => fun
  | [d] => { results := [.lit (.bool false)], args := [d] }
  | _ => none }
def PrinterChecksWrongFalsely : Prop := printerChecksRow.holds Try.pinned (OpenSpec.ofChange printerChecksWrong)

/-- 'provenancelaw1.UnifySame': WHATEVER THE INPUT: true; the input reads as it did. -/
def unifySameSpec : ChangeSpec := { name := "unifySame", fn := fun _ => fun
  | [d1, d2] => { results := [.lit (.bool true)], args := [d1, d2] }
  | _ => none }
def unifySameRow : OpenClaim := { program := "ytnnjflcgcdeidaa", sum := "dbcb3ae5d8344bbd255bf843c813e444a31653a22af68e7786344c6bb522185a", func := "provenance/provenancelaw1.UnifySame", spec := "unifySame", unfollowed := true, recurses := true, loops := true, apart := false }
def UnifySameSaid : Prop := unifySameRow.holds Try.pinned (OpenSpec.ofChange unifySameSpec)

/-- ITS FALSE NEIGHBOUR: 'it returns false'. Refute it at one input. -/
def unifySameWrong : ChangeSpec := { name := "unifySame", fn := fun _ => fun
  | [d1, d2] => { results := [.lit (.bool false)], args := [d1, d2] }
  | _ => none }
def UnifySameWrongFalsely : Prop := unifySameRow.holds Try.pinned (OpenSpec.ofChange unifySameWrong)

/- THE SECOND FORM. 'bulk': how many values and letters a reading holds, each counted each time it is reached (what is shared counts as often as it is met; a slice's spare places count too). A statement '..UptoSaid' is the law's where the arguments, and the package variables that the reading takes, are together of bulk at most 1048576: NARROWER than '..Said'. Prove '..Said' where nothing that the law and all that it calls make is longer than what came in: it says more and counts as full. Else prove '..UptoSaid'. A law counts once. -/
mutual
def uptoBulk {H : Type} : DataW H → Nat
  | .lit (.string bytes) => bytes.length + 1
  | .lit _ => 1
  | .nil => 1
  | .ptr d => uptoBulk d + 1
  | .slice elems spare => uptoBulkAll elems + uptoBulkAll spare + 1
  | .agg parts => uptoBulkAll parts + 1
  | .iface _ d => uptoBulk d + 1
  | .map entries => uptoBulkEntries entries + 1
  | .held _ => 1
def uptoBulkAll {H : Type} : List (DataW H) → Nat
  | [] => 0
  | d :: r => uptoBulk d + uptoBulkAll r
def uptoBulkEntries {H : Type} : List (Lit × DataW H) → Nat
  | [] => 0
  | x :: r => uptoBulkEntry x + uptoBulkEntries r
def uptoBulkEntry {H : Type} : Lit × DataW H → Nat
  | (.string bytes, d) => bytes.length + uptoBulk d + 1
  | (_, d) => uptoBulk d + 1
 end
def uptoSmall : (H : Type) → List (DataW H) → Bool := fun _ ds => decide (uptoBulkAll ds ≤ 1048576)
def OpenSpec.upto (s : _root_.Go.ChangeSpec) : _root_.Go.OpenSpec := { _root_.Go.OpenSpec.ofChange s with cond := some uptoSmall }

/-- 'provenancelaw1.Names', WHERE WHAT IT READS IS OF BULK AT MOST 1048576: true; the input reads as it did. -/
def namesUptoRow : OpenClaim := { program := "ytnnjflcgcdeidaa", sum := "dbcb3ae5d8344bbd255bf843c813e444a31653a22af68e7786344c6bb522185a", func := "provenance/provenancelaw1.Names", spec := "names", apart := false, narrowed := true }
def NamesUptoSaid : Prop := namesUptoRow.holds Try.pinned (OpenSpec.upto namesSpec)

/-- 'provenancelaw1.WordPacked', WHERE WHAT IT READS IS OF BULK AT MOST 1048576: true; the input reads as it did. -/
def wordPackedUptoRow : OpenClaim := { program := "ytnnjflcgcdeidaa", sum := "dbcb3ae5d8344bbd255bf843c813e444a31653a22af68e7786344c6bb522185a", func := "provenance/provenancelaw1.WordPacked", spec := "wordPacked", apart := false, narrowed := true }
def WordPackedUptoSaid : Prop := wordPackedUptoRow.holds Try.pinned (OpenSpec.upto wordPackedSpec)

/-- 'provenancelaw1.IfaceDigests', WHERE WHAT IT READS IS OF BULK AT MOST 1048576: true; the input reads as it did. -/
def ifaceDigestsUptoRow : OpenClaim := { program := "ytnnjflcgcdeidaa", sum := "dbcb3ae5d8344bbd255bf843c813e444a31653a22af68e7786344c6bb522185a", func := "provenance/provenancelaw1.IfaceDigests", spec := "ifaceDigests", apart := false, narrowed := true }
def IfaceDigestsUptoSaid : Prop := ifaceDigestsUptoRow.holds Try.pinned (OpenSpec.upto ifaceDigestsSpec)

/-- 'provenancelaw1.WordArithmetic', WHERE WHAT IT READS IS OF BULK AT MOST 1048576: true; the input reads as it did. -/
def wordArithmeticUptoRow : OpenClaim := { program := "ytnnjflcgcdeidaa", sum := "dbcb3ae5d8344bbd255bf843c813e444a31653a22af68e7786344c6bb522185a", func := "provenance/provenancelaw1.WordArithmetic", spec := "wordArithmetic", apart := false, narrowed := true }
def WordArithmeticUptoSaid : Prop := wordArithmeticUptoRow.holds Try.pinned (OpenSpec.upto wordArithmeticSpec)

/-- 'provenancelaw1.UnifyMakes', WHERE WHAT IT READS IS OF BULK AT MOST 1048576: true; the input reads as it did. -/
def unifyMakesUptoRow : OpenClaim := { program := "ytnnjflcgcdeidaa", sum := "dbcb3ae5d8344bbd255bf843c813e444a31653a22af68e7786344c6bb522185a", func := "provenance/provenancelaw1.UnifyMakes", spec := "unifyMakes", unfollowed := true, recurses := true, loops := true, apart := false, narrowed := true }
def UnifyMakesUptoSaid : Prop := unifyMakesUptoRow.holds Try.pinned (OpenSpec.upto unifyMakesSpec)

/-- 'provenancelaw1.PrinterTells', WHERE WHAT IT READS IS OF BULK AT MOST 1048576: true; the input reads as it did. -/
def printerTellsUptoRow : OpenClaim := { program := "ytnnjflcgcdeidaa", sum := "dbcb3ae5d8344bbd255bf843c813e444a31653a22af68e7786344c6bb522185a", func := "provenance/provenancelaw1.PrinterTells", spec := "printerTells", inPlace := ["internal/bytealg.IndexByteString"], unfollowed := true, recurses := true, apart := false, narrowed := true }
def PrinterTellsUptoSaid : Prop := printerTellsUptoRow.holds Try.pinned (OpenSpec.upto printerTellsSpec)

/-- 'provenancelaw1.ModulesOrdered', WHERE WHAT IT READS IS OF BULK AT MOST 1048576: true; the input reads as it did. -/
def modulesOrderedUptoRow : OpenClaim := { program := "ytnnjflcgcdeidaa", sum := "dbcb3ae5d8344bbd255bf843c813e444a31653a22af68e7786344c6bb522185a", func := "provenance/provenancelaw1.ModulesOrdered", spec := "modulesOrdered", unfollowed := true, recurses := true, apart := false, narrowed := true }
def ModulesOrderedUptoSaid : Prop := modulesOrderedUptoRow.holds Try.pinned (OpenSpec.upto modulesOrderedSpec)

/-- 'provenancelaw1.StoreScript', WHERE WHAT IT READS IS OF BULK AT MOST 1048576: true; the input reads as it did. -/
def storeScriptUptoRow : OpenClaim := { program := "ytnnjflcgcdeidaa", sum := "dbcb3ae5d8344bbd255bf843c813e444a31653a22af68e7786344c6bb522185a", func := "provenance/provenancelaw1.StoreScript", spec := "storeScript", apart := false, narrowed := true }
def StoreScriptUptoSaid : Prop := storeScriptUptoRow.holds Try.pinned (OpenSpec.upto storeScriptSpec)

/-- 'provenancelaw1.FixityTree', WHERE WHAT IT READS IS OF BULK AT MOST 1048576: true; the input reads as it did. -/
def fixityTreeUptoRow : OpenClaim := { program := "ytnnjflcgcdeidaa", sum := "dbcb3ae5d8344bbd255bf843c813e444a31653a22af68e7786344c6bb522185a", func := "provenance/provenancelaw1.FixityTree", spec := "fixityTree", unfollowed := true, recurses := true, apart := false, narrowed := true }
def FixityTreeUptoSaid : Prop := fixityTreeUptoRow.holds Try.pinned (OpenSpec.upto fixityTreeSpec)

/-- 'provenancelaw1.LexerKeywords', WHERE WHAT IT READS IS OF BULK AT MOST 1048576: true; the input reads as it did. -/
def lexerKeywordsUptoRow : OpenClaim := { program := "ytnnjflcgcdeidaa", sum := "dbcb3ae5d8344bbd255bf843c813e444a31653a22af68e7786344c6bb522185a", func := "provenance/provenancelaw1.LexerKeywords", spec := "lexerKeywords", inPlace := ["internal/bytealg.IndexByteString", "internal/bytealg.IndexString"], named := ["internal/bytealg.MaxLen"], apart := false, narrowed := true }
def LexerKeywordsUptoSaid : Prop := lexerKeywordsUptoRow.holds Try.pinned (OpenSpec.upto lexerKeywordsSpec)

/-- 'provenancelaw1.LayoutBlocks', WHERE WHAT IT READS IS OF BULK AT MOST 1048576: true; the input reads as it did. -/
def layoutBlocksUptoRow : OpenClaim := { program := "ytnnjflcgcdeidaa", sum := "dbcb3ae5d8344bbd255bf843c813e444a31653a22af68e7786344c6bb522185a", func := "provenance/provenancelaw1.LayoutBlocks", spec := "layoutBlocks", unfollowed := true, recurses := true, apart := false, narrowed := true }
def LayoutBlocksUptoSaid : Prop := layoutBlocksUptoRow.holds Try.pinned (OpenSpec.upto layoutBlocksSpec)

/-- 'provenancelaw1.PrinterChecks', WHERE WHAT IT READS IS OF BULK AT MOST 1048576: true; the input reads as it did. -/
def printerChecksUptoRow : OpenClaim := { program := "ytnnjflcgcdeidaa", sum := "dbcb3ae5d8344bbd255bf843c813e444a31653a22af68e7786344c6bb522185a", func := "provenance/provenancelaw1.PrinterChecks", spec := "printerChecks", inPlace := ["internal/bytealg.IndexByteString"], unfollowed := true, recurses := true, apart := false, narrowed := true }
def PrinterChecksUptoSaid : Prop := printerChecksUptoRow.holds Try.pinned (OpenSpec.upto printerChecksSpec)

/-- 'provenancelaw1.UnifySame', WHERE WHAT IT READS IS OF BULK AT MOST 1048576: true; the input reads as it did. -/
def unifySameUptoRow : OpenClaim := { program := "ytnnjflcgcdeidaa", sum := "dbcb3ae5d8344bbd255bf843c813e444a31653a22af68e7786344c6bb522185a", func := "provenance/provenancelaw1.UnifySame", spec := "unifySame", unfollowed := true, recurses := true, loops := true, apart := false, narrowed := true }
def UnifySameUptoSaid : Prop := unifySameUptoRow.holds Try.pinned (OpenSpec.upto unifySameSpec)

end Rows
end Go.Proofs.Ytnnjflcgcdeidaa
