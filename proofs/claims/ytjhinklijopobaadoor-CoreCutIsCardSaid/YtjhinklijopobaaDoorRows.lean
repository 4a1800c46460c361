/-
  NARROWER THAN 'FOR EVERY INPUT', by the rows' own cells (each row's printed sentence says how): CoreChecks: laid · CoreSizes: laid · CoreFree: laid · CoreSame: laid · CoreCutIs: laid · CoreOrderIs: laid · FlatChecks: laid · PuritySays: laid · UsageSays: laid.
  DERIVED. THE GIVEN ROWS OF THIS SEAT. 9 by the template 'for every input the law returns true; each argument reads behind the call as it read before'; 0 by the template 'total and deterministic' (their statements: YtjhinklijopobaaDoorTotals.lean).
  GIVEN WITH THE SEED: the statements are not yours to turn. If you find one false, say at which input.
  Laid BY PROGRAM, IN A SANDBOX (cutbox-rows.mjs): the forced cells as the released guide's own fill.sh prints them over the translation 02651e068423c4e4… (all of the seat's roots in one cut). By AI agents, Wed Nov 11 2026. No macro, syntax, notation, axiom, sorry.
-/
import Derived.Test.YtjhinklijopobaaDoorChecked
import GoSem.Claim
import GoSem.ClaimJoined
import GoSem.ClaimMapViews
import Derived.JoinedTies
import Derived.KernelRfl
namespace Go.Proofs.YtjhinklijopobaaDoor
/- THE CELL 'sum', in the pinned program and in every row, IS THE sha256 OF THE DUMP (.gsa) THAT YtjhinklijopobaaDoorProg.lean LOADS. Nothing in Lean hashes anything: it is a label: what it is worth is what the hold of that sum in a sandbox is worth. -/
noncomputable def Tryd.pinned : Pinned := { name := "ytjhinklijopobaadoor", sum := "02651e068423c4e41c01272bc0cae50bb819237453758c29c2f2e0ba6b5d17c6", checked := Tryd.checked }
namespace Rows
def none {H : Type} : Left H := { results := [], args := [] }

/- WHAT THE LISTED PACKAGE-LEVEL VARIABLES READ AS WHEN THE CALL BEGINS. Each datum BY PROGRAM (the guide's laid-datum.mjs) off the statement by which the dump's own 'gosem.cut.vars' lays the variable. In a bare row this is a premise. The card (YtjhinklijopobaaDoorCards.lean) ties it to the program's text. -/
def laid_provenance_core_arity {H : Type} : DataW H := .agg [.lit (.int .i64 2), .lit (.int .i64 2), .lit (.int .i64 2), .lit (.int .i64 2), .lit (.int .i64 2), .lit (.int .i64 2), .lit (.int .i64 2), .lit (.int .i64 1), .lit (.int .i64 2), .lit (.int .i64 1), .lit (.int .i64 2), .lit (.int .i64 3)]

/-- 'provenancelaw2.CoreChecks': WHATEVER THE INPUT: true; the input reads as it did. -/
def coreChecksSpec : ChangeSpec := { name := "coreChecks", fn := fun _ => fun
  | [d] => { results := [.lit (.bool true)], args := [d] }
  | _ => none }
def coreChecksRow : OpenClaim := { program := "ytjhinklijopobaadoor", sum := "02651e068423c4e41c01272bc0cae50bb819237453758c29c2f2e0ba6b5d17c6", func := "provenance/provenancelaw2.CoreChecks", spec := "coreChecks", unfollowed := true, recurses := true, named := ["provenance/core.arity"], apart := false, laid := [("provenance/core.arity", laid_provenance_core_arity)] }
def CoreChecksSaid : Prop := coreChecksRow.holds Tryd.pinned (OpenSpec.ofChange coreChecksSpec)

/-- ITS FALSE NEIGHBOUR: 'it returns false'. Refute it at one input. -/
def coreChecksWrong : ChangeSpec := { name := "coreChecks", fn := fun _ => fun
  | [d] => { results := [.lit (.bool false)], args := [d] }
  | _ => none }
def CoreChecksWrongFalsely : Prop := coreChecksRow.holds Tryd.pinned (OpenSpec.ofChange coreChecksWrong)

/-- 'provenancelaw2.CoreSizes': WHATEVER THE INPUT: true; the input reads as it did. -/
def coreSizesSpec : ChangeSpec := { name := "coreSizes", fn := fun _ => fun
  | [d1, d2] => { results := [.lit (.bool true)], args := [d1, d2] }
  | _ => none }
def coreSizesRow : OpenClaim := { program := "ytjhinklijopobaadoor", sum := "02651e068423c4e41c01272bc0cae50bb819237453758c29c2f2e0ba6b5d17c6", func := "provenance/provenancelaw2.CoreSizes", spec := "coreSizes", unfollowed := true, recurses := true, named := ["provenance/core.arity"], apart := false, laid := [("provenance/core.arity", laid_provenance_core_arity)] }
def CoreSizesSaid : Prop := coreSizesRow.holds Tryd.pinned (OpenSpec.ofChange coreSizesSpec)

/-- ITS FALSE NEIGHBOUR: 'it returns false'. Refute it at one input. -/
def coreSizesWrong : ChangeSpec := { name := "coreSizes", fn := fun _ => fun
  | [d1, d2] => { results := [.lit (.bool false)], args := [d1, d2] }
  | _ => none }
def CoreSizesWrongFalsely : Prop := coreSizesRow.holds Tryd.pinned (OpenSpec.ofChange coreSizesWrong)

/-- 'provenancelaw2.CoreFree': WHATEVER THE INPUT: true; the input reads as it did. -/
def coreFreeSpec : ChangeSpec := { name := "coreFree", fn := fun _ => fun
  | [d1, d2] => { results := [.lit (.bool true)], args := [d1, d2] }
  | _ => none }
def coreFreeRow : OpenClaim := { program := "ytjhinklijopobaadoor", sum := "02651e068423c4e41c01272bc0cae50bb819237453758c29c2f2e0ba6b5d17c6", func := "provenance/provenancelaw2.CoreFree", spec := "coreFree", unfollowed := true, recurses := true, named := ["provenance/core.arity"], apart := false, laid := [("provenance/core.arity", laid_provenance_core_arity)] }
def CoreFreeSaid : Prop := coreFreeRow.holds Tryd.pinned (OpenSpec.ofChange coreFreeSpec)

/-- ITS FALSE NEIGHBOUR: 'it returns false'. Refute it at one input. -/
def coreFreeWrong : ChangeSpec := { name := "coreFree", fn := fun _ => fun
  | [d1, d2] => { results := [.lit (.bool false)], args := [d1, d2] }
  | _ => none }
def CoreFreeWrongFalsely : Prop := coreFreeRow.holds Tryd.pinned (OpenSpec.ofChange coreFreeWrong)

/-- 'provenancelaw2.CoreSame': WHATEVER THE INPUT: true; the input reads as it did. -/
def coreSameSpec : ChangeSpec := { name := "coreSame", fn := fun _ => fun
  | [d1, d2] => { results := [.lit (.bool true)], args := [d1, d2] }
  | _ => none }
def coreSameRow : OpenClaim := { program := "ytjhinklijopobaadoor", sum := "02651e068423c4e41c01272bc0cae50bb819237453758c29c2f2e0ba6b5d17c6", func := "provenance/provenancelaw2.CoreSame", spec := "coreSame", unfollowed := true, recurses := true, named := ["provenance/core.arity"], apart := false, laid := [("provenance/core.arity", laid_provenance_core_arity)] }
def CoreSameSaid : Prop := coreSameRow.holds Tryd.pinned (OpenSpec.ofChange coreSameSpec)

/-- ITS FALSE NEIGHBOUR: 'it returns false'. Refute it at one input. -/
def coreSameWrong : ChangeSpec := { name := "coreSame", fn := fun _ => fun
  | [d1, d2] => { results := [.lit (.bool false)], args := [d1, d2] }
  | _ => none }
def CoreSameWrongFalsely : Prop := coreSameRow.holds Tryd.pinned (OpenSpec.ofChange coreSameWrong)

/-- 'provenancelaw2.CoreCutIs': WHATEVER THE INPUT: true; the input reads as it did. -/
def coreCutIsSpec : ChangeSpec := { name := "coreCutIs", fn := fun _ => fun
  | [d1, d2] => { results := [.lit (.bool true)], args := [d1, d2] }
  | _ => none }
def coreCutIsRow : OpenClaim := { program := "ytjhinklijopobaadoor", sum := "02651e068423c4e41c01272bc0cae50bb819237453758c29c2f2e0ba6b5d17c6", func := "provenance/provenancelaw2.CoreCutIs", spec := "coreCutIs", unfollowed := true, recurses := true, named := ["provenance/core.arity"], apart := false, laid := [("provenance/core.arity", laid_provenance_core_arity)] }
def CoreCutIsSaid : Prop := coreCutIsRow.holds Tryd.pinned (OpenSpec.ofChange coreCutIsSpec)

/-- ITS FALSE NEIGHBOUR: 'it returns false'. Refute it at one input. -/
def coreCutIsWrong : ChangeSpec := { name := "coreCutIs", fn := fun _ => fun
  | [d1, d2] => { results := [.lit (.bool false)], args := [d1, d2] }
  | _ => none }
def CoreCutIsWrongFalsely : Prop := coreCutIsRow.holds Tryd.pinned (OpenSpec.ofChange coreCutIsWrong)

/-- 'provenancelaw2.CoreOrderIs': WHATEVER THE INPUT: true; the input reads as it did. -/
def coreOrderIsSpec : ChangeSpec := { name := "coreOrderIs", fn := fun _ => fun
  | [d1, d2] => { results := [.lit (.bool true)], args := [d1, d2] }
  | _ => none }
def coreOrderIsRow : OpenClaim := { program := "ytjhinklijopobaadoor", sum := "02651e068423c4e41c01272bc0cae50bb819237453758c29c2f2e0ba6b5d17c6", func := "provenance/provenancelaw2.CoreOrderIs", spec := "coreOrderIs", unfollowed := true, recurses := true, named := ["provenance/core.arity"], apart := false, laid := [("provenance/core.arity", laid_provenance_core_arity)] }
def CoreOrderIsSaid : Prop := coreOrderIsRow.holds Tryd.pinned (OpenSpec.ofChange coreOrderIsSpec)

/-- ITS FALSE NEIGHBOUR: 'it returns false'. Refute it at one input. -/
def coreOrderIsWrong : ChangeSpec := { name := "coreOrderIs", fn := fun _ => fun
  | [d1, d2] => { results := [.lit (.bool false)], args := [d1, d2] }
  | _ => none }
def CoreOrderIsWrongFalsely : Prop := coreOrderIsRow.holds Tryd.pinned (OpenSpec.ofChange coreOrderIsWrong)

/-- 'provenancelaw2.FlatChecks': WHATEVER THE INPUT: true; the input reads as it did. -/
def flatChecksSpec : ChangeSpec := { name := "flatChecks", fn := fun _ => fun
  | [d] => { results := [.lit (.bool true)], args := [d] }
  | _ => none }
def flatChecksRow : OpenClaim := { program := "ytjhinklijopobaadoor", sum := "02651e068423c4e41c01272bc0cae50bb819237453758c29c2f2e0ba6b5d17c6", func := "provenance/provenancelaw2.FlatChecks", spec := "flatChecks", unfollowed := true, recurses := true, named := ["provenance/core.arity"], apart := false, laid := [("provenance/core.arity", laid_provenance_core_arity)] }
def FlatChecksSaid : Prop := flatChecksRow.holds Tryd.pinned (OpenSpec.ofChange flatChecksSpec)

/-- ITS FALSE NEIGHBOUR: 'it returns false'. Refute it at one input. -/
def flatChecksWrong : ChangeSpec := { name := "flatChecks", fn := fun _ => fun
  | [d] => { results := [.lit (.bool false)], args := [d] }
  | _ => none }
def FlatChecksWrongFalsely : Prop := flatChecksRow.holds Tryd.pinned (OpenSpec.ofChange flatChecksWrong)

/-- 'provenancelaw2.PuritySays': WHATEVER THE INPUT: true; the input reads as it did. -/
def puritySaysSpec : ChangeSpec := { name := "puritySays", fn := fun _ => fun
  | [d] => { results := [.lit (.bool true)], args := [d] }
  | _ => none }
def puritySaysRow : OpenClaim := { program := "ytjhinklijopobaadoor", sum := "02651e068423c4e41c01272bc0cae50bb819237453758c29c2f2e0ba6b5d17c6", func := "provenance/provenancelaw2.PuritySays", spec := "puritySays", unfollowed := true, recurses := true, named := ["provenance/core.arity"], apart := false, laid := [("provenance/core.arity", laid_provenance_core_arity)] }
def PuritySaysSaid : Prop := puritySaysRow.holds Tryd.pinned (OpenSpec.ofChange puritySaysSpec)

/-- ITS FALSE NEIGHBOUR: 'it returns false'. Refute it at one input. -/
def puritySaysWrong : ChangeSpec := { name := "puritySays", fn := fun _ => fun
  | [d] => { results := [.lit (.bool false)], args := [d] }
  | _ => none }
def PuritySaysWrongFalsely : Prop := puritySaysRow.holds Tryd.pinned (OpenSpec.ofChange puritySaysWrong)

/-- 'provenancelaw2.UsageSays': WHATEVER THE INPUT: true; the input reads as it did. -/
def usageSaysSpec : ChangeSpec := { name := "usageSays", fn := fun _ => fun
  | [d] => { results := [.lit (.bool true)], args := [d] }
  | _ => none }
def usageSaysRow : OpenClaim := { program := "ytjhinklijopobaadoor", sum := "02651e068423c4e41c01272bc0cae50bb819237453758c29c2f2e0ba6b5d17c6", func := "provenance/provenancelaw2.UsageSays", spec := "usageSays", unfollowed := true, recurses := true, named := ["provenance/core.arity"], apart := false, laid := [("provenance/core.arity", laid_provenance_core_arity)] }
def UsageSaysSaid : Prop := usageSaysRow.holds Tryd.pinned (OpenSpec.ofChange usageSaysSpec)

/-- ITS FALSE NEIGHBOUR: 'it returns false'. Refute it at one input. -/
def usageSaysWrong : ChangeSpec := { name := "usageSays", fn := fun _ => fun
  | [d] => { results := [.lit (.bool false)], args := [d] }
  | _ => none }
def UsageSaysWrongFalsely : Prop := usageSaysRow.holds Tryd.pinned (OpenSpec.ofChange usageSaysWrong)

/- THE SECOND FORM. 'bulk': how many values and letters a reading holds, each counted each time it is reached (what is shared counts as often as it is met; a slice's spare places count too). A statement '..UptoSaid' is the law's where the arguments, and the package variables that the reading takes, are together of bulk at most 1048576: NARROWER than '..Said'. Prove '..Said' where nothing that the law and all that it calls make is longer than what came in: it says more and counts as full. Else prove '..UptoSaid'. A law counts once. -/
mutual
def uptoBulk {H : Type} : DataW H → Nat
  | .lit (.string bytes) => bytes.length + 1
  | .lit _ => 1
  | .nil => 1
  | .ptr d => uptoBulk d + 1
  | .slice elems spare => uptoBulkAll elems + uptoBulkAll spare + 1
  | .agg parts => uptoBulkAll parts + 1
  | .iface _ d => uptoBulk d + 1
  | .map entries => uptoBulkEntries entries + 1
  | .held _ => 1
def uptoBulkAll {H : Type} : List (DataW H) → Nat
  | [] => 0
  | d :: r => uptoBulk d + uptoBulkAll r
def uptoBulkEntries {H : Type} : List (Lit × DataW H) → Nat
  | [] => 0
  | x :: r => uptoBulkEntry x + uptoBulkEntries r
def uptoBulkEntry {H : Type} : Lit × DataW H → Nat
  | (.string bytes, d) => bytes.length + uptoBulk d + 1
  | (_, d) => uptoBulk d + 1
 end
def uptoSmall : (H : Type) → List (DataW H) → Bool := fun _ ds => decide (uptoBulkAll ds ≤ 1048576)
def OpenSpec.upto (s : _root_.Go.ChangeSpec) : _root_.Go.OpenSpec := { _root_.Go.OpenSpec.ofChange s with cond := some uptoSmall }

/-- 'provenancelaw2.CoreChecks', WHERE WHAT IT READS IS OF BULK AT MOST 1048576: true; the input reads as it did. -/
def coreChecksUptoRow : OpenClaim := { program := "ytjhinklijopobaadoor", sum := "02651e068423c4e41c01272bc0cae50bb819237453758c29c2f2e0ba6b5d17c6", func := "provenance/provenancelaw2.CoreChecks", spec := "coreChecks", unfollowed := true, recurses := true, named := ["provenance/core.arity"], apart := false, laid := [("provenance/core.arity", laid_provenance_core_arity)], narrowed := true }
def CoreChecksUptoSaid : Prop := coreChecksUptoRow.holds Tryd.pinned (OpenSpec.upto coreChecksSpec)

/-- 'provenancelaw2.CoreSizes', WHERE WHAT IT READS IS OF BULK AT MOST 1048576: true; the input reads as it did. -/
def coreSizesUptoRow : OpenClaim := { program := "ytjhinklijopobaadoor", sum := "02651e068423c4e41c01272bc0cae50bb819237453758c29c2f2e0ba6b5d17c6", func := "provenance/provenancelaw2.CoreSizes", spec := "coreSizes", unfollowed := true, recurses := true, named := ["provenance/core.arity"], apart := false, laid := [("provenance/core.arity", laid_provenance_core_arity)], narrowed := true }
def CoreSizesUptoSaid : Prop := coreSizesUptoRow.holds Tryd.pinned (OpenSpec.upto coreSizesSpec)

/-- 'provenancelaw2.CoreFree', WHERE WHAT IT READS IS OF BULK AT MOST 1048576: true; the input reads as it did. -/
def coreFreeUptoRow : OpenClaim := { program := "ytjhinklijopobaadoor", sum := "02651e068423c4e41c01272bc0cae50bb819237453758c29c2f2e0ba6b5d17c6", func := "provenance/provenancelaw2.CoreFree", spec := "coreFree", unfollowed := true, recurses := true, named := ["provenance/core.arity"], apart := false, laid := [("provenance/core.arity", laid_provenance_core_arity)], narrowed := true }
def CoreFreeUptoSaid : Prop := coreFreeUptoRow.holds Tryd.pinned (OpenSpec.upto coreFreeSpec)

/-- 'provenancelaw2.CoreSame', WHERE WHAT IT READS IS OF BULK AT MOST 1048576: true; the input reads as it did. -/
def coreSameUptoRow : OpenClaim := { program := "ytjhinklijopobaadoor", sum := "02651e068423c4e41c01272bc0cae50bb819237453758c29c2f2e0ba6b5d17c6", func := "provenance/provenancelaw2.CoreSame", spec := "coreSame", unfollowed := true, recurses := true, named := ["provenance/core.arity"], apart := false, laid := [("provenance/core.arity", laid_provenance_core_arity)], narrowed := true }
def CoreSameUptoSaid : Prop := coreSameUptoRow.holds Tryd.pinned (OpenSpec.upto coreSameSpec)

/-- 'provenancelaw2.CoreCutIs', WHERE WHAT IT READS IS OF BULK AT MOST 1048576: true; the input reads as it did. -/
def coreCutIsUptoRow : OpenClaim := { program := "ytjhinklijopobaadoor", sum := "02651e068423c4e41c01272bc0cae50bb819237453758c29c2f2e0ba6b5d17c6", func := "provenance/provenancelaw2.CoreCutIs", spec := "coreCutIs", unfollowed := true, recurses := true, named := ["provenance/core.arity"], apart := false, laid := [("provenance/core.arity", laid_provenance_core_arity)], narrowed := true }
def CoreCutIsUptoSaid : Prop := coreCutIsUptoRow.holds Tryd.pinned (OpenSpec.upto coreCutIsSpec)

/-- 'provenancelaw2.CoreOrderIs', WHERE WHAT IT READS IS OF BULK AT MOST 1048576: true; the input reads as it did. -/
def coreOrderIsUptoRow : OpenClaim := { program := "ytjhinklijopobaadoor", sum := "02651e068423c4e41c01272bc0cae50bb819237453758c29c2f2e0ba6b5d17c6", func := "provenance/provenancelaw2.CoreOrderIs", spec := "coreOrderIs", unfollowed := true, recurses := true, named := ["provenance/core.arity"], apart := false, laid := [("provenance/core.arity", laid_provenance_core_arity)], narrowed := true }
def CoreOrderIsUptoSaid : Prop := coreOrderIsUptoRow.holds Tryd.pinned (OpenSpec.upto coreOrderIsSpec)

/-- 'provenancelaw2.FlatChecks', WHERE WHAT IT READS IS OF BULK AT MOST 1048576: true; the input reads as it did. -/
def flatChecksUptoRow : OpenClaim := { program := "ytjhinklijopobaadoor", sum := "02651e068423c4e41c01272bc0cae50bb819237453758c29c2f2e0ba6b5d17c6", func := "provenance/provenancelaw2.FlatChecks", spec := "flatChecks", unfollowed := true, recurses := true, named := ["provenance/core.arity"], apart := false, laid := [("provenance/core.arity", laid_provenance_core_arity)], narrowed := true }
def FlatChecksUptoSaid : Prop := flatChecksUptoRow.holds Tryd.pinned (OpenSpec.upto flatChecksSpec)

/-- 'provenancelaw2.PuritySays', WHERE WHAT IT READS IS OF BULK AT MOST 1048576: true; the input reads as it did. -/
def puritySaysUptoRow : OpenClaim := { program := "ytjhinklijopobaadoor", sum := "02651e068423c4e41c01272bc0cae50bb819237453758c29c2f2e0ba6b5d17c6", func := "provenance/provenancelaw2.PuritySays", spec := "puritySays", unfollowed := true, recurses := true, named := ["provenance/core.arity"], apart := false, laid := [("provenance/core.arity", laid_provenance_core_arity)], narrowed := true }
def PuritySaysUptoSaid : Prop := puritySaysUptoRow.holds Tryd.pinned (OpenSpec.upto puritySaysSpec)

/-- 'provenancelaw2.UsageSays', WHERE WHAT IT READS IS OF BULK AT MOST 1048576: true; the input reads as it did. -/
def usageSaysUptoRow : OpenClaim := { program := "ytjhinklijopobaadoor", sum := "02651e068423c4e41c01272bc0cae50bb819237453758c29c2f2e0ba6b5d17c6", func := "provenance/provenancelaw2.UsageSays", spec := "usageSays", unfollowed := true, recurses := true, named := ["provenance/core.arity"], apart := false, laid := [("provenance/core.arity", laid_provenance_core_arity)], narrowed := true }
def UsageSaysUptoSaid : Prop := usageSaysUptoRow.holds Tryd.pinned (OpenSpec.upto usageSaysSpec)

end Rows
end Go.Proofs.YtjhinklijopobaaDoor
