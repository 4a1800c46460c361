/-
  No cell of these rows narrows 'for every input' (looked for: loops, veiled, ifaces, maps, wideKeys, modest, calm, conditions, laid).
  DERIVED. THE GIVEN ROWS OF THIS SEAT. 3 by the template 'for every input the law returns true; each argument reads behind the call as it read before'; 0 by the template 'total and deterministic' (their statements: YtdobkkoonamocaaTotals.lean).
  GIVEN WITH THE SEED: the statements are not yours to turn. If you find one false, say at which input.
  Laid BY PROGRAM, IN A SANDBOX (cutbox-rows.mjs): the forced cells as the released guide's own fill.sh prints them over the translation c39da6538fb7cf50… (all of the seat's roots in one cut). By AI agents, Wed Nov 11 2026. No macro, syntax, notation, axiom, sorry.
-/
import Derived.Test.YtdobkkoonamocaaChecked
import GoSem.Claim
import GoSem.ClaimJoined
import GoSem.ClaimMapViews
import Derived.JoinedTies
import Derived.KernelRfl
namespace Go.Proofs.Ytdobkkoonamocaa
/- THE CELL 'sum', in the pinned program and in every row, IS THE sha256 OF THE DUMP (.gsa) THAT YtdobkkoonamocaaProg.lean LOADS. Nothing in Lean hashes anything: it is a label: what it is worth is what the hold of that sum in a sandbox is worth. -/
noncomputable def Try.pinned : Pinned := { name := "ytdobkkoonamocaa", sum := "c39da6538fb7cf50b92a1f0ff73b1c2a70701e611393a7ad46596374a1f3b4b8", checked := Try.checked }
namespace Rows
def none {H : Type} : Left H := { results := [], args := [] }

/-- 'provenancelaw1.ModulesOrdered': WHATEVER THE INPUT: true; the input reads as it did. -/
def modulesOrderedSpec : ChangeSpec := { name := "modulesOrdered", fn := fun _ => fun
  | [d1, d2] => { results := [.lit (.bool true)], args := [d1, d2] }
  | _ => none }
def modulesOrderedRow : OpenClaim := { program := "ytdobkkoonamocaa", sum := "c39da6538fb7cf50b92a1f0ff73b1c2a70701e611393a7ad46596374a1f3b4b8", func := "provenance/provenancelaw1.ModulesOrdered", spec := "modulesOrdered", unfollowed := true, recurses := true, apart := false }
def ModulesOrderedSaid : Prop := modulesOrderedRow.holds Try.pinned (OpenSpec.ofChange modulesOrderedSpec)

/-- ITS FALSE NEIGHBOUR: 'it returns false'. Refute it at one input. -/
def modulesOrderedWrong : ChangeSpec := { name := "modulesOrdered", fn := fun _ => fun
  | [d1, d2] => { results := [.lit (.bool false)], args := [d1, d2] }
  | _ => none }
def ModulesOrderedWrongFalsely : Prop := modulesOrderedRow.holds Try.pinned (OpenSpec.ofChange modulesOrderedWrong)

/-- 'provenancelaw1.ModulesAfter': WHATEVER THE INPUT: true; the input reads as it did. -/
def modulesAfterSpec : ChangeSpec := { name := "modulesAfter", fn := fun _ => fun
  | [d1, d2, d3] => { results := [.lit (.bool true)], args := [d1, d2, d3] }
  | _ => none }
def modulesAfterRow : OpenClaim := { program := "ytdobkkoonamocaa", sum := "c39da6538fb7cf50b92a1f0ff73b1c2a70701e611393a7ad46596374a1f3b4b8", func := "provenance/provenancelaw1.ModulesAfter", spec := "modulesAfter", unfollowed := true, recurses := true, apart := false }
def ModulesAfterSaid : Prop := modulesAfterRow.holds Try.pinned (OpenSpec.ofChange modulesAfterSpec)

/-- ITS FALSE NEIGHBOUR: 'it returns false'. Refute it at one input. -/
def modulesAfterWrong : ChangeSpec := { name := "modulesAfter", fn := fun _ => fun
  | [d1, d2, d3] => { results := [.lit (.bool false)], args := [d1, d2, d3] }
  | _ => none }
def ModulesAfterWrongFalsely : Prop := modulesAfterRow.holds Try.pinned (OpenSpec.ofChange modulesAfterWrong)

/-- 'provenancelaw1.ModulesCycles': WHATEVER THE INPUT: true; the input reads as it did. -/
def modulesCyclesSpec : ChangeSpec := { name := "modulesCycles", fn := fun _ => fun
  | [d1, d2] => { results := [.lit (.bool true)], args := [d1, d2] }
  | _ => none }
def modulesCyclesRow : OpenClaim := { program := "ytdobkkoonamocaa", sum := "c39da6538fb7cf50b92a1f0ff73b1c2a70701e611393a7ad46596374a1f3b4b8", func := "provenance/provenancelaw1.ModulesCycles", spec := "modulesCycles", unfollowed := true, recurses := true, apart := false }
def ModulesCyclesSaid : Prop := modulesCyclesRow.holds Try.pinned (OpenSpec.ofChange modulesCyclesSpec)

/-- ITS FALSE NEIGHBOUR: 'it returns false'. Refute it at one input. -/
def modulesCyclesWrong : ChangeSpec := { name := "modulesCycles", fn := fun _ => fun
  | [d1, d2] => { results := [.lit (.bool false)], args := [d1, d2] }
  | _ => none }
def ModulesCyclesWrongFalsely : Prop := modulesCyclesRow.holds Try.pinned (OpenSpec.ofChange modulesCyclesWrong)

/- THE SECOND FORM. 'bulk': how many values and letters a reading holds, each counted each time it is reached (what is shared counts as often as it is met; a slice's spare places count too). A statement '..UptoSaid' is the law's where the arguments, and the package variables that the reading takes, are together of bulk at most 1048576: NARROWER than '..Said'. Prove '..Said' where nothing that the law and all that it calls make is longer than what came in: it says more and counts as full. Else prove '..UptoSaid'. A law counts once. -/
mutual
def uptoBulk {H : Type} : DataW H → Nat
  | .lit (.string bytes) => bytes.length + 1
  | .lit _ => 1
  | .nil => 1
  | .ptr d => uptoBulk d + 1
  | .slice elems spare => uptoBulkAll elems + uptoBulkAll spare + 1
  | .agg parts => uptoBulkAll parts + 1
  | .iface _ d => uptoBulk d + 1
  | .map entries => uptoBulkEntries entries + 1
  | .held _ => 1
def uptoBulkAll {H : Type} : List (DataW H) → Nat
  | [] => 0
  | d :: r => uptoBulk d + uptoBulkAll r
def uptoBulkEntries {H : Type} : List (Lit × DataW H) → Nat
  | [] => 0
  | x :: r => uptoBulkEntry x + uptoBulkEntries r
def uptoBulkEntry {H : Type} : Lit × DataW H → Nat
  | (.string bytes, d) => bytes.length + uptoBulk d + 1
  | (_, d) => uptoBulk d + 1
 end
def uptoSmall : (H : Type) → List (DataW H) → Bool := fun _ ds => decide (uptoBulkAll ds ≤ 1048576)
def OpenSpec.upto (s : _root_.Go.ChangeSpec) : _root_.Go.OpenSpec := { _root_.Go.OpenSpec.ofChange s with cond := some uptoSmall }

/-- 'provenancelaw1.ModulesOrdered', WHERE WHAT IT READS IS OF BULK AT MOST 1048576: true; the input reads as it did. -/
def modulesOrderedUptoRow : OpenClaim := { program := "ytdobkkoonamocaa", sum := "c39da6538fb7cf50b92a1f0ff73b1c2a70701e611393a7ad46596374a1f3b4b8", func := "provenance/provenancelaw1.ModulesOrdered", spec := "modulesOrdered", unfollowed := true, recurses := true, apart := false, narrowed := true }
def ModulesOrderedUptoSaid : Prop := modulesOrderedUptoRow.holds Try.pinned (OpenSpec.upto modulesOrderedSpec)

/-- 'provenancelaw1.ModulesAfter', WHERE WHAT IT READS IS OF BULK AT MOST 1048576: true; the input reads as it did. -/
def modulesAfterUptoRow : OpenClaim := { program := "ytdobkkoonamocaa", sum := "c39da6538fb7cf50b92a1f0ff73b1c2a70701e611393a7ad46596374a1f3b4b8", func := "provenance/provenancelaw1.ModulesAfter", spec := "modulesAfter", unfollowed := true, recurses := true, apart := false, narrowed := true }
def ModulesAfterUptoSaid : Prop := modulesAfterUptoRow.holds Try.pinned (OpenSpec.upto modulesAfterSpec)

/-- 'provenancelaw1.ModulesCycles', WHERE WHAT IT READS IS OF BULK AT MOST 1048576: true; the input reads as it did. -/
def modulesCyclesUptoRow : OpenClaim := { program := "ytdobkkoonamocaa", sum := "c39da6538fb7cf50b92a1f0ff73b1c2a70701e611393a7ad46596374a1f3b4b8", func := "provenance/provenancelaw1.ModulesCycles", spec := "modulesCycles", unfollowed := true, recurses := true, apart := false, narrowed := true }
def ModulesCyclesUptoSaid : Prop := modulesCyclesUptoRow.holds Try.pinned (OpenSpec.upto modulesCyclesSpec)

end Rows
end Go.Proofs.Ytdobkkoonamocaa
