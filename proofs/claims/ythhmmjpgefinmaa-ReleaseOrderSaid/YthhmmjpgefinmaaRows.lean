/-
  No cell of these rows narrows 'for every input' (looked for: loops, veiled, ifaces, maps, wideKeys, modest, calm, conditions, laid).
  DERIVED. THE GIVEN ROWS OF THIS SEAT. 3 by the template 'for every input the law returns true; each argument reads behind the call as it read before'; 0 by the template 'total and deterministic' (their statements: YthhmmjpgefinmaaTotals.lean).
  GIVEN WITH THE SEED: the statements are not yours to turn. If you find one false, say at which input.
  Laid BY PROGRAM, IN A SANDBOX (cutbox-rows.mjs): the forced cells as the released guide's own fill.sh prints them over the translation ad4d692ca6ad0574… (all of the seat's roots in one cut). By AI agents, Wed Nov 11 2026. No macro, syntax, notation, axiom, sorry.
-/
import Derived.Test.YthhmmjpgefinmaaChecked
import GoSem.Claim
import GoSem.ClaimJoined
import GoSem.ClaimMapViews
import Derived.JoinedTies
import Derived.KernelRfl
namespace Go.Proofs.Ythhmmjpgefinmaa
/- THE CELL 'sum', in the pinned program and in every row, IS THE sha256 OF THE DUMP (.gsa) THAT YthhmmjpgefinmaaProg.lean LOADS. Nothing in Lean hashes anything: it is a label: what it is worth is what the hold of that sum in a sandbox is worth. -/
noncomputable def Try.pinned : Pinned := { name := "ythhmmjpgefinmaa", sum := "ad4d692ca6ad057413c9973d5b966526a07c7fe19d6ba534a41d8c1c058dca10", checked := Try.checked }
namespace Rows
def none {H : Type} : Left H := { results := [], args := [] }

/-- 'kinescopelaw23.ReleaseCounts': WHATEVER THE INPUT: true; the input reads as it did. -/
def releaseCountsSpec : ChangeSpec := { name := "releaseCounts", fn := fun _ => fun
  | [d1, d2, d3] => { results := [.lit (.bool true)], args := [d1, d2, d3] }
  | _ => none }
def releaseCountsRow : OpenClaim := { program := "ythhmmjpgefinmaa", sum := "ad4d692ca6ad057413c9973d5b966526a07c7fe19d6ba534a41d8c1c058dca10", func := "kinescope/kinescopelaw23.ReleaseCounts", spec := "releaseCounts", inPlace := ["slices.overlaps[kinescope/api.Edge]"], unfollowed := true, recurses := true, apart := false }
def ReleaseCountsSaid : Prop := releaseCountsRow.holds Try.pinned (OpenSpec.ofChange releaseCountsSpec)

/-- ITS FALSE NEIGHBOUR: 'it returns false'. Refute it at one input. -/
def releaseCountsWrong : ChangeSpec := { name := "releaseCounts", fn := fun _ => fun
  | [d1, d2, d3] => { results := [.lit (.bool false)], args := [d1, d2, d3] }
  | _ => none }
def ReleaseCountsWrongFalsely : Prop := releaseCountsRow.holds Try.pinned (OpenSpec.ofChange releaseCountsWrong)

/-- 'kinescopelaw23.ReleaseParts': WHATEVER THE INPUT: true; the input reads as it did. -/
def releasePartsSpec : ChangeSpec := { name := "releaseParts", fn := fun _ => fun
  | [d1, d2, d3, d4, d5, d6] => { results := [.lit (.bool true)], args := [d1, d2, d3, d4, d5, d6] }
  | _ => none }
def releasePartsRow : OpenClaim := { program := "ythhmmjpgefinmaa", sum := "ad4d692ca6ad057413c9973d5b966526a07c7fe19d6ba534a41d8c1c058dca10", func := "kinescope/kinescopelaw23.ReleaseParts", spec := "releaseParts", inPlace := ["slices.overlaps[kinescope/api.Edge]"], unfollowed := true, recurses := true, apart := false }
def ReleasePartsSaid : Prop := releasePartsRow.holds Try.pinned (OpenSpec.ofChange releasePartsSpec)

/-- ITS FALSE NEIGHBOUR: 'it returns false'. Refute it at one input. -/
def releasePartsWrong : ChangeSpec := { name := "releaseParts", fn := fun _ => fun
  | [d1, d2, d3, d4, d5, d6] => { results := [.lit (.bool false)], args := [d1, d2, d3, d4, d5, d6] }
  | _ => none }
def ReleasePartsWrongFalsely : Prop := releasePartsRow.holds Try.pinned (OpenSpec.ofChange releasePartsWrong)

/-- 'kinescopelaw23.ReleaseOrder': WHATEVER THE INPUT: true; the input reads as it did. -/
def releaseOrderSpec : ChangeSpec := { name := "releaseOrder", fn := fun _ => fun
  | [d1, d2, d3, d4] => { results := [.lit (.bool true)], args := [d1, d2, d3, d4] }
  | _ => none }
def releaseOrderRow : OpenClaim := { program := "ythhmmjpgefinmaa", sum := "ad4d692ca6ad057413c9973d5b966526a07c7fe19d6ba534a41d8c1c058dca10", func := "kinescope/kinescopelaw23.ReleaseOrder", spec := "releaseOrder", inPlace := ["slices.overlaps[kinescope/api.Edge]"], unfollowed := true, recurses := true, apart := false }
def ReleaseOrderSaid : Prop := releaseOrderRow.holds Try.pinned (OpenSpec.ofChange releaseOrderSpec)

/-- ITS FALSE NEIGHBOUR: 'it returns false'. Refute it at one input. -/
def releaseOrderWrong : ChangeSpec := { name := "releaseOrder", fn := fun _ => fun
  | [d1, d2, d3, d4] => { results := [.lit (.bool false)], args := [d1, d2, d3, d4] }
  | _ => none }
def ReleaseOrderWrongFalsely : Prop := releaseOrderRow.holds Try.pinned (OpenSpec.ofChange releaseOrderWrong)

/- THE SECOND FORM. 'bulk': how many values and letters a reading holds, each counted each time it is reached (what is shared counts as often as it is met; a slice's spare places count too). A statement '..UptoSaid' is the law's where the arguments, and the package variables that the reading takes, are together of bulk at most 1048576: NARROWER than '..Said'. Prove '..Said' where nothing that the law and all that it calls make is longer than what came in: it says more and counts as full. Else prove '..UptoSaid'. A law counts once. -/
mutual
def uptoBulk {H : Type} : DataW H → Nat
  | .lit (.string bytes) => bytes.length + 1
  | .lit _ => 1
  | .nil => 1
  | .ptr d => uptoBulk d + 1
  | .slice elems spare => uptoBulkAll elems + uptoBulkAll spare + 1
  | .agg parts => uptoBulkAll parts + 1
  | .iface _ d => uptoBulk d + 1
  | .map entries => uptoBulkEntries entries + 1
  | .held _ => 1
def uptoBulkAll {H : Type} : List (DataW H) → Nat
  | [] => 0
  | d :: r => uptoBulk d + uptoBulkAll r
def uptoBulkEntries {H : Type} : List (Lit × DataW H) → Nat
  | [] => 0
  | x :: r => uptoBulkEntry x + uptoBulkEntries r
def uptoBulkEntry {H : Type} : Lit × DataW H → Nat
  | (.string bytes, d) => bytes.length + uptoBulk d + 1
  | (_, d) => uptoBulk d + 1
 end
def uptoSmall : (H : Type) → List (DataW H) → Bool := fun _ ds => decide (uptoBulkAll ds ≤ 1048576)
def OpenSpec.upto (s : _root_.Go.ChangeSpec) : _root_.Go.OpenSpec := { _root_.Go.OpenSpec.ofChange s with cond := some uptoSmall }

/-- 'kinescopelaw23.ReleaseCounts', WHERE WHAT IT READS IS OF BULK AT MOST 1048576: true; the input reads as it did. -/
def releaseCountsUptoRow : OpenClaim := { program := "ythhmmjpgefinmaa", sum := "ad4d692ca6ad057413c9973d5b966526a07c7fe19d6ba534a41d8c1c058dca10", func := "kinescope/kinescopelaw23.ReleaseCounts", spec := "releaseCounts", inPlace := ["slices.overlaps[kinescope/api.Edge]"], unfollowed := true, recurses := true, apart := false, narrowed := true }
def ReleaseCountsUptoSaid : Prop := releaseCountsUptoRow.holds Try.pinned (OpenSpec.upto releaseCountsSpec)

/-- 'kinescopelaw23.ReleaseParts', WHERE WHAT IT READS IS OF BULK AT MOST 1048576: true; the input reads as it did. -/
def releasePartsUptoRow : OpenClaim := { program := "ythhmmjpgefinmaa", sum := "ad4d692ca6ad057413c9973d5b966526a07c7fe19d6ba534a41d8c1c058dca10", func := "kinescope/kinescopelaw23.ReleaseParts", spec := "releaseParts", inPlace := ["slices.overlaps[kinescope/api.Edge]"], unfollowed := true, recurses := true, apart := false, narrowed := true }
def ReleasePartsUptoSaid : Prop := releasePartsUptoRow.holds Try.pinned (OpenSpec.upto releasePartsSpec)

/-- 'kinescopelaw23.ReleaseOrder', WHERE WHAT IT READS IS OF BULK AT MOST 1048576: true; the input reads as it did. -/
def releaseOrderUptoRow : OpenClaim := { program := "ythhmmjpgefinmaa", sum := "ad4d692ca6ad057413c9973d5b966526a07c7fe19d6ba534a41d8c1c058dca10", func := "kinescope/kinescopelaw23.ReleaseOrder", spec := "releaseOrder", inPlace := ["slices.overlaps[kinescope/api.Edge]"], unfollowed := true, recurses := true, apart := false, narrowed := true }
def ReleaseOrderUptoSaid : Prop := releaseOrderUptoRow.holds Try.pinned (OpenSpec.upto releaseOrderSpec)

end Rows
end Go.Proofs.Ythhmmjpgefinmaa
