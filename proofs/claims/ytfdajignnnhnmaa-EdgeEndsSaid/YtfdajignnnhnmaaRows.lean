/-
  No cell of these rows narrows 'for every input' (looked for: loops, veiled, ifaces, maps, wideKeys, modest, calm, conditions, laid).
  DERIVED. THE GIVEN ROWS OF THIS SEAT. 6 by the template 'for every input the law returns true; each argument reads behind the call as it read before'; 0 by the template 'total and deterministic' (their statements: YtfdajignnnhnmaaTotals.lean).
  GIVEN WITH THE SEED: the statements are not yours to turn. If you find one false, say at which input.
  Laid BY PROGRAM, IN A SANDBOX (cutbox-rows.mjs): the forced cells as the released guide's own fill.sh prints them over the translation 0bd686e548002555… (all of the seat's roots in one cut). By AI agents, Wed Nov 11 2026. No macro, syntax, notation, axiom, sorry.
-/
import Derived.Test.YtfdajignnnhnmaaChecked
import GoSem.Claim
import GoSem.ClaimJoined
import GoSem.ClaimMapViews
import Derived.JoinedTies
import Derived.KernelRfl
namespace Go.Proofs.Ytfdajignnnhnmaa
/- THE CELL 'sum', in the pinned program and in every row, IS THE sha256 OF THE DUMP (.gsa) THAT YtfdajignnnhnmaaProg.lean LOADS. Nothing in Lean hashes anything: it is a label: what it is worth is what the hold of that sum in a sandbox is worth. -/
noncomputable def Try.pinned : Pinned := { name := "ytfdajignnnhnmaa", sum := "0bd686e5480025550c9a6253945bc8f85bc1f7422db9a09caa2aebf7c83c0d94", checked := Try.checked }
namespace Rows
def none {H : Type} : Left H := { results := [], args := [] }

/-- 'kinescopelaw06.EdgeParses': WHATEVER THE INPUT: true; the input reads as it did. -/
def edgeParsesSpec : ChangeSpec := { name := "edgeParses", fn := fun _ => fun
  | [d] => { results := [.lit (.bool true)], args := [d] }
  | _ => none }
def edgeParsesRow : OpenClaim := { program := "ytfdajignnnhnmaa", sum := "0bd686e5480025550c9a6253945bc8f85bc1f7422db9a09caa2aebf7c83c0d94", func := "kinescope/kinescopelaw06.EdgeParses", spec := "edgeParses", unfollowed := true, recurses := true, apart := false }
def EdgeParsesSaid : Prop := edgeParsesRow.holds Try.pinned (OpenSpec.ofChange edgeParsesSpec)

/-- ITS FALSE NEIGHBOUR: 'it returns false'. Refute it at one input. -/
def edgeParsesWrong : ChangeSpec := { name := "edgeParses", fn := fun _ => fun
  | [d] => { results := [.lit (.bool false)], args := [d] }
  | _ => none }
def EdgeParsesWrongFalsely : Prop := edgeParsesRow.holds Try.pinned (OpenSpec.ofChange edgeParsesWrong)

/-- 'kinescopelaw06.EdgeBack': WHATEVER THE INPUT: true; the input reads as it did. -/
def edgeBackSpec : ChangeSpec := { name := "edgeBack", fn := fun _ => fun
  | [d1, d2, d3] => { results := [.lit (.bool true)], args := [d1, d2, d3] }
  | _ => none }
def edgeBackRow : OpenClaim := { program := "ytfdajignnnhnmaa", sum := "0bd686e5480025550c9a6253945bc8f85bc1f7422db9a09caa2aebf7c83c0d94", func := "kinescope/kinescopelaw06.EdgeBack", spec := "edgeBack", unfollowed := true, recurses := true, apart := false }
def EdgeBackSaid : Prop := edgeBackRow.holds Try.pinned (OpenSpec.ofChange edgeBackSpec)

/-- ITS FALSE NEIGHBOUR: 'it returns false'. Refute it at one input. -/
def edgeBackWrong : ChangeSpec := { name := "edgeBack", fn := fun _ => fun
  | [d1, d2, d3] => { results := [.lit (.bool false)], args := [d1, d2, d3] }
  | _ => none }
def EdgeBackWrongFalsely : Prop := edgeBackRow.holds Try.pinned (OpenSpec.ofChange edgeBackWrong)

/-- 'kinescopelaw06.EdgeDoes': WHATEVER THE INPUT: true; the input reads as it did. -/
def edgeDoesSpec : ChangeSpec := { name := "edgeDoes", fn := fun _ => fun
  | [d1, d2, d3] => { results := [.lit (.bool true)], args := [d1, d2, d3] }
  | _ => none }
def edgeDoesRow : OpenClaim := { program := "ytfdajignnnhnmaa", sum := "0bd686e5480025550c9a6253945bc8f85bc1f7422db9a09caa2aebf7c83c0d94", func := "kinescope/kinescopelaw06.EdgeDoes", spec := "edgeDoes", unfollowed := true, recurses := true, apart := false }
def EdgeDoesSaid : Prop := edgeDoesRow.holds Try.pinned (OpenSpec.ofChange edgeDoesSpec)

/-- ITS FALSE NEIGHBOUR: 'it returns false'. Refute it at one input. -/
def edgeDoesWrong : ChangeSpec := { name := "edgeDoes", fn := fun _ => fun
  | [d1, d2, d3] => { results := [.lit (.bool false)], args := [d1, d2, d3] }
  | _ => none }
def EdgeDoesWrongFalsely : Prop := edgeDoesRow.holds Try.pinned (OpenSpec.ofChange edgeDoesWrong)

/-- 'kinescopelaw06.EdgeSorts': WHATEVER THE INPUT: true; the input reads as it did. -/
def edgeSortsSpec : ChangeSpec := { name := "edgeSorts", fn := fun _ => fun
  | [d] => { results := [.lit (.bool true)], args := [d] }
  | _ => none }
def edgeSortsRow : OpenClaim := { program := "ytfdajignnnhnmaa", sum := "0bd686e5480025550c9a6253945bc8f85bc1f7422db9a09caa2aebf7c83c0d94", func := "kinescope/kinescopelaw06.EdgeSorts", spec := "edgeSorts", unfollowed := true, recurses := true, apart := false }
def EdgeSortsSaid : Prop := edgeSortsRow.holds Try.pinned (OpenSpec.ofChange edgeSortsSpec)

/-- ITS FALSE NEIGHBOUR: 'it returns false'. Refute it at one input. -/
def edgeSortsWrong : ChangeSpec := { name := "edgeSorts", fn := fun _ => fun
  | [d] => { results := [.lit (.bool false)], args := [d] }
  | _ => none }
def EdgeSortsWrongFalsely : Prop := edgeSortsRow.holds Try.pinned (OpenSpec.ofChange edgeSortsWrong)

/-- 'kinescopelaw06.EdgeOrder': WHATEVER THE INPUT: true; the input reads as it did. -/
def edgeOrderSpec : ChangeSpec := { name := "edgeOrder", fn := fun _ => fun
  | [d1, d2] => { results := [.lit (.bool true)], args := [d1, d2] }
  | _ => none }
def edgeOrderRow : OpenClaim := { program := "ytfdajignnnhnmaa", sum := "0bd686e5480025550c9a6253945bc8f85bc1f7422db9a09caa2aebf7c83c0d94", func := "kinescope/kinescopelaw06.EdgeOrder", spec := "edgeOrder", unfollowed := true, recurses := true, apart := false }
def EdgeOrderSaid : Prop := edgeOrderRow.holds Try.pinned (OpenSpec.ofChange edgeOrderSpec)

/-- ITS FALSE NEIGHBOUR: 'it returns false'. Refute it at one input. -/
def edgeOrderWrong : ChangeSpec := { name := "edgeOrder", fn := fun _ => fun
  | [d1, d2] => { results := [.lit (.bool false)], args := [d1, d2] }
  | _ => none }
def EdgeOrderWrongFalsely : Prop := edgeOrderRow.holds Try.pinned (OpenSpec.ofChange edgeOrderWrong)

/-- 'kinescopelaw06.EdgeEnds': WHATEVER THE INPUT: true; the input reads as it did. -/
def edgeEndsSpec : ChangeSpec := { name := "edgeEnds", fn := fun _ => fun
  | [] => { results := [.lit (.bool true)], args := [] }
  | _ => none }
def edgeEndsRow : OpenClaim := { program := "ytfdajignnnhnmaa", sum := "0bd686e5480025550c9a6253945bc8f85bc1f7422db9a09caa2aebf7c83c0d94", func := "kinescope/kinescopelaw06.EdgeEnds", spec := "edgeEnds", unfollowed := true, recurses := true, apart := false }
def EdgeEndsSaid : Prop := edgeEndsRow.holds Try.pinned (OpenSpec.ofChange edgeEndsSpec)

/-- ITS FALSE NEIGHBOUR: 'it returns false'. Refute it at one input. -/
def edgeEndsWrong : ChangeSpec := { name := "edgeEnds", fn := fun _ => fun
  | [] => { results := [.lit (.bool false)], args := [] }
  | _ => none }
def EdgeEndsWrongFalsely : Prop := edgeEndsRow.holds Try.pinned (OpenSpec.ofChange edgeEndsWrong)

/- THE SECOND FORM. 'bulk': how many values and letters a reading holds, each counted each time it is reached (what is shared counts as often as it is met; a slice's spare places count too). A statement '..UptoSaid' is the law's where the arguments, and the package variables that the reading takes, are together of bulk at most 1048576: NARROWER than '..Said'. Prove '..Said' where nothing that the law and all that it calls make is longer than what came in: it says more and counts as full. Else prove '..UptoSaid'. A law counts once. -/
mutual
def uptoBulk {H : Type} : DataW H → Nat
  | .lit (.string bytes) => bytes.length + 1
  | .lit _ => 1
  | .nil => 1
  | .ptr d => uptoBulk d + 1
  | .slice elems spare => uptoBulkAll elems + uptoBulkAll spare + 1
  | .agg parts => uptoBulkAll parts + 1
  | .iface _ d => uptoBulk d + 1
  | .map entries => uptoBulkEntries entries + 1
  | .held _ => 1
def uptoBulkAll {H : Type} : List (DataW H) → Nat
  | [] => 0
  | d :: r => uptoBulk d + uptoBulkAll r
def uptoBulkEntries {H : Type} : List (Lit × DataW H) → Nat
  | [] => 0
  | x :: r => uptoBulkEntry x + uptoBulkEntries r
def uptoBulkEntry {H : Type} : Lit × DataW H → Nat
  | (.string bytes, d) => bytes.length + uptoBulk d + 1
  | (_, d) => uptoBulk d + 1
 end
def uptoSmall : (H : Type) → List (DataW H) → Bool := fun _ ds => decide (uptoBulkAll ds ≤ 1048576)
def OpenSpec.upto (s : _root_.Go.ChangeSpec) : _root_.Go.OpenSpec := { _root_.Go.OpenSpec.ofChange s with cond := some uptoSmall }

/-- 'kinescopelaw06.EdgeParses', WHERE WHAT IT READS IS OF BULK AT MOST 1048576: true; the input reads as it did. -/
def edgeParsesUptoRow : OpenClaim := { program := "ytfdajignnnhnmaa", sum := "0bd686e5480025550c9a6253945bc8f85bc1f7422db9a09caa2aebf7c83c0d94", func := "kinescope/kinescopelaw06.EdgeParses", spec := "edgeParses", unfollowed := true, recurses := true, apart := false, narrowed := true }
def EdgeParsesUptoSaid : Prop := edgeParsesUptoRow.holds Try.pinned (OpenSpec.upto edgeParsesSpec)

/-- 'kinescopelaw06.EdgeBack', WHERE WHAT IT READS IS OF BULK AT MOST 1048576: true; the input reads as it did. -/
def edgeBackUptoRow : OpenClaim := { program := "ytfdajignnnhnmaa", sum := "0bd686e5480025550c9a6253945bc8f85bc1f7422db9a09caa2aebf7c83c0d94", func := "kinescope/kinescopelaw06.EdgeBack", spec := "edgeBack", unfollowed := true, recurses := true, apart := false, narrowed := true }
def EdgeBackUptoSaid : Prop := edgeBackUptoRow.holds Try.pinned (OpenSpec.upto edgeBackSpec)

/-- 'kinescopelaw06.EdgeDoes', WHERE WHAT IT READS IS OF BULK AT MOST 1048576: true; the input reads as it did. -/
def edgeDoesUptoRow : OpenClaim := { program := "ytfdajignnnhnmaa", sum := "0bd686e5480025550c9a6253945bc8f85bc1f7422db9a09caa2aebf7c83c0d94", func := "kinescope/kinescopelaw06.EdgeDoes", spec := "edgeDoes", unfollowed := true, recurses := true, apart := false, narrowed := true }
def EdgeDoesUptoSaid : Prop := edgeDoesUptoRow.holds Try.pinned (OpenSpec.upto edgeDoesSpec)

/-- 'kinescopelaw06.EdgeSorts', WHERE WHAT IT READS IS OF BULK AT MOST 1048576: true; the input reads as it did. -/
def edgeSortsUptoRow : OpenClaim := { program := "ytfdajignnnhnmaa", sum := "0bd686e5480025550c9a6253945bc8f85bc1f7422db9a09caa2aebf7c83c0d94", func := "kinescope/kinescopelaw06.EdgeSorts", spec := "edgeSorts", unfollowed := true, recurses := true, apart := false, narrowed := true }
def EdgeSortsUptoSaid : Prop := edgeSortsUptoRow.holds Try.pinned (OpenSpec.upto edgeSortsSpec)

/-- 'kinescopelaw06.EdgeOrder', WHERE WHAT IT READS IS OF BULK AT MOST 1048576: true; the input reads as it did. -/
def edgeOrderUptoRow : OpenClaim := { program := "ytfdajignnnhnmaa", sum := "0bd686e5480025550c9a6253945bc8f85bc1f7422db9a09caa2aebf7c83c0d94", func := "kinescope/kinescopelaw06.EdgeOrder", spec := "edgeOrder", unfollowed := true, recurses := true, apart := false, narrowed := true }
def EdgeOrderUptoSaid : Prop := edgeOrderUptoRow.holds Try.pinned (OpenSpec.upto edgeOrderSpec)

/-- 'kinescopelaw06.EdgeEnds', WHERE WHAT IT READS IS OF BULK AT MOST 1048576: true; the input reads as it did. -/
def edgeEndsUptoRow : OpenClaim := { program := "ytfdajignnnhnmaa", sum := "0bd686e5480025550c9a6253945bc8f85bc1f7422db9a09caa2aebf7c83c0d94", func := "kinescope/kinescopelaw06.EdgeEnds", spec := "edgeEnds", unfollowed := true, recurses := true, apart := false, narrowed := true }
def EdgeEndsUptoSaid : Prop := edgeEndsUptoRow.holds Try.pinned (OpenSpec.upto edgeEndsSpec)

end Rows
end Go.Proofs.Ytfdajignnnhnmaa
