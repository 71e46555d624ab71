/-
  No cell of these rows narrows 'for every input' (looked for: loops, veiled, ifaces, maps, wideKeys, modest, calm, conditions, laid).
  DERIVED. THE GIVEN ROWS OF THIS SEAT. 3 by the template 'for every input the law returns true; each argument reads behind the call as it read before'; 0 by the template 'total and deterministic' (their statements: YtamhlflacnldfaaTotals.lean).
  GIVEN WITH THE SEED: the statements are not yours to turn. If you find one false, say at which input.
  Laid BY PROGRAM, IN A SANDBOX (cutbox-rows.mjs): the forced cells as the released guide's own fill.sh prints them over the translation 66fea0b5d61adea2… (all of the seat's roots in one cut). By AI agents, Wed Nov 11 2026. No macro, syntax, notation, axiom, sorry.
-/
import Derived.Test.YtamhlflacnldfaaChecked
import GoSem.Claim
import GoSem.ClaimJoined
import GoSem.ClaimMapViews
import Derived.JoinedTies
import Derived.KernelRfl
namespace Go.Proofs.Ytamhlflacnldfaa
/- THE CELL 'sum', in the pinned program and in every row, IS THE sha256 OF THE DUMP (.gsa) THAT YtamhlflacnldfaaProg.lean LOADS. Nothing in Lean hashes anything: it is a label: what it is worth is what the hold of that sum in a sandbox is worth. -/
noncomputable def Try.pinned : Pinned := { name := "ytamhlflacnldfaa", sum := "66fea0b5d61adea201599882997f2b15fe70c3dc50005adf887855c8a30bbf31", checked := Try.checked }
namespace Rows
def none {H : Type} : Left H := { results := [], args := [] }

/-- 'kinescopelaw02.NameSays': WHATEVER THE INPUT: true; the input reads as it did. -/
def nameSaysSpec : ChangeSpec := { name := "nameSays", fn := fun _ => fun
  | [d] => { results := [.lit (.bool true)], args := [d] }
  | _ => none }
def nameSaysRow : OpenClaim := { program := "ytamhlflacnldfaa", sum := "66fea0b5d61adea201599882997f2b15fe70c3dc50005adf887855c8a30bbf31", func := "kinescope/kinescopelaw02.NameSays", spec := "nameSays", unfollowed := true, recurses := true, apart := false }
def NameSaysSaid : Prop := nameSaysRow.holds Try.pinned (OpenSpec.ofChange nameSaysSpec)

/-- ITS FALSE NEIGHBOUR: 'it returns false'. Refute it at one input. -/
def nameSaysWrong : ChangeSpec := { name := "nameSays", fn := fun _ => fun
  | [d] => { results := [.lit (.bool false)], args := [d] }
  | _ => none }
def NameSaysWrongFalsely : Prop := nameSaysRow.holds Try.pinned (OpenSpec.ofChange nameSaysWrong)

/-- 'kinescopelaw02.NameBooks': WHATEVER THE INPUT: true; the input reads as it did. -/
def nameBooksSpec : ChangeSpec := { name := "nameBooks", fn := fun _ => fun
  | [d1, d2, d3] => { results := [.lit (.bool true)], args := [d1, d2, d3] }
  | _ => none }
def nameBooksRow : OpenClaim := { program := "ytamhlflacnldfaa", sum := "66fea0b5d61adea201599882997f2b15fe70c3dc50005adf887855c8a30bbf31", func := "kinescope/kinescopelaw02.NameBooks", spec := "nameBooks", unfollowed := true, recurses := true, apart := false }
def NameBooksSaid : Prop := nameBooksRow.holds Try.pinned (OpenSpec.ofChange nameBooksSpec)

/-- ITS FALSE NEIGHBOUR: 'it returns false'. Refute it at one input. -/
def nameBooksWrong : ChangeSpec := { name := "nameBooks", fn := fun _ => fun
  | [d1, d2, d3] => { results := [.lit (.bool false)], args := [d1, d2, d3] }
  | _ => none }
def NameBooksWrongFalsely : Prop := nameBooksRow.holds Try.pinned (OpenSpec.ofChange nameBooksWrong)

/-- 'kinescopelaw02.NameOne': WHATEVER THE INPUT: true; the input reads as it did. -/
def nameOneSpec : ChangeSpec := { name := "nameOne", fn := fun _ => fun
  | [d] => { results := [.lit (.bool true)], args := [d] }
  | _ => none }
def nameOneRow : OpenClaim := { program := "ytamhlflacnldfaa", sum := "66fea0b5d61adea201599882997f2b15fe70c3dc50005adf887855c8a30bbf31", func := "kinescope/kinescopelaw02.NameOne", spec := "nameOne", unfollowed := true, recurses := true, apart := false }
def NameOneSaid : Prop := nameOneRow.holds Try.pinned (OpenSpec.ofChange nameOneSpec)

/-- ITS FALSE NEIGHBOUR: 'it returns false'. Refute it at one input. -/
def nameOneWrong : ChangeSpec := { name := "nameOne", fn := fun _ => fun
  | [d] => { results := [.lit (.bool false)], args := [d] }
  | _ => none }
def NameOneWrongFalsely : Prop := nameOneRow.holds Try.pinned (OpenSpec.ofChange nameOneWrong)

/- THE SECOND FORM. 'bulk': how many values and letters a reading holds, each counted each time it is reached (what is shared counts as often as it is met; a slice's spare places count too). A statement '..UptoSaid' is the law's where the arguments, and the package variables that the reading takes, are together of bulk at most 1048576: NARROWER than '..Said'. Prove '..Said' where nothing that the law and all that it calls make is longer than what came in: it says more and counts as full. Else prove '..UptoSaid'. A law counts once. -/
mutual
def uptoBulk {H : Type} : DataW H → Nat
  | .lit (.string bytes) => bytes.length + 1
  | .lit _ => 1
  | .nil => 1
  | .ptr d => uptoBulk d + 1
  | .slice elems spare => uptoBulkAll elems + uptoBulkAll spare + 1
  | .agg parts => uptoBulkAll parts + 1
  | .iface _ d => uptoBulk d + 1
  | .map entries => uptoBulkEntries entries + 1
  | .held _ => 1
def uptoBulkAll {H : Type} : List (DataW H) → Nat
  | [] => 0
  | d :: r => uptoBulk d + uptoBulkAll r
def uptoBulkEntries {H : Type} : List (Lit × DataW H) → Nat
  | [] => 0
  | x :: r => uptoBulkEntry x + uptoBulkEntries r
def uptoBulkEntry {H : Type} : Lit × DataW H → Nat
  | (.string bytes, d) => bytes.length + uptoBulk d + 1
  | (_, d) => uptoBulk d + 1
 end
def uptoSmall : (H : Type) → List (DataW H) → Bool := fun _ ds => decide (uptoBulkAll ds ≤ 1048576)
def OpenSpec.upto (s : _root_.Go.ChangeSpec) : _root_.Go.OpenSpec := { _root_.Go.OpenSpec.ofChange s with cond := some uptoSmall }

/-- 'kinescopelaw02.NameSays', WHERE WHAT IT READS IS OF BULK AT MOST 1048576: true; the input reads as it did. -/
def nameSaysUptoRow : OpenClaim := { program := "ytamhlflacnldfaa", sum := "66fea0b5d61adea201599882997f2b15fe70c3dc50005adf887855c8a30bbf31", func := "kinescope/kinescopelaw02.NameSays", spec := "nameSays", unfollowed := true, recurses := true, apart := false, narrowed := true }
def NameSaysUptoSaid : Prop := nameSaysUptoRow.holds Try.pinned (OpenSpec.upto nameSaysSpec)

/-- 'kinescopelaw02.NameBooks', WHERE WHAT IT READS IS OF BULK AT MOST 1048576: true; the input reads as it did. -/
def nameBooksUptoRow : OpenClaim := { program := "ytamhlflacnldfaa", sum := "66fea0b5d61adea201599882997f2b15fe70c3dc50005adf887855c8a30bbf31", func := "kinescope/kinescopelaw02.NameBooks", spec := "nameBooks", unfollowed := true, recurses := true, apart := false, narrowed := true }
def NameBooksUptoSaid : Prop := nameBooksUptoRow.holds Try.pinned (OpenSpec.upto nameBooksSpec)

/-- 'kinescopelaw02.NameOne', WHERE WHAT IT READS IS OF BULK AT MOST 1048576: true; the input reads as it did. -/
def nameOneUptoRow : OpenClaim := { program := "ytamhlflacnldfaa", sum := "66fea0b5d61adea201599882997f2b15fe70c3dc50005adf887855c8a30bbf31", func := "kinescope/kinescopelaw02.NameOne", spec := "nameOne", unfollowed := true, recurses := true, apart := false, narrowed := true }
def NameOneUptoSaid : Prop := nameOneUptoRow.holds Try.pinned (OpenSpec.upto nameOneSpec)

end Rows
end Go.Proofs.Ytamhlflacnldfaa
