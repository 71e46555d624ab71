/- laid together: EdgeX EdgeY -/
import Derived.Test.YthhmmjpgefinmaaEdgeQ
import Derived.Test.YthhmmjpgefinmaaEdgeT
set_option maxRecDepth 10000
/- props that are lent, and kept -/
namespace Go.Proofs.Ythhmmjpgefinmaa
set_option linter.unusedVariables false
set_option linter.unusedSimpArgs false
open Go.RowKit Go.Shelf
attribute [local go_sem] Oper.semAt_some

def mk (k i : Int) : Int := 1000003 * (k + 7) + i
def mprop (k i : Int) : Prp := (⟨#[109]⟩, 0, mk k i, ⟨#[]⟩)
def marksP (k : Int) (n : Nat) : List Prp := (List.range n).map fun i => mprop k ((i : Nat) : Int)
theorem marksP_succ (k : Int) (n : Nat) : marksP k (n + 1) = marksP k n ++ [mprop k (n : Int)] := by simp [marksP, List.range_succ]
theorem marksP_len (k : Int) (n : Nat) : (marksP k n).length = n := by simp [marksP]
theorem marksP_get (k : Int) (n i : Nat) (h : i < n) : (marksP k n)[i]? = some (mprop k (i : Int)) := by simp [marksP, h]
theorem eq_prop (x0 : ByteArray) (x1 x2 : Int) (x3 : ByteArray) (w : World) : (binOp BinOp.eql 105 (.agg #[.string x0, .int .i64 x1, .int .i64 x2, .string x3]) (.agg #[.string x0, .int .i64 x1, .int .i64 x2, .string x3])).run Try.prog w = .ok (.bool true) w := by
  rw [run_eql_struct]
  simp [go_sem]
end Go.Proofs.Ythhmmjpgefinmaa

/- edges that are lent, and kept -/
namespace Go.Proofs.Ythhmmjpgefinmaa
set_option linter.unusedVariables false
set_option linter.unusedSimpArgs false
open Go.RowKit Go.Shelf
attribute [local go_sem] Oper.semAt_some

/-- an edge with its props in another slice -/
def lentE (E : Edg) (u : Value) : Edg := ⟨E.f, E.t, E.l, E.tm, u, E.ps⟩
/-- u is lent of the props of E -/
def LentP (W : World) (base : Nat) (u : Value) (E : Edg) : Prop := Lent W base 105 4 u E.ps.length (pcells E.ps ++ pcells (marksP 1 12))
theorem LentP.fr {S : Nat → Prop} {W W' : World} {base : Nat} {u : Value} {E : Edg} (h : LentP W base u E) (hf : Fr S W W') (hs : ∀ g, u.ownBlock = some g → ¬ S g) : LentP W' base u E := Lent.fr h hf hs
theorem LentP.g {W W' : World} {base : Nat} {u : Value} {E : Edg} (h : LentP W base u E) (hg : G W W') : LentP W' base u E := Lent.fr h (hg.fr (fun _ => False)) (fun _ _ h => h)
theorem LentP.at {W : World} {base : Nat} {u : Value} {E : Edg} (h : LentP W base u E) (hE : EdgAt W E) : EdgAt W (lentE E u) :=
  ⟨Lent.rdr h (pcells_len _), hE.n, hE.ps, hE.f, hE.t, hE.l⟩
theorem LentP.slice {W : World} {base : Nat} {u : Value} {E : Edg} (h : LentP W base u E) : ∃ p c, u = .slice p E.ps.length c := by
  obtain ⟨g, c, h, -⟩ := h; exact ⟨_, _, h⟩
theorem out_lent (E : Edg) (u : Value) : outE (lentE E u) = outE E := rfl
end Go.Proofs.Ythhmmjpgefinmaa
