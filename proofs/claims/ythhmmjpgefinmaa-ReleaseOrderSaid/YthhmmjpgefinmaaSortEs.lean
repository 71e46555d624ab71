/- laid together: SortEs -/
import Derived.Test.YthhmmjpgefinmaaSortM
set_option maxRecDepth 10000
/- rows of edges: are two the same?; an edge that is a mark -/
namespace Go.Proofs.Ythhmmjpgefinmaa
set_option linter.unusedVariables false
set_option linter.unusedSimpArgs false
open Go.RowKit Go.Shelf
attribute [local go_sem] Oper.semAt_some

/-- are two rows the same, edge by edge? -/
def sameL : List Edg → List Edg → Bool
  | [], [] => true
  | [], _ :: _ => false
  | _ :: _, [] => false
  | a :: l, b :: m => sameE a b && sameL l m
theorem sameE_iff {A B : Edg} : sameE A B = true ↔ outE A = outE B := by
  simp only [sameE, outE, Bool.and_eq_true, decide_eq_true_eq, Prod.mk.injEq, and_assoc]
theorem sameL_out : ∀ {l m : List Edg}, sameL l m = true ↔ l.map outE = m.map outE
  | [], [] => by simp [sameL]
  | [], _ :: _ => by simp [sameL]
  | _ :: _, [] => by simp [sameL]
  | a :: l, b :: m => by
    simp only [sameL, Bool.and_eq_true, List.map_cons, List.cons.injEq, sameL_out, sameE_iff]
theorem sameL_len {l m : List Edg} (h : l.length ≠ m.length) : sameL l m = false := by
  cases hs : sameL l m
  · rfl
  · exact absurd (by have := congrArg List.length (sameL_out.1 hs); simpa using this) h
theorem sameL_drop {l m : List Edg} {k : Nat} {a b : Edg} (ha : l[k]? = some a) (hb : m[k]? = some b) : sameL (l.drop k) (m.drop k) = (sameE a b && sameL (l.drop (k + 1)) (m.drop (k + 1))) := by
  obtain ⟨h1, h2⟩ := List.getElem?_eq_some_iff.1 ha
  obtain ⟨h3, h4⟩ := List.getElem?_eq_some_iff.1 hb
  rw [List.drop_eq_getElem_cons h1, List.drop_eq_getElem_cons h3, h2, h4, sameL]
end Go.Proofs.Ythhmmjpgefinmaa
