/- all of a book -/
import Derived.Test.YtamhlflacnldfaaDoorNameD
import Derived.Test.YtamhlflacnldfaaDoorNameE
namespace Go.Proofs.YtamhlflacnldfaaDoor
set_option linter.unusedVariables false
set_option linter.unusedSimpArgs false
open Go.RowKit Go.Shelf Go.Maps
attribute [local go_sem] Oper.semAt_some

theorem zi_take {L : List ByteArray} {k : Nat} {s : ByteArray} (hs : L[k]? = some s) : L.zipIdx.take (k + 1) = L.zipIdx.take k ++ [(s, k)] := by
  rw [List.take_add_one, List.getElem?_zipIdx, hs]; simp
theorem zi_pre {L : List ByteArray} {pre : List (ByteArray × Nat)} (h : pre <+: L.zipIdx) : pre.map Prod.fst = L.take pre.length := by
  rw [List.prefix_iff_eq_take.1 h, List.map_take, List.zipIdx_map_fst]
  simp
theorem zi_last {L : List ByteArray} {pre : List (ByteArray × Nat)} {x : ByteArray × Nat} (h : pre ++ [x] <+: L.zipIdx) : x.2 = pre.length ∧ pre.length < L.length := by
  have hl := h.length_le
  simp at hl
  obtain ⟨t, ht⟩ := h
  have : L.zipIdx[pre.length]? = some x := by rw [← ht]; simp
  rw [List.getElem?_zipIdx] at this
  cases he : L[pre.length]? with
  | none => rw [he] at this; cases this
  | some s => rw [he] at this; simp at this; exact ⟨by rw [← this], by omega⟩

end Go.Proofs.YtamhlflacnldfaaDoor
