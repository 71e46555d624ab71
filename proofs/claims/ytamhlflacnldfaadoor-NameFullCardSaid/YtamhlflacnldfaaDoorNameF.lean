/- the document's Of -/
import Derived.Test.YtamhlflacnldfaaDoorNameD
import Derived.Test.YtamhlflacnldfaaDoorNameE
namespace Go.Proofs.YtamhlflacnldfaaDoor
set_option linter.unusedVariables false
set_option linter.unusedSimpArgs false
open Go.RowKit Go.Shelf Go.Maps
attribute [local go_sem] Oper.semAt_some


theorem nums_get {L ss : List ByteArray} {k : Nat} {s : ByteArray} (hs : ss[k]? = some s) : nums L (ss.take (k + 1)) = nums L (ss.take k) ++ [num (L ++ fresh L (ss.take (k + 1))) s] := by
  have : ss.take (k + 1) = ss.take k ++ [s] := by rw [List.take_add_one, hs]; rfl
  rw [this]; exact nums_snoc _ _ _
theorem fresh_old {L ss : List ByteArray} {k : Nat} {s : ByteArray} (hs : ss[k]? = some s) (h : inL s (L ++ fresh L (ss.take k)) = true) : fresh L (ss.take (k + 1)) = fresh L (ss.take k) := by
  have : ss.take (k + 1) = ss.take k ++ [s] := by rw [List.take_add_one, hs]; rfl
  rw [this, fresh_snoc, if_pos h, List.append_nil]
theorem fresh_new {L ss : List ByteArray} {k : Nat} {s : ByteArray} (hs : ss[k]? = some s) (h : inL s (L ++ fresh L (ss.take k)) = false) : fresh L (ss.take (k + 1)) = fresh L (ss.take k) ++ [s] := by
  have : ss.take (k + 1) = ss.take k ++ [s] := by rw [List.take_add_one, hs]; rfl
  rw [this, fresh_snoc, if_neg (by rw [h]; decide)]
theorem num_end {L : List ByteArray} {s : ByteArray} (h : inL s L = false) : num (L ++ [s]) s = L.length := by
  refine num_at (by simp) (fun j hj e => ?_)
  rw [List.getElem?_append_left hj] at e
  have := inL_iff.2 (List.mem_of_getElem? e)
  rw [h] at this; cases this
theorem ints_snoc (l : List Int) (x : Int) : ints (l ++ [x]) = ints l ++ [.int .i64 x] := by simp [ints]
theorem info3' : (Tryd.prog.info? 3).map (fun i => (i.zero, i.size, i.bytes)) = some (some (.int .i64 0), 1, 8) := by kernel_rfl

end Go.Proofs.YtamhlflacnldfaaDoor
