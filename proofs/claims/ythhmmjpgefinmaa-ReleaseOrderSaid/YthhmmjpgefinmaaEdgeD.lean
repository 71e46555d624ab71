/- laid together: EdgeD -/
import Derived.Test.YthhmmjpgefinmaaEdgeC
/- edges: the document's Check -/
namespace Go.Proofs.Ythhmmjpgefinmaa
set_option linter.unusedVariables false
set_option linter.unusedSimpArgs false
open Go.RowKit Go.Shelf
attribute [local go_sem] Oper.semAt_some

theorem leB_empty {x : ByteArray} (h : freeB x = true) : leB x ⟨#[]⟩ = false := by
  simp only [freeB, vertexB, Bool.and_eq_true, decide_eq_true_eq] at h
  have h1 := h.1.1.1.1
  have : x.toList ≠ [] := by
    intro e
    have e2 := ByteArray.toList_eq x
    rw [e] at e2
    have e3 : x.data.toList.length = 0 := by rw [← e2]; rfl
    have : x.size = 0 := by simpa using e3
    omega
  have e4 : (⟨#[]⟩ : ByteArray).toList = [] := by rw [ByteArray.toList_eq]
  rw [leB, e4]
  cases hx : x.toList with
  | nil => exact absurd hx this
  | cons a l => simp [Op.bytesLess]
theorem less_tri : ∀ x y : List UInt8, (Op.bytesLess x y || (x == y)) = !Op.bytesLess y x
  | [], [] => rfl
  | _ :: _, [] => by simp [Op.bytesLess]
  | [], _ :: _ => by simp [Op.bytesLess]
  | a :: x, b :: y => by
    have ih := less_tri x y
    rw [Op.bytesLess, Op.bytesLess]
    rcases Nat.lt_trichotomy a.toNat b.toNat with h | h | h
    · have h1 : a < b := h
      have h2 : ¬ b < a := by intro h'; have : b.toNat < a.toNat := h'; omega
      have h3 : ¬ b = a := by rintro rfl; omega
      simp [h1, h2, h3]
    · have h1 : a = b := UInt8.toNat_inj.1 h
      subst h1
      simp at ih ⊢
      simpa using ih
    · have h1 : b < a := h
      have h2 : ¬ a < b := by intro h'; have : a.toNat < b.toNat := h'; omega
      have h3 : ¬ a = b := by rintro rfl; omega
      simp [h1, h2, h3]
theorem leB_less (x y : ByteArray) : leB x y = !Op.bytesLess y.toList x.toList := less_tri _ _
end Go.Proofs.Ythhmmjpgefinmaa
