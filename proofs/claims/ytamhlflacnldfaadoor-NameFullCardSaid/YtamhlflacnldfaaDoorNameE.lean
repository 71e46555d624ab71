/- the document's book -/
import Derived.Test.YtamhlflacnldfaaDoorNameD
namespace Go.Proofs.YtamhlflacnldfaaDoor
set_option linter.unusedVariables false
set_option linter.unusedSimpArgs false
open Go.RowKit Go.Shelf Go.Maps

/-! ### plain facts -/
theorem if_same {a b : Bool} (h : a = b) (x y : List ByteArray) : (if a = true then x else y) = (if b = true then x else y) := by subst h; rfl
theorem num_at {L : List ByteArray} {s : ByteArray} {k : Nat} (hk : L[k]? = some s) (hn : ∀ j, j < k → L[j]? ≠ some s) : num L s = k := by
  have h := sidx_at hk hn
  have hm : inL s L = true := inL_iff.2 (List.mem_of_getElem? hk)
  rw [sidx, if_pos hm] at h
  rw [num, if_pos hm, h]
theorem inL_no {L : List ByteArray} {s : ByteArray} (hn : ∀ j, j < L.length → L[j]? ≠ some s) : inL s L = false := by
  cases h : inL s L
  · rfl
  · obtain ⟨j, hj, e⟩ := List.mem_iff_getElem.1 (inL_iff.1 h)
    exact absurd (by rw [List.getElem?_eq_getElem hj, e]) (hn j hj)
theorem num_no {L : List ByteArray} {s : ByteArray} (h : inL s L = false) : num L s = 0 := by simp [num, h]
theorem fr_snoc (L : List ByteArray) : ∀ (pre ss : List ByteArray) (s : ByteArray), fr L pre (ss ++ [s]) = fr L pre ss ++ (if (inL s L || inL s pre || inL s (fr L pre ss)) = true then [] else [s])
  | pre, [], s => by
    show (if (inL s L || inL s pre) = true then fr L pre [] else s :: fr L (pre ++ [s]) []) = [] ++ (if (inL s L || inL s pre || inL s []) = true then [] else [s])
    rw [List.nil_append]
    refine if_same ?_ _ _
    simp [inL]
  | pre, x :: ss, s => by
    show fr L pre (x :: (ss ++ [s])) = _
    rw [fr]
    by_cases h : (inL x L || inL x pre) = true
    · rw [if_pos h, fr_snoc L pre ss s]
      have e : fr L pre (x :: ss) = fr L pre ss := by rw [fr, if_pos h]
      rw [e]
    · rw [if_neg h, fr_snoc L (pre ++ [x]) ss s]
      have e : fr L pre (x :: ss) = x :: fr L (pre ++ [x]) ss := by rw [fr, if_neg h]
      rw [e, List.cons_append]
      congr 2
      have e2 : inL s (x :: fr L (pre ++ [x]) ss) = (decide (x = s) || inL s (fr L (pre ++ [x]) ss)) := by simp [inL]
      rw [inL_append, e2]
      simp only [Bool.or_assoc]
theorem fresh_snoc (L ss : List ByteArray) (s : ByteArray) : fresh L (ss ++ [s]) = fresh L ss ++ (if inL s (L ++ fresh L ss) = true then [] else [s]) := by
  unfold fresh
  rw [fr_snoc]
  congr 1
  refine if_same ?_ _ _
  simp [inL]
theorem fr_len (L : List ByteArray) : ∀ (pre ss : List ByteArray), (fr L pre ss).length ≤ ss.length
  | pre, [] => by simp [fr]
  | pre, x :: ss => by
    rw [fr]
    split
    · have := fr_len L pre ss; simp; omega
    · have := fr_len L (pre ++ [x]) ss; simp; omega
theorem fresh_len (L ss : List ByteArray) : (fresh L ss).length ≤ ss.length := fr_len L [] ss
/-- numbers stay -/
theorem num_more {L M : List ByteArray} {s : ByteArray} (h : inL s L = true) : num (L ++ M) s = num L s := by
  have e : inL s (L ++ M) = true := by simp [inL] at h ⊢; exact .inl h
  rw [num, num, if_pos h, if_pos e, List.findIdx_append, if_pos]
  obtain ⟨j, hj, e⟩ := List.mem_iff_getElem.1 (inL_iff.1 h)
  exact List.findIdx_lt_length_of_exists ⟨s, by rw [← e]; exact List.getElem_mem _, by simp⟩
theorem fresh_all {L ss : List ByteArray} {s : ByteArray} (h : s ∈ ss) : inL s (L ++ fresh L ss) = true := by
  obtain ⟨a, b, rfl⟩ := List.append_of_mem h
  have key : ∀ (c : List ByteArray) (ts : List ByteArray), inL s (L ++ fresh L c) = true → inL s (L ++ fresh L (c ++ ts)) = true := by
    intro c ts
    induction ts generalizing c with
    | nil => simp
    | cons t ts ih =>
      intro hc
      have : inL s (L ++ fresh L (c ++ [t])) = true := by
        rw [fresh_snoc, ← List.append_assoc]
        simp only [inL, List.any_append, Bool.or_eq_true] at hc ⊢
        exact .inl hc
      have := ih (c ++ [t]) this
      rwa [List.append_assoc] at this
  have h1 : inL s (L ++ fresh L (a ++ [s])) = true := by
    rw [fresh_snoc]
    by_cases hc : inL s (L ++ fresh L a) = true
    · rw [if_pos hc, List.append_nil]; exact hc
    · rw [if_neg hc]; simp [inL]
  have := key (a ++ [s]) b h1
  rwa [List.append_assoc] at this
/-- the numbers, one more -/
def nums (L ss : List ByteArray) : List Int := ss.map (num (L ++ fresh L ss))
theorem nums_snoc (L ss : List ByteArray) (s : ByteArray) : nums L (ss ++ [s]) = nums L ss ++ [num (L ++ fresh L (ss ++ [s])) s] := by
  unfold nums
  rw [List.map_append]
  congr 1
  refine List.map_congr_left (fun x hx => ?_)
  rw [fresh_snoc, ← List.append_assoc]
  exact num_more (fresh_all hx)

/-! ### the walks -/
end Go.Proofs.YtamhlflacnldfaaDoor
