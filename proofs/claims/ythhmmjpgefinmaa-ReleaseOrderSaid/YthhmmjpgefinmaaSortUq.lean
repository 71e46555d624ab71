/- laid together: SortUq -/
import Derived.Test.YthhmmjpgefinmaaSortM
/- a row in order, with those that are alike as they were, is the only one -/
namespace Go.Proofs.Ythhmmjpgefinmaa
set_option linter.unusedVariables false
set_option linter.unusedSimpArgs false
open Go.RowKit Go.Shelf

def okey (o : Out) : EKey := (o.2.2.2.1, o.1, o.2.1, o.2.2.1)
def isO (k : EKey) (o : Out) : Bool := decide (kcmp (okey o) k = 0)
theorem isO_self (o : Out) : isO (okey o) o = true := by simp [isO, good_key.self]
theorem isO_eq {k : EKey} {o : Out} (h : isO k o = true) : okey o = k := by
  unfold isO at h; exact (good_key.eq _ _).1 (of_decide_eq_true h)
theorem isK_out (k : EKey) (E : Edg) : isO k (outE E) = isK k E := rfl
theorem filter_out (k : EKey) (L : List Edg) : (L.map outE).filter (isO k) = (L.filter (isK k)).map outE := by
  rw [List.filter_map]; rfl
/-- in order -/
def OSrt (l : List Out) : Prop := l.Pairwise (fun a b => kcmp (okey a) (okey b) ≤ 0)
theorem osrt_of {n : Nat} {L : List Edg} (hn : L.length = n) (h : Srt 0 n L) : OSrt (L.map outE) := by
  unfold OSrt
  rw [List.pairwise_map, List.pairwise_iff_getElem]
  intro i j hi hj hij
  have h2 := h i j (Nat.zero_le _) hij (by omega)
  unfold eLe at h2
  rw [ecmp_key, eat_of (List.getElem?_eq_getElem hi), eat_of (List.getElem?_eq_getElem hj)] at h2
  exact h2
theorem mem_of_filt {A B : List Out} (h : ∀ k, A.filter (isO k) = B.filter (isO k)) {x : Out} (hx : x ∈ A) : x ∈ B := by
  have : x ∈ A.filter (isO (okey x)) := List.mem_filter.2 ⟨hx, isO_self x⟩
  rw [h] at this
  exact (List.mem_filter.1 this).1
theorem osrt_uniq : ∀ (A B : List Out), OSrt A → OSrt B → (∀ k, A.filter (isO k) = B.filter (isO k)) → A = B
  | [], B, _, _, h => by
    cases B with
    | nil => rfl
    | cons b B => exact absurd (mem_of_filt (fun k => (h k).symm) (List.mem_cons_self ..)) (by simp)
  | a :: A, [], _, _, h => absurd (mem_of_filt h (List.mem_cons_self ..)) (by simp)
  | a :: A, b :: B, hA, hB, h => by
    have hA' := List.pairwise_cons.1 hA
    have hB' := List.pairwise_cons.1 hB
    have h1 : kcmp (okey a) (okey b) ≤ 0 := by
      have : b ∈ a :: A := mem_of_filt (fun k => (h k).symm) (List.mem_cons_self ..)
      rcases List.mem_cons.1 this with e | e
      · rw [e, good_key.self]; omega
      · exact hA'.1 b e
    have h2 : kcmp (okey b) (okey a) ≤ 0 := by
      have : a ∈ b :: B := mem_of_filt h (List.mem_cons_self ..)
      rcases List.mem_cons.1 this with e | e
      · rw [e, good_key.self]; omega
      · exact hB'.1 a e
    have h3 : okey a = okey b := by
      have := good_key.anti (okey a) (okey b)
      exact (good_key.eq _ _).1 (by omega)
    have hf := h (okey a)
    simp only [List.filter_cons, isO_self, if_true] at hf
    have hb : isO (okey a) b = true := by rw [h3]; exact isO_self b
    rw [if_pos hb] at hf
    have hab : a = b := (List.cons.inj hf).1
    subst hab
    congr 1
    refine osrt_uniq A B hA'.2 hB'.2 (fun k => ?_)
    have := h k
    simp only [List.filter_cons] at this
    split at this
    · exact (List.cons.inj this).2
    · exact this
/-- one more is laid into its place -/
theorem ins_srt {R : List Edg} {k : Nat} {E : Edg} (hk : k ≤ R.length) (hs : Srt 0 R.length R) (h1 : ∀ q, k ≤ q → q < R.length → eLt E (eat R q)) (h2 : k = 0 ∨ ¬ eLt E (eat R (k - 1))) : Srt 0 (R.length + 1) (R.take k ++ E :: R.drop k) := by
  have hl : (R.take k).length = k := by rw [List.length_take]; omega
  have hat : ∀ q, q < R.length + 1 → eat (R.take k ++ E :: R.drop k) q = if q < k then eat R q else if q = k then E else eat R (q - 1) := by
    intro q hq
    apply eat_of
    by_cases c1 : q < k
    · rw [if_pos c1, List.getElem?_append_left (by omega), List.getElem?_take, if_pos c1, eat_get (by omega)]
    · rw [if_neg c1, List.getElem?_append_right (by omega), hl]
      by_cases c2 : q = k
      · subst c2; rw [if_pos rfl, Nat.sub_self]; rfl
      · rw [if_neg c2, show q - k = (q - 1 - k) + 1 by omega, List.getElem?_cons_succ, List.getElem?_drop, show k + (q - 1 - k) = q - 1 by omega, eat_get (by omega)]
  intro p q h3 h4 h5
  rw [hat p (by omega), hat q h5]
  by_cases c1 : q < k
  · rw [if_pos (by omega), if_pos c1]; exact hs p q h3 h4 (by omega)
  · rw [if_neg c1]
    by_cases c2 : q = k
    · rw [if_pos c2, if_pos (by omega)]
      rcases h2 with h2 | h2
      · omega
      · exact eLe_trans (hs.le (by omega) (show p ≤ k - 1 by omega) (by omega)) (not_lt h2)
    · rw [if_neg c2]
      by_cases c3 : p < k
      · rw [if_pos c3]; exact hs.le (by omega) (by omega) (by omega)
      · rw [if_neg c3]
        by_cases c4 : p = k
        · rw [if_pos c4]; exact eLt_eLe (h1 (q - 1) (by omega) (by omega))
        · rw [if_neg c4]; exact hs.le (by omega) (by omega) (by omega)
theorem ins_filt {R : List Edg} {k : Nat} {E : Edg} (h1 : ∀ q, k ≤ q → q < R.length → eLt E (eat R q)) (x : EKey) : (R.take k ++ E :: R.drop k).filter (isK x) = R.filter (isK x) ++ [E].filter (isK x) := by
  have e : R.filter (isK x) = (R.take k).filter (isK x) ++ (R.drop k).filter (isK x) := by rw [← List.filter_append, List.take_append_drop]
  rw [e, List.filter_append, List.filter_cons]
  by_cases hE : isK x E = true
  · have hd : (R.drop k).filter (isK x) = [] := by
      rw [List.filter_eq_nil_iff]
      intro F hF hF2
      obtain ⟨j, hj, he⟩ := List.getElem_of_mem hF
      rw [List.length_drop] at hj
      rw [List.getElem_drop] at he
      have := h1 (k + j) (by omega) (by omega)
      rw [eat_of (List.getElem?_eq_getElem (by omega)), he] at this
      exact eLt_key this ((isK_eq hE).trans (isK_eq hF2).symm)
    rw [if_pos hE, hd]; simp [hE]
  · rw [if_neg hE]; simp [hE]
end Go.Proofs.Ythhmmjpgefinmaa
