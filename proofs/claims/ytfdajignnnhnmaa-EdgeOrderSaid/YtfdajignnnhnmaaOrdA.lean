/- EdgeOrder: the plain part; Pick -/
import Derived.Test.YtfdajignnnhnmaaSortRf
namespace Go.Proofs.Ytfdajignnnhnmaa
set_option linter.unusedVariables false
set_option linter.unusedSimpArgs false
open Go.RowKit Go.Shelf
attribute [local go_sem] Oper.semAt_some

def PickOut (m : Int) (w : World) (e : Ending) (w' : World) : Prop := (∃ r : Nat, (r : Int) < m ∧ e = .returned (.int .i64 r)) ∧ w = w'
theorem pick_any (n m : Int) (w : World) (hm : 1 ≤ m) (hm2 : m ≤ 1000) : Calls Try.prog 35 #[.int .i64 n, .int .i64 m] w (PickOut m w) := by
  have b1 : n.tmod m < m := Int.tmod_lt_of_pos n (by omega)
  have b2 : -m < n.tmod m := by
    have := Int.tmod_lt_of_pos (-n) (show 0 < m by omega)
    rw [Int.neg_tmod] at this
    omega
  have b3 : 0 ≤ n.tmod m + m := by omega
  have b4 : n.tmod m + m ≤ 2000 := by omega
  have h0 : ¬ m < 1 := by omega
  have hmz : ¬ m = 0 := by omega
  by_cases hn : n.tmod m < 0
  · go_enter Try.func35, Try.ntmps35
    go_wp2_with fail
    go_ret
    obtain ⟨r, hr⟩ := Int.eq_ofNat_of_zero_le b3
    exact ⟨⟨r, by omega, by rw [← hr]; rfl⟩, rfl⟩
  · go_enter Try.func35, Try.ntmps35
    go_wp2_with fail
    go_ret
    obtain ⟨r, hr⟩ := Int.eq_ofNat_of_zero_le (show 0 ≤ n.tmod m by omega)
    exact ⟨⟨r, by omega, by rw [← hr]; rfl⟩, rfl⟩
/-- none is like another one -/
def Apart (l : List Edg) : Prop := ∀ p q, p < l.length → q < l.length → p ≠ q → ecmp (eat l p) (eat l q) ≠ 0
theorem take_at {l : List Edg} {k : Nat} {E : Edg} (h : E ∈ l.take k) : ∃ j, j < k ∧ j < l.length ∧ eat l j = E := by
  obtain ⟨j, hj, he⟩ := List.getElem_of_mem h
  rw [List.length_take] at hj
  rw [List.getElem_take] at he
  exact ⟨j, by omega, by omega, eat_of (by rw [List.getElem?_eq_getElem (by omega), he])⟩
theorem drop_at {l : List Edg} {k : Nat} {E : Edg} (h : E ∈ l.drop k) : ∃ j, k ≤ j ∧ j < l.length ∧ eat l j = E := by
  obtain ⟨j, hj, he⟩ := List.getElem_of_mem h
  rw [List.length_drop] at hj
  rw [List.getElem_drop] at he
  exact ⟨k + j, by omega, by omega, eat_of (by rw [List.getElem?_eq_getElem (by omega), he])⟩
theorem turn_filt {l : List Edg} (k : Nat) (h : Apart l) (x : EKey) : (l.drop k ++ l.take k).filter (isK x) = l.filter (isK x) := by
  have e : l.filter (isK x) = (l.take k).filter (isK x) ++ (l.drop k).filter (isK x) := by rw [← List.filter_append, List.take_append_drop]
  rw [e, List.filter_append]
  by_cases h1 : (l.take k).filter (isK x) = []
  · rw [h1]; simp
  · have h2 : (l.drop k).filter (isK x) = [] := by
      rw [List.filter_eq_nil_iff]
      intro F hF hF2
      obtain ⟨E, hE⟩ := List.exists_mem_of_ne_nil _ h1
      obtain ⟨hE1, hE2⟩ := List.mem_filter.1 hE
      obtain ⟨i, i1, i2, rfl⟩ := take_at hE1
      obtain ⟨j, j1, j2, rfl⟩ := drop_at hF
      refine h i j i2 j2 (by omega) ?_
      rw [ecmp_key, isK_eq hE2, isK_eq hF2, good_key.self]
    rw [h2]; simp
theorem turn_len (l : List Edg) (k : Nat) : (l.drop k ++ l.take k).length = l.length := by
  rw [List.length_append, List.length_drop, List.length_take]; omega
theorem turn_mem {l : List Edg} {k : Nat} {E : Edg} (h : E ∈ l.drop k ++ l.take k) : E ∈ l := by
  rcases List.mem_append.1 h with h | h
  · exact List.mem_of_mem_drop h
  · exact List.mem_of_mem_take h
/-- a row, and the row turned, come out the same -/
theorem turn_same {n k : Nat} {l M N A B : List Edg} (hl : l.length = n) (ha : Apart l) (hM : M.map outE = l.map outE) (hs : Stab 0 n M A) (ho : Srt 0 n A) (hA : A.length = n) (hN : N.map outE = (l.drop k ++ l.take k).map outE) (hs2 : Stab 0 n N B) (ho2 : Srt 0 n B) (hB : B.length = n) : A.map outE = B.map outE := by
  refine osrt_uniq _ _ (osrt_of hA ho) (osrt_of hB ho2) (fun x => ?_)
  rw [filter_out, hs.filt, ← filter_out, hM, filter_out, filter_out x B, hs2.filt, ← filter_out x N, hN, filter_out, turn_filt k ha x]
theorem found_at {n : Nat} {l M A : List Edg} (hM : M.map outE = l.map outE) (hs : Stab 0 n M A) {E : Edg} (hE : E ∈ l) : ∃ j, j < A.length ∧ sameE E (eat A j) = true := by
  have h1 : outE E ∈ M.map outE := by rw [hM]; exact List.mem_map_of_mem hE
  obtain ⟨F, hF, he⟩ := List.mem_map.1 h1
  obtain ⟨j, hj, h2⟩ := List.getElem_of_mem (hs.mem.2 hF)
  exact ⟨j, hj, by rw [eat_of (List.getElem?_eq_getElem hj), h2]; exact sameE_iff.2 he.symm⟩
/-- three numbers: how two stand -/
theorem three (A B : Edg) : (ecmp A B = 0 ∧ ecmp B A = 0) ∨ (ecmp A B = -1 ∧ ecmp B A = 1) ∨ (ecmp A B = 1 ∧ ecmp B A = -1) := by
  have h1 := good_key.rng (ekey A) (ekey B)
  have h2 := good_key.anti (ekey A) (ekey B)
  rw [← ecmp_key] at h1 h2
  rw [← ecmp_key] at h2
  omega
theorem srt_step {n : Nat} {A : List Edg} (h : Srt 0 n A) {j : Nat} (hj : j + 1 < n) : ¬ (0 : Int) < ecmp (eat A j) (eat A (j + 1)) := by
  have := h j (j + 1) (Nat.zero_le _) (by omega) hj
  unfold eLe at this
  omega
theorem own_empty (w : World) : (w.alloc (.cells #[] 27)).ownsRow w.heap.size 27 5 (.slice (some ⟨w.heap.size, 0, none⟩) 0 0) 0 [] :=
  World.ownsRow_made w #[] 0 (Nat.le_refl _) (Nat.zero_le _) rfl
end Go.Proofs.Ytfdajignnnhnmaa
