/- plain facts on closes -/
import Derived.Test.YtjpcenhhfiialaaClockA
namespace Go.Proofs.Ytjpcenhhfiialaa
set_option linter.unusedVariables false
/-- the closes: all of them -/
def closeAt (a s : Int) (i : Nat) : Int := past a s * s + (i + 1) * s
def closesL (a b s : Int) : List Int :=
  if (mk a && mk b && wn s) = true then (List.range (countN a b s).toNat).map (closeAt a s) else []
theorem past_mul {w s : Int} (h1 : 1 ≤ s) : past w s * s ≤ max w 0 := Int.ediv_mul_le _ (by omega)
theorem past_mul_lt {w s : Int} (h1 : 1 ≤ s) : max w 0 < past w s * s + s := by
  have := Int.lt_ediv_add_one_mul_self (max w 0) (show 0 < s by omega)
  unfold past; rw [Int.add_mul] at this; omega
theorem closeAt_eq (a s : Int) (i : Nat) : closeAt a s i = (past a s + (i + 1)) * s := by unfold closeAt; rw [Int.add_mul (past a s)]
theorem closeAt_le {a b s : Int} {i : Nat} (h1 : 1 ≤ s) (hi : (i : Int) < countN a b s) : closeAt a s i ≤ max b 0 := by
  have h : past a s + (i + 1) ≤ past b s := by unfold countN at hi; omega
  rw [closeAt_eq]
  exact Int.le_trans (Int.mul_le_mul_of_nonneg_right h (by omega)) (past_mul h1)
theorem closeAt_lo {a s : Int} {i : Nat} (h1 : 1 ≤ s) (hp : 0 ≤ past a s) : s ≤ closeAt a s i := by
  rw [closeAt_eq]
  have := Int.mul_le_mul_of_nonneg_right (show (1 : Int) ≤ past a s + (i + 1) by omega) (show 0 ≤ s by omega)
  omega
theorem closeAt_succ (a s : Int) (i : Nat) : closeAt a s (i + 1) = closeAt a s i + s := by
  unfold closeAt; rw [show ((i + 1 : Nat) : Int) + 1 = ((i : Int) + 1) + 1 by omega, Int.add_mul ((i : Int) + 1) 1 s]; omega
theorem range_map_succ {α : Type} (f : Nat → α) (k : Nat) : (List.range (k + 1)).map f = (List.range k).map f ++ [f k] := by simp [List.range_succ]
theorem range_map_prefix {α : Type} (f : Nat → α) {k n : Nat} (h : k ≤ n) : (List.range k).map f <+: (List.range n).map f := by
  obtain ⟨m, rfl⟩ : ∃ m, n = k + m := ⟨n - k, by omega⟩
  rw [List.range_add, List.map_append]; exact List.prefix_append _ _
end Go.Proofs.Ytjpcenhhfiialaa
