/- edges that wait: the plain state -/
import Derived.Test.YthhmmjpgefinmaaSortUq
namespace Go.Proofs.Ythhmmjpgefinmaa
set_option linter.unusedVariables false
set_option linter.unusedSimpArgs false
open Go.RowKit Go.Shelf

/-- strictly in order -/
def OStr (s : List Out) : Prop := s.Pairwise (fun a b => kcmp (okey a) (okey b) < 0)
theorem OStr.srt {s : List Out} (h : OStr s) : OSrt s := List.Pairwise.imp (fun h => Int.le_of_lt h) h
def otm (o : Out) : Int := o.2.2.2.1
/-- those of a time -/
def gr (t : Int) (s : List Out) : List Out := s.filter (fun o => decide (otm o = t))
/-- is one like it there? -/
def hasO (k : EKey) (s : List Out) : Bool := s.any (isO k)
/-- one more is laid into its place -/
def insO (o : Out) : List Out → List Out
  | [] => [o]
  | a :: s => if kcmp (okey o) (okey a) < 0 then o :: a :: s else a :: insO o s
theorem insO_mem {o x : Out} : ∀ {s : List Out}, x ∈ insO o s ↔ x = o ∨ x ∈ s
  | [] => by simp [insO]
  | a :: s => by
    unfold insO
    split
    · simp
    · simp only [List.mem_cons, insO_mem (s := s)]
      constructor
      · rintro (h | h | h)
        · exact .inr (.inl h)
        · exact .inl h
        · exact .inr (.inr h)
      · rintro (h | h | h)
        · exact .inr (.inl h)
        · exact .inl h
        · exact .inr (.inr h)
theorem insO_len {o : Out} : ∀ (s : List Out), (insO o s).length = s.length + 1
  | [] => rfl
  | a :: s => by
    unfold insO
    split
    · rfl
    · simp [insO_len s]
theorem key_lt {a b c : EKey} (h : kcmp a b < 0) (k : kcmp b c < 0) : kcmp a c < 0 := by
  have := good_key.tr a b c (Int.le_of_lt h) (Int.le_of_lt k)
  omega
theorem insO_head {o : Out} : ∀ {s : List Out}, (∀ x ∈ s, kcmp (okey o) (okey x) < 0) → insO o s = o :: s
  | [], _ => rfl
  | a :: s, h => by rw [insO, if_pos (h a (List.mem_cons_self ..))]
theorem insO_str {o : Out} : ∀ {s : List Out}, OStr s → hasO (okey o) s = false → OStr (insO o s)
  | [], _, _ => List.pairwise_singleton _ _
  | a :: s, h, hn => by
    have h2 := List.pairwise_cons.1 h
    have hn2 : isO (okey o) a = false ∧ hasO (okey o) s = false := by
      have : (isO (okey o) a || hasO (okey o) s) = false := hn
      simpa using this
    unfold insO
    split
    · rename_i hlt
      exact List.pairwise_cons.2 ⟨fun x hx => by
        rcases List.mem_cons.1 hx with e | e
        · rw [e]; exact hlt
        · exact key_lt hlt (h2.1 x e), h⟩
    · rename_i hlt
      refine List.pairwise_cons.2 ⟨fun x hx => ?_, insO_str h2.2 hn2.2⟩
      rcases insO_mem.1 hx with e | e
      · rw [e]
        have h3 := good_key.anti (okey o) (okey a)
        have h4 : kcmp (okey a) (okey o) ≠ 0 := by
          have := hn2.1
          unfold isO at this
          simpa using this
        omega
      · exact h2.1 x e
/-- those that are so, behind the laying in -/
theorem insO_filter {o : Out} (p : Out → Bool) : ∀ {s : List Out}, OStr s → (insO o s).filter p = if p o = true then insO o (s.filter p) else s.filter p
  | [], _ => by
    by_cases hp : p o = true
    · simp [insO, hp]
    · simp [insO, hp]
  | a :: s, h => by
    have h2 := List.pairwise_cons.1 h
    have ih := insO_filter (o := o) p h2.2
    by_cases hlt : kcmp (okey o) (okey a) < 0
    · rw [insO, if_pos hlt]
      have hall : ∀ x ∈ (a :: s).filter p, kcmp (okey o) (okey x) < 0 := fun x hx => by
        have hx := (List.mem_filter.1 hx).1
        rcases List.mem_cons.1 hx with e | e
        · rw [e]; exact hlt
        · exact key_lt hlt (h2.1 x e)
      by_cases hp : p o = true
      · rw [if_pos hp, insO_head hall, List.filter_cons, if_pos hp]
      · rw [if_neg hp, List.filter_cons, if_neg hp]
    · rw [insO, if_neg hlt]
      by_cases hp : p o = true
      · rw [if_pos hp] at ih ⊢
        by_cases ha : p a = true
        · rw [List.filter_cons, if_pos ha, ih, List.filter_cons, if_pos ha, insO, if_neg hlt]
        · rw [List.filter_cons, if_neg ha, ih, List.filter_cons, if_neg ha]
      · rw [if_neg hp] at ih ⊢
        by_cases ha : p a = true
        · rw [List.filter_cons, if_pos ha, ih, List.filter_cons, if_pos ha]
        · rw [List.filter_cons, if_neg ha, ih, List.filter_cons, if_neg ha]
/-- .. by its place -/
theorem insO_at {o : Out} : ∀ {s : List Out} {k : Nat}, k ≤ s.length → (∀ j a, j < k → s[j]? = some a → ¬ kcmp (okey o) (okey a) < 0) → (∀ a, s[k]? = some a → kcmp (okey o) (okey a) < 0) → insO o s = s.take k ++ o :: s.drop k
  | [], k, hk, _, _ => by
    have : k = 0 := by simpa using hk
    subst this; rfl
  | a :: s, 0, _, _, h => by rw [insO, if_pos (h a rfl)]; rfl
  | a :: s, k + 1, hk, h1, h2 => by
    rw [insO, if_neg (h1 0 a (by omega) rfl), insO_at (s := s) (k := k) (by simpa using hk) (fun j b hj hb => h1 (j + 1) b (by omega) (by simpa using hb)) (fun b hb => h2 b (by simpa using hb))]
    rfl
/-- those up to a time, so many at most -/
def upS (time : Int) (n : Nat) (s : List Out) : List Out := (s.takeWhile (fun o => decide (otm o ≤ time))).take n
/-- of two that stand in order the first one is not later -/
theorem tm_le {a b : Out} (h : kcmp (okey a) (okey b) < 0) : otm a ≤ otm b := by
  by_cases hle : otm a ≤ otm b
  · exact hle
  · exfalso
    have h1 : Lib.compareInt (okey a).1 (okey b).1 = 1 := by
      show Lib.compareInt (otm a) (otm b) = 1
      unfold Lib.compareInt
      rw [if_neg (by omega), if_pos (by omega)]
    have h2 : kcmp (okey a) (okey b) = Lib.compareInt (okey a).1 (okey b).1 := if_neg (by rw [h1]; omega)
    omega
end Go.Proofs.Ythhmmjpgefinmaa
