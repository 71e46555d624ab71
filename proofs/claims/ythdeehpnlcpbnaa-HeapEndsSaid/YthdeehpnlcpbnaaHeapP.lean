/- heaps, plain -/
import Derived.Test.YthdeehpnlcpbnaaHeapA
namespace Go.Proofs.Ythdeehpnlcpbnaa
set_option linter.unusedVariables false
set_option linter.unusedSimpArgs false
open Go.Shelf

structure Good {α : Type} (f : α → α → Int) : Prop where
  rng : ∀ x y, f x y = -1 ∨ f x y = 0 ∨ f x y = 1
  eq : ∀ x y, f x y = 0 ↔ x = y
  anti : ∀ x y, f y x = - f x y
  tr : ∀ x y z, f x y ≤ 0 → f y z ≤ 0 → f x z = min (f x y) (f y z)
theorem good_int : Good Lib.compareInt := by
  refine ⟨?_, ?_, ?_, ?_⟩ <;> intros <;> unfold Lib.compareInt at * <;> (repeat' split) <;> (repeat' split at *) <;> omega
theorem Good.self {α : Type} {f : α → α → Int} (h : Good f) (x : α) : f x x = 0 := (h.eq x x).2 rfl
/-- by the first, then by the second -/
def pairc {α β : Type} (f : α → α → Int) (g : β → β → Int) (x y : α × β) : Int := if f x.1 y.1 = 0 then g x.2 y.2 else f x.1 y.1
theorem good_pair {α β : Type} {f : α → α → Int} {g : β → β → Int} (hf : Good f) (hg : Good g) : Good (pairc f g) := by
  refine ⟨?_, ?_, ?_, ?_⟩
  · rintro ⟨a, b⟩ ⟨c, d⟩
    have := hf.rng a c
    have := hg.rng b d
    unfold pairc
    simp only
    split <;> omega
  · rintro ⟨a, b⟩ ⟨c, d⟩
    unfold pairc
    simp only [Prod.mk.injEq]
    rw [← hf.eq a c, ← hg.eq b d]
    split <;> omega
  · rintro ⟨a, b⟩ ⟨c, d⟩
    have h1 := hf.anti a c
    have h2 := hg.anti b d
    unfold pairc
    simp only
    rw [h1, h2]
    split <;> split <;> omega
  · rintro ⟨a, b⟩ ⟨c, d⟩ ⟨e, k⟩ h1 h2
    unfold pairc at *
    simp only at *
    have r1 := hf.rng a c
    have r2 := hf.rng c e
    have r3 := hg.rng b d
    have r4 := hg.rng d k
    by_cases e1 : f a c = 0
    · have ac := (hf.eq a c).1 e1
      subst ac
      rw [if_pos e1] at h1 ⊢
      by_cases e2 : f a e = 0
      · simp only [if_pos e2] at h2 ⊢
        exact hg.tr b d k h1 h2
      · simp only [if_neg e2] at h2 ⊢
        omega
    · rw [if_neg e1] at h1 ⊢
      by_cases e2 : f c e = 0
      · have ce := (hf.eq c e).1 e2
        subst ce
        rw [if_neg e1, if_pos e2] at *
        omega
      · rw [if_neg e2] at h2 ⊢
        have t := hf.tr a c e h1 h2
        rw [if_neg (by omega)]
        omega

theorem icmp_pair (a b : Item) : icmp a b = pairc Lib.compareInt Lib.compareInt a b := by
  unfold icmp pairc
  simp only [orL]
  by_cases h : Lib.compareInt a.1 b.1 = 0
  · rw [if_pos h, if_pos h]
    by_cases h2 : Lib.compareInt a.2 b.2 = 0
    · rw [if_pos h2, h2]
    · rw [if_neg h2]
  · rw [if_neg h, if_neg h]
theorem good_item : Good icmp := by
  rw [show icmp = pairc Lib.compareInt Lib.compareInt from funext fun a => funext fun b => icmp_pair a b]
  exact good_pair good_int good_int
def le (a b : Item) : Prop := icmp a b ≤ 0
theorem le_refl (a : Item) : le a a := by unfold le; rw [good_item.self]; omega
theorem le_trans {a b c : Item} (h : le a b) (k : le b c) : le a c := by
  unfold le at *
  have := good_item.tr a b c h k
  omega
theorem le_total (a b : Item) : le a b ∨ le b a := by
  unfold le
  have := good_item.anti a b
  omega
theorem le_antisymm {a b : Item} (h : le a b) (k : le b a) : a = b := by
  unfold le at *
  have := good_item.anti a b
  exact (good_item.eq a b).1 (by omega)
abbrev Srt (l : List Item) : Prop := l.Pairwise le
/-- the two places change -/
def swp (hs : List Item) (i j : Nat) : List Item := (hs.set i (hs.getD j (0, 0))).set j (hs.getD i (0, 0))
theorem swp_len (hs : List Item) (i j : Nat) : (swp hs i j).length = hs.length := by simp [swp]
theorem swp_at {hs : List Item} {i j : Nat} (hi : i < hs.length) (hj : j < hs.length) (k : Nat) : (swp hs i j).getD k (0, 0) = if k = i then hs.getD j (0, 0) else if k = j then hs.getD i (0, 0) else hs.getD k (0, 0) := by
  unfold swp
  simp only [List.getD_eq_getElem?_getD, List.getElem?_set, List.length_set]
  by_cases h1 : k = i
  · subst h1
    by_cases h2 : j = k
    · subst h2; simp [hi]
    · simp [h2, hi]
  · by_cases h2 : k = j
    · subst h2; simp [h1, hj]
    · simp [h1, h2, Ne.symm h1, Ne.symm h2]
theorem perm_cons_set {hs : List Item} : ∀ {i : Nat} (x : Item), i < hs.length → (hs.getD i (0, 0) :: hs.set i x).Perm (x :: hs) := by
  induction hs with
  | nil => intro i x h; simp at h
  | cons a hs ih =>
    intro i x h
    cases i with
    | zero => simp only [List.getD_cons_zero, List.set_cons_zero]; exact List.Perm.swap _ _ _
    | succ i =>
      simp only [List.getD_cons_succ, List.set_cons_succ]
      refine (List.Perm.swap _ _ _).trans (((ih x (by simpa using h)).cons a).trans (List.Perm.swap _ _ _))
theorem swp_perm {hs : List Item} {i j : Nat} (hi : i < hs.length) (hj : j < hs.length) : (swp hs i j).Perm hs := by
  have h1 := perm_cons_set (hs := hs) (hs.getD j (0, 0)) hi
  have h2 := perm_cons_set (hs := hs.set i (hs.getD j (0, 0))) (i := j) (hs.getD i (0, 0)) (by simpa using hj)
  by_cases hij : i = j
  · subst hij
    have e : (hs.set i (hs.getD i (0, 0))).getD i (0, 0) = hs.getD i (0, 0) := by
      simp [List.getD_eq_getElem?_getD, List.getElem?_set, hi]
    rw [e] at h2
    exact (List.Perm.cons_inv h2).trans (List.Perm.cons_inv h1)
  · have e : (hs.set i (hs.getD j (0, 0))).getD j (0, 0) = hs.getD j (0, 0) := by
      simp [List.getD_eq_getElem?_getD, List.getElem?_set, hij]
    rw [e] at h2
    have h3 := h2.trans h1
    exact List.Perm.cons_inv h3
/-- the item at k rises -/
def rise (hs : List Item) (k : Nat) : List Item :=
  if h : k = 0 then hs else if 0 ≤ icmp (hs.getD k (0, 0)) (hs.getD ((k - 1) / 2) (0, 0)) then hs else rise (swp hs k ((k - 1) / 2)) ((k - 1) / 2)
  termination_by k
  decreasing_by omega
/-- the lesser of a place and a kid of it -/
def lsr (hs : List Item) (l kid : Nat) : Nat := if kid < hs.length ∧ icmp (hs.getD kid (0, 0)) (hs.getD l (0, 0)) < 0 then kid else l
def lst (hs : List Item) (k : Nat) : Nat := lsr hs (lsr hs k (2 * k + 1)) (2 * k + 2)
theorem lst_cases (hs : List Item) (k : Nat) : lst hs k = k ∨ (lst hs k = 2 * k + 1 ∧ 2 * k + 1 < hs.length) ∨ (lst hs k = 2 * k + 2 ∧ 2 * k + 2 < hs.length) := by
  have key : ∀ l kid, lsr hs l kid = l ∨ (lsr hs l kid = kid ∧ kid < hs.length) := fun l kid => by
    unfold lsr
    split
    · rename_i h; exact .inr ⟨rfl, h.1⟩
    · exact .inl rfl
  unfold lst
  rcases key (lsr hs k (2 * k + 1)) (2 * k + 2) with h | ⟨h, h'⟩
  · rw [h]
    rcases key k (2 * k + 1) with h2 | ⟨h2, h3⟩
    · exact .inl h2
    · exact .inr (.inl ⟨h2, h3⟩)
  · exact .inr (.inr ⟨h, h'⟩)
/-- the item at k sinks -/
def sink (hs : List Item) (k : Nat) : List Item :=
  if h : lst hs k = k then hs else sink (swp hs k (lst hs k)) (lst hs k)
  termination_by hs.length - k
  decreasing_by
    rw [swp_len]
    have := lst_cases hs k
    omega
abbrev at' (hs : List Item) (i : Nat) : Item := hs.getD i (0, 0)
/-- each stands behind its parent -/
def IsHeap (hs : List Item) : Prop := ∀ i, 0 < i → i < hs.length → le (at' hs ((i - 1) / 2)) (at' hs i)
theorem rise_len (hs : List Item) (k : Nat) : (rise hs k).length = hs.length := by
  fun_induction rise hs k with
  | case1 => rfl
  | case2 => rfl
  | case3 hs k h1 h2 ih => rw [ih, swp_len]
theorem rise_perm (hs : List Item) (k : Nat) (hk : k < hs.length) : (rise hs k).Perm hs := by
  fun_induction rise hs k with
  | case1 => exact List.Perm.refl _
  | case2 => exact List.Perm.refl _
  | case3 hs k h1 h2 ih => exact (ih (by rw [swp_len]; omega)).trans (swp_perm hk (by omega))
theorem sink_len (hs : List Item) (k : Nat) : (sink hs k).length = hs.length := by
  fun_induction sink hs k with
  | case1 => rfl
  | case2 hs k h1 ih => rw [ih, swp_len]
theorem sink_perm (hs : List Item) (k : Nat) (hk : k < hs.length) : (sink hs k).Perm hs := by
  fun_induction sink hs k with
  | case1 => exact List.Perm.refl _
  | case2 hs k h1 ih =>
    have hl := lst_cases hs k
    exact (ih (by rw [swp_len]; omega)).trans (swp_perm hk (by omega))
/-- a heap but for the item at k, which may stand ahead of its parent -/
theorem rise_heap (hs : List Item) (k : Nat) (hk : k < hs.length) (h1 : ∀ i, 0 < i → i < hs.length → i ≠ k → le (at' hs ((i - 1) / 2)) (at' hs i))
    (h2 : ∀ i, 0 < i → i < hs.length → (i - 1) / 2 = k → 0 < k → le (at' hs ((k - 1) / 2)) (at' hs i)) : IsHeap (rise hs k) := by
  fun_induction rise hs k with
  | case1 hs => exact fun i h0 hi => h1 i h0 hi (by omega)
  | case2 hs k h0 hc =>
    intro i hi0 hi
    by_cases e : i = k
    · subst e
      have := good_item.anti (at' hs i) (at' hs ((i - 1) / 2))
      simp only [at', le] at *; omega
    · exact h1 i hi0 hi e
  | case3 hs k h0 hc ih =>
    have hu : (k - 1) / 2 < hs.length := by omega
    have hku : k ≠ (k - 1) / 2 := by omega
    have hlt : le (at' hs k) (at' hs ((k - 1) / 2)) := by simp only [at', le]; omega
    refine ih (by rw [swp_len]; omega) ?_ ?_
    · intro i hi0 hi hik
      rw [swp_len] at hi
      show le ((swp hs k ((k - 1) / 2)).getD _ _) ((swp hs k ((k - 1) / 2)).getD _ _)
      rw [swp_at hk hu, swp_at hk hu]
      by_cases e1 : i = k
      · subst e1
        rw [if_neg (by omega), if_pos rfl, if_pos rfl]
        exact hlt
      · rw [if_neg e1, if_neg hik]
        by_cases e2 : (i - 1) / 2 = k
        · rw [if_pos e2]; exact h2 i hi0 hi e2 (by omega)
        · rw [if_neg e2]
          by_cases e3 : (i - 1) / 2 = (k - 1) / 2
          · rw [if_pos e3]
            exact le_trans hlt (by have := h1 i hi0 hi e1; rwa [e3] at this)
          · rw [if_neg e3]; exact h1 i hi0 hi e1
    · intro i hi0 hi hip hp
      rw [swp_len] at hi
      show le ((swp hs k ((k - 1) / 2)).getD _ _) ((swp hs k ((k - 1) / 2)).getD _ _)
      rw [swp_at hk hu, swp_at hk hu]
      rw [if_neg (by omega), if_neg (by omega)]
      have hpp := h1 ((k - 1) / 2) hp hu (by omega)
      by_cases e1 : i = k
      · rw [if_pos e1]; exact hpp
      · rw [if_neg e1, if_neg (by omega)]
        exact le_trans hpp (by have := h1 i hi0 hi e1; rwa [hip] at this)
theorem lsr_le (hs : List Item) (l kid : Nat) : le (at' hs (lsr hs l kid)) (at' hs l) ∧ (kid < hs.length → le (at' hs (lsr hs l kid)) (at' hs kid)) := by
  unfold lsr
  split
  · rename_i h; exact ⟨by have := h.2; simp only [at', le]; omega, fun _ => le_refl _⟩
  · rename_i h
    refine ⟨le_refl _, fun hk => ?_⟩
    have := good_item.anti (at' hs kid) (at' hs l)
    have h' : ¬ icmp (hs.getD kid (0, 0)) (hs.getD l (0, 0)) < 0 := fun e => h ⟨hk, e⟩
    simp only [at', le] at *; omega
theorem lst_le (hs : List Item) (k : Nat) : le (at' hs (lst hs k)) (at' hs k) ∧ (2 * k + 1 < hs.length → le (at' hs (lst hs k)) (at' hs (2 * k + 1))) ∧ (2 * k + 2 < hs.length → le (at' hs (lst hs k)) (at' hs (2 * k + 2))) := by
  have h1 := lsr_le hs k (2 * k + 1)
  have h2 := lsr_le hs (lsr hs k (2 * k + 1)) (2 * k + 2)
  exact ⟨le_trans h2.1 h1.1, fun h => le_trans h2.1 (h1.2 h), h2.2⟩
/-- a heap but for the item at k, which may stand behind its kids -/
theorem sink_heap (hs : List Item) (k : Nat) (hk : k < hs.length) (h1 : ∀ i, 0 < i → i < hs.length → (i - 1) / 2 ≠ k → le (at' hs ((i - 1) / 2)) (at' hs i))
    (h2 : ∀ i, 0 < i → i < hs.length → (i - 1) / 2 = k → 0 < k → le (at' hs ((k - 1) / 2)) (at' hs i)) : IsHeap (sink hs k) := by
  fun_induction sink hs k with
  | case1 hs k h =>
    intro i hi0 hi
    by_cases e : (i - 1) / 2 = k
    · have hl := lst_le hs k
      rw [h] at hl
      rw [e]
      rcases (by omega : i = 2 * k + 1 ∨ i = 2 * k + 2) with rfl | rfl
      · exact hl.2.1 hi
      · exact hl.2.2 hi
    · exact h1 i hi0 hi e
  | case2 hs k h ih =>
    have hc := lst_cases hs k
    have hl := lst_le hs k
    generalize hm : lst hs k = m at *
    have hml : m < hs.length := by omega
    have hmk : (m - 1) / 2 = k ∧ 0 < m := by omega
    refine ih (by rw [swp_len]; omega) ?_ ?_
    · intro i hi0 hi hik
      rw [swp_len] at hi
      show le ((swp hs k m).getD _ _) ((swp hs k m).getD _ _)
      rw [swp_at hk hml, swp_at hk hml]
      rw [if_neg hik]
      by_cases e1 : (i - 1) / 2 = k
      · rw [if_pos e1, if_neg (by omega)]
        by_cases e2 : i = m
        · rw [if_pos e2]; exact hl.1
        · rw [if_neg e2]
          rcases (by omega : i = 2 * k + 1 ∨ i = 2 * k + 2) with rfl | rfl
          · exact hl.2.1 hi
          · exact hl.2.2 hi
      · rw [if_neg e1]
        by_cases e3 : i = k
        · rw [if_pos e3]
          subst e3
          exact h2 m hmk.2 hml hmk.1 hi0
        · rw [if_neg e3, if_neg (by omega)]
          exact h1 i hi0 hi e1
    · intro i hi0 hi hip hp
      rw [swp_len] at hi
      show le ((swp hs k m).getD _ _) ((swp hs k m).getD _ _)
      rw [swp_at hk hml, swp_at hk hml]
      rw [if_pos hmk.1, if_neg (by omega), if_neg (by omega)]
      have := h1 i hi0 hi (by omega)
      rwa [hip] at this
end Go.Proofs.Ythdeehpnlcpbnaa
