/- rows of edges in order: the plain law of a stable sort -/
import Derived.Test.YtfdajignnnhnmaaEdgeT
namespace Go.Proofs.Ytfdajignnnhnmaa
set_option linter.unusedVariables false
set_option linter.unusedSimpArgs false
open Go.RowKit Go.Shelf

/-- an edge does not stand behind another one -/
def eLe (a b : Edg) : Prop := ecmp a b ≤ 0
def eLt (a b : Edg) : Prop := ecmp a b < 0
theorem eLe_trans {a b c : Edg} (h : eLe a b) (k : eLe b c) : eLe a c := by
  unfold eLe at *
  rw [ecmp_key] at *
  have := good_key.tr _ _ _ h k
  omega
theorem eLe_lt {a b c : Edg} (h : eLe a b) (k : eLt b c) : eLt a c := by
  unfold eLe eLt at *
  rw [ecmp_key] at *
  have := good_key.tr _ _ _ h (Int.le_of_lt k)
  omega
theorem eLt_le {a b c : Edg} (h : eLt a b) (k : eLe b c) : eLt a c := by
  unfold eLe eLt at *
  rw [ecmp_key] at *
  have := good_key.tr _ _ _ (Int.le_of_lt h) k
  omega
theorem eLt_eLe {a b : Edg} (h : eLt a b) : eLe a b := by unfold eLt at h; unfold eLe; omega
theorem eLe_refl (a : Edg) : eLe a a := by unfold eLe; rw [ecmp_key, good_key.self]; omega
theorem not_lt {a b : Edg} (h : ¬ eLt a b) : eLe b a := by
  unfold eLe eLt at *
  rw [ecmp_key] at *
  have := good_key.anti (ekey a) (ekey b)
  omega
theorem lt_not {a b : Edg} (h : eLe b a) : ¬ eLt a b := by
  unfold eLe eLt at *
  rw [ecmp_key] at *
  have := good_key.anti (ekey a) (ekey b)
  omega
theorem eLt_key {a b : Edg} (h : eLt a b) : ekey a ≠ ekey b := by
  intro e
  unfold eLt at h
  rw [ecmp_key, e, good_key.self] at h
  omega
/-- the edge at a place -/
def eat (L : List Edg) (k : Nat) : Edg := L.getD k zeroE
def eswp (L : List Edg) (i j : Nat) : List Edg := (L.set i (eat L j)).set j (eat L i)
theorem eswp_len (L : List Edg) (i j : Nat) : (eswp L i j).length = L.length := by simp [eswp]
theorem eat_get {L : List Edg} {k : Nat} (h : k < L.length) : L[k]? = some (eat L k) := by simp [eat, List.getD_eq_getElem?_getD, h]
theorem eat_of {L : List Edg} {k : Nat} {E : Edg} (h : L[k]? = some E) : eat L k = E := by simp [eat, List.getD_eq_getElem?_getD, h]
theorem eswp_at {L : List Edg} {i j : Nat} (hi : i < L.length) (hj : j < L.length) (k : Nat) : eat (eswp L i j) k = if k = j then eat L i else if k = i then eat L j else eat L k := by
  unfold eswp
  simp only [eat, List.getD_eq_getElem?_getD, List.getElem?_set, List.length_set]
  by_cases h1 : k = j
  · subst h1; simp [hj]
  · by_cases h2 : k = i
    · subst h2; simp [h1, Ne.symm h1, hi]
    · simp [h1, h2, Ne.symm h1, Ne.symm h2]
def isK (k : EKey) (E : Edg) : Bool := decide (kcmp (ekey E) k = 0)
theorem isK_self (E : Edg) : isK (ekey E) E = true := by simp [isK, good_key.self]
theorem isK_eq {k : EKey} {E : Edg} (h : isK k E = true) : ekey E = k := by
  unfold isK at h; exact (good_key.eq _ _).1 (of_decide_eq_true h)
/-- between a and b the row has changed, and no two that are alike have changed places -/
structure Stab (a b : Nat) (L L' : List Edg) : Prop where
  len : L'.length = L.length
  out : ∀ i, (i < a ∨ b ≤ i) → L'[i]? = L[i]?
  filt : ∀ k, L'.filter (isK k) = L.filter (isK k)
theorem Stab.refl (a b : Nat) (L : List Edg) : Stab a b L L := ⟨rfl, fun _ _ => rfl, fun _ => rfl⟩
theorem Stab.trans {a b : Nat} {L M N : List Edg} (h : Stab a b L M) (k : Stab a b M N) : Stab a b L N :=
  ⟨k.len.trans h.len, fun i hi => (k.out i hi).trans (h.out i hi), fun x => (k.filt x).trans (h.filt x)⟩
theorem Stab.mono {a b a' b' : Nat} {L M : List Edg} (h : Stab a b L M) (ha : a' ≤ a) (hb : b ≤ b') : Stab a' b' L M :=
  ⟨h.len, fun i hi => h.out i (by omega), h.filt⟩
theorem Stab.mem {a b : Nat} {L M : List Edg} (h : Stab a b L M) {E : Edg} : E ∈ M ↔ E ∈ L := by
  have hf := h.filt (ekey E)
  constructor
  · intro hE
    have : E ∈ M.filter (isK (ekey E)) := List.mem_filter.2 ⟨hE, isK_self E⟩
    rw [hf] at this
    exact (List.mem_filter.1 this).1
  · intro hE
    have : E ∈ L.filter (isK (ekey E)) := List.mem_filter.2 ⟨hE, isK_self E⟩
    rw [← hf] at this
    exact (List.mem_filter.1 this).1
/-- what stands between a and b -/
def seg (a b : Nat) (L : List Edg) : List Edg := (L.drop a).take (b - a)
theorem seg_split (a b : Nat) (L : List Edg) (hab : a ≤ b) : L = L.take a ++ (seg a b L ++ L.drop b) := by
  unfold seg
  have : (L.drop a).drop (b - a) = L.drop b := by rw [List.drop_drop]; congr 1; omega
  rw [← this, List.take_append_drop, List.take_append_drop]
theorem seg_get {a b : Nat} {L : List Edg} {i : Nat} (h1 : a ≤ i) (h2 : i < b) : (seg a b L)[i - a]? = L[i]? := by
  unfold seg
  rw [List.getElem?_take, if_pos (by omega), List.getElem?_drop]; congr 1; omega
theorem Stab.sg {a b : Nat} {L M : List Edg} (h : Stab a b L M) (hab : a ≤ b) (hb : b ≤ L.length) (k : EKey) : (seg a b M).filter (isK k) = (seg a b L).filter (isK k) := by
  have h1 : M.take a = L.take a := by
    apply List.ext_getElem?
    intro i
    rw [List.getElem?_take, List.getElem?_take]
    split
    · exact h.out i (.inl ‹_›)
    · rfl
  have h2 : M.drop b = L.drop b := by
    apply List.ext_getElem?
    intro i
    rw [List.getElem?_drop, List.getElem?_drop]
    exact h.out _ (.inr (by omega))
  have hf := h.filt k
  rw [seg_split a b M hab, seg_split a b L hab, h1, h2] at hf
  simp only [List.filter_append] at hf
  exact List.append_cancel_right (List.append_cancel_left hf)
theorem seg_mem {a b : Nat} {L : List Edg} {E : Edg} (hb : b ≤ L.length) (h : E ∈ seg a b L) : ∃ i, a ≤ i ∧ i < b ∧ eat L i = E := by
  obtain ⟨j, hj, he⟩ := List.getElem_of_mem h
  unfold seg at hj he
  rw [List.length_take, List.length_drop] at hj
  refine ⟨a + j, by omega, by omega, ?_⟩
  apply eat_of
  rw [List.getElem_take, List.getElem_drop] at he
  rw [List.getElem?_eq_getElem (by omega), he]
theorem Stab.back {a b : Nat} {L M : List Edg} (h : Stab a b L M) (hab : a ≤ b) (hb : b ≤ L.length) {i : Nat} (h1 : a ≤ i) (h2 : i < b) : ∃ j, a ≤ j ∧ j < b ∧ eat M i = eat L j := by
  have hm : eat M i ∈ seg a b M := by
    have := seg_get (L := M) h1 h2
    exact List.mem_of_getElem? (this.trans (eat_get (by rw [h.len]; omega)))
  have : eat M i ∈ (seg a b M).filter (isK (ekey (eat M i))) := List.mem_filter.2 ⟨hm, isK_self _⟩
  rw [h.sg hab hb] at this
  obtain ⟨j, hj1, hj2, hj3⟩ := seg_mem hb (List.mem_filter.1 this).1
  exact ⟨j, hj1, hj2, hj3.symm⟩
theorem Stab.at {a b : Nat} {L M : List Edg} (h : Stab a b L M) {i : Nat} (hi : i < a ∨ b ≤ i) : eat M i = eat L i := by
  unfold eat
  rw [List.getD_eq_getElem?_getD, List.getD_eq_getElem?_getD, h.out i hi]
/-- two neighbours that are unlike change places -/
theorem Stab.swap {L : List Edg} {i : Nat} (hi : i + 1 < L.length) (hk : ekey (eat L i) ≠ ekey (eat L (i + 1))) : Stab i (i + 2) L (eswp L (i + 1) i) := by
  refine ⟨eswp_len _ _ _, fun j hj => ?_, fun k => ?_⟩
  · unfold eswp
    rw [List.getElem?_set_ne (by omega), List.getElem?_set_ne (by omega)]
  · have e : L = L.take i ++ (eat L i :: eat L (i + 1) :: L.drop (i + 2)) := by
      have h1 : L.drop i = eat L i :: L.drop (i + 1) := by
        rw [List.drop_eq_getElem_cons (by omega)]
        congr 1
        have := eat_get (L := L) (k := i) (by omega)
        rw [List.getElem?_eq_getElem (by omega)] at this
        exact Option.some.inj this
      have h2 : L.drop (i + 1) = eat L (i + 1) :: L.drop (i + 2) := by
        rw [List.drop_eq_getElem_cons (by omega)]
        congr 1
        have := eat_get (L := L) (k := i + 1) (by omega)
        rw [List.getElem?_eq_getElem (by omega)] at this
        exact Option.some.inj this
      rw [← h2, ← h1, List.take_append_drop]
    have e2 : eswp L (i + 1) i = L.take i ++ (eat L (i + 1) :: eat L i :: L.drop (i + 2)) := by
      have hl : (L.take i).length = i := by rw [List.length_take]; omega
      unfold eswp
      generalize hx : eat L i = x at *
      generalize hy : eat L (i + 1) = y at *
      generalize hA : L.take i = A at *
      generalize hB : L.drop (i + 2) = B at *
      rw [e]
      rw [List.set_append_right _ _ (by omega), List.set_append_right _ _ (by omega)]
      congr 1
      rw [hl, Nat.sub_self, Nat.add_sub_cancel_left]
      rfl
    rw [e2]
    conv => rhs; rw [e]
    simp only [List.filter_append, List.filter_cons]
    congr 1
    by_cases h1 : isK k (eat L i) = true
    · have h2 : isK k (eat L (i + 1)) = false := by
        cases h : isK k (eat L (i + 1))
        · rfl
        · exact absurd ((isK_eq h1).trans (isK_eq h).symm) hk
      simp [h1, h2]
    · simp [h1]
/-- between a and b none stands ahead of one ahead -/
def Srt (a b : Nat) (L : List Edg) : Prop := ∀ i j, a ≤ i → i < j → j < b → eLe (eat L i) (eat L j)
theorem Srt.sub {a b a' b' : Nat} {L : List Edg} (h : Srt a b L) (ha : a ≤ a') (hb : b' ≤ b) : Srt a' b' L := fun i j h1 h2 h3 => h i j (by omega) h2 (by omega)
theorem Srt.le {a b : Nat} {L : List Edg} (h : Srt a b L) {i j : Nat} (h1 : a ≤ i) (h2 : i ≤ j) (h3 : j < b) : eLe (eat L i) (eat L j) := by
  rcases Nat.lt_or_ge i j with h4 | h4
  · exact h i j h1 h4 h3
  · rw [show i = j by omega]; exact eLe_refl _
theorem Srt.of {a b : Nat} {L M : List Edg} (h : Srt a b L) (he : ∀ i, a ≤ i → i < b → eat M i = eat L i) : Srt a b M := fun i j h1 h2 h3 => by
  rw [he i h1 (by omega), he j (by omega) h3]; exact h i j h1 h2 h3
/-- insertion: all between a and i are in order, but for the one at j -/
def Ins (a i j : Nat) (L : List Edg) : Prop := ∀ p q, a ≤ p → p < q → q ≤ i → q ≠ j → eLe (eat L p) (eat L q)
theorem Ins.start {a i : Nat} {L : List Edg} (h : Srt a i L) : Ins a i i L := fun p q h1 h2 h3 h4 => h p q h1 h2 (by omega)
theorem Ins.step {a i j : Nat} {L : List Edg} (h : Ins a i j L) (hj : a < j) (hji : j ≤ i) (hi : i < L.length) (hlt : eLt (eat L j) (eat L (j - 1))) : Ins a i (j - 1) (eswp L j (j - 1)) := by
  intro p q h1 h2 h3 h4
  rw [eswp_at (by omega) (by omega), eswp_at (by omega) (by omega)]
  rw [if_neg h4]
  by_cases e1 : q = j
  · rw [if_pos e1]
    by_cases e2 : p = j - 1
    · rw [if_pos e2]; exact eLt_eLe hlt
    · rw [if_neg e2, if_neg (by omega)]
      exact h p (j - 1) h1 (by omega) (by omega) (by omega)
  · rw [if_neg e1]
    by_cases e2 : p = j - 1
    · rw [if_pos e2]; exact h j q (by omega) (by omega) h3 e1
    · rw [if_neg e2]
      by_cases e3 : p = j
      · rw [if_pos e3]; exact h (j - 1) q (by omega) (by omega) h3 e1
      · rw [if_neg e3]; exact h p q h1 h2 h3 e1
theorem Ins.stop {a i j : Nat} {L : List Edg} (h : Ins a i j L) (hj : a ≤ j) (hji : j ≤ i) (hend : j = a ∨ ¬ eLt (eat L j) (eat L (j - 1))) : Srt a (i + 1) L := by
  intro p q h1 h2 h3
  by_cases e : q = j
  · subst e
    rcases hend with h4 | h4
    · omega
    · have h5 := not_lt h4
      rcases Nat.lt_or_ge p (q - 1) with h6 | h6
      · exact eLe_trans (h p (q - 1) h1 h6 (by omega) (by omega)) h5
      · rw [show p = q - 1 by omega]; exact h5
  · exact h p q h1 h2 (by omega) e
end Go.Proofs.Ytfdajignnnhnmaa
