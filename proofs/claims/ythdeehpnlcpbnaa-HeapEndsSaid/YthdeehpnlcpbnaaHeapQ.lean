/- a heap and the items in order: one answers as the other (plain) -/
import Derived.Test.YthdeehpnlcpbnaaHeapM
namespace Go.Proofs.Ythdeehpnlcpbnaa
set_option linter.unusedVariables false
set_option linter.unusedSimpArgs false

structure HL (hs L : List Item) : Prop where
  heap : IsHeap hs
  perm : hs.Perm L
  srt : Srt L
theorem HL.nil : HL [] [] := ⟨fun i _ h => by simp at h, List.Perm.refl _, List.Pairwise.nil⟩
theorem HL.len {hs L : List Item} (h : HL hs L) : hs.length = L.length := h.perm.length_eq
theorem HL.isB {hs L : List Item} (h : HL hs L) : isB hs = isB L := by
  have := h.len
  unfold Go.Proofs.Ythdeehpnlcpbnaa.isB
  cases hs <;> cases L <;> simp at this ⊢
theorem root_le {hs : List Item} (h : IsHeap hs) : ∀ i, i < hs.length → le (at' hs 0) (at' hs i) := by
  intro i
  induction i using Nat.strongRecOn with
  | ind i ih =>
    intro hi
    by_cases h0 : i = 0
    · subst h0; exact le_refl _
    · exact le_trans (ih ((i - 1) / 2) (by omega) (by omega)) (h i (by omega) hi)
theorem at_mem {l : List Item} {i : Nat} (h : i < l.length) : at' l i ∈ l := by
  have : at' l i = l[i] := by simp [at', List.getD_eq_getElem?_getD, h]
  rw [this]; exact List.getElem_mem h
theorem mem_at {l : List Item} {x : Item} (h : x ∈ l) : ∃ i, i < l.length ∧ at' l i = x := by
  obtain ⟨i, hi, rfl⟩ := List.getElem_of_mem h
  exact ⟨i, hi, by simp [at', List.getD_eq_getElem?_getD, hi]⟩
theorem HL.head {hs L : List Item} (h : HL hs L) : at' hs 0 = at' L 0 := by
  cases L with
  | nil => have := h.len; cases hs with
           | nil => rfl
           | cons a l => simp at this
  | cons x L =>
    have hl := h.len
    have h0 : 0 < hs.length := by rw [hl]; simp
    have h1 : x ∈ hs := h.perm.mem_iff.2 (by simp)
    obtain ⟨i, hi, hx⟩ := mem_at h1
    have h2 : at' hs 0 ∈ x :: L := h.perm.mem_iff.1 (at_mem h0)
    refine le_antisymm (by have := root_le h.heap i hi; rwa [hx] at this) ?_
    show le x (at' hs 0)
    rcases List.mem_cons.1 h2 with e | e
    · rw [e]; exact le_refl _
    · exact (List.pairwise_cons.1 h.srt).1 _ e
theorem sink_nil : sink [] 0 = [] := by
  have := sink_len [] 0
  exact List.length_eq_zero_iff.1 this
theorem pop_parts {a : Item} {t : List Item} : (a :: popL (a :: t)).Perm (a :: t) ∧ (IsHeap (a :: t) → IsHeap (popL (a :: t))) := by
  unfold popL
  rw [if_neg (by simp)]
  simp only [List.length_cons, Nat.add_sub_cancel, List.set_cons_zero]
  rcases List.eq_nil_or_concat t with rfl | ⟨u, b, rfl⟩
  · simp only [List.length_nil, List.take_zero, sink_nil]
    exact ⟨List.Perm.refl _, fun _ i _ h => by simp at h⟩
  · have hb : at' (a :: u.concat b) (u.concat b).length = b := by
      simp [at', List.getD_eq_getElem?_getD, List.concat_eq_append]
    rw [hb]
    have hk : (b :: u.concat b).take (u.concat b).length = b :: u := by
      simp [List.concat_eq_append]
    rw [hk]
    refine ⟨?_, fun h => ?_⟩
    · refine List.Perm.cons a ((sink_perm (b :: u) 0 (by simp)).trans ?_)
      rw [List.concat_eq_append]
      exact (List.perm_append_singleton b u).symm
    · have he : ∀ i, 0 < i → i < (b :: u).length → at' (b :: u) i = at' (a :: u.concat b) i := fun i h0 hi => by
        obtain ⟨j, rfl⟩ : ∃ j, i = j + 1 := ⟨i - 1, by omega⟩
        have hj : j < u.length := by simpa using hi
        simp [at', List.getD_eq_getElem?_getD, List.concat_eq_append, List.getElem?_append_left hj]
      refine sink_heap _ 0 (by simp) (fun i h0 hi hp => ?_) (fun i _ _ _ h => absurd h (by omega))
      have hi' : i < (a :: u.concat b).length := by simp [List.concat_eq_append] at hi ⊢; omega
      rw [he i h0 hi, he ((i - 1) / 2) (by omega) (by omega)]
      exact h i h0 hi'
theorem HL.pop {hs L : List Item} (h : HL hs L) : HL (popL hs) L.tail := by
  cases hs with
  | nil =>
    have := h.len
    cases L with
    | nil => exact HL.nil
    | cons x L => simp at this
  | cons a t =>
    cases L with
    | nil => have := h.len; simp at this
    | cons x L =>
      have hx : a = x := h.head
      subst hx
      obtain ⟨p1, p2⟩ := pop_parts (a := a) (t := t)
      exact ⟨p2 h.heap, List.Perm.cons_inv (p1.trans h.perm), (List.pairwise_cons.1 h.srt).2⟩
theorem insL_perm (x : Item) (L : List Item) : (insL x L).Perm (x :: L) := by
  unfold insL
  refine List.perm_middle.trans ?_
  rw [List.takeWhile_append_dropWhile]
theorem bef_le {x e : Item} (h : bef x e = true) : le e x := by
  unfold bef at h
  simp at h
  have := good_item.anti x e
  unfold le; omega
theorem insL_srt (x : Item) : ∀ {L : List Item}, Srt L → Srt (insL x L)
  | [], _ => by simp [insL]
  | e :: L, h => by
    obtain ⟨h1, h2⟩ := List.pairwise_cons.1 h
    have ih := insL_srt x h2
    unfold insL at ih ⊢
    cases hb : bef x e
    · rw [List.takeWhile_cons, List.dropWhile_cons, hb]
      simp only [if_false, Bool.false_eq_true, List.nil_append]
      have hx : le x e := by unfold bef at hb; simp at hb; unfold le; omega
      exact List.pairwise_cons.2 ⟨fun y hy => (List.mem_cons.1 hy).elim (fun e' => by rw [e']; exact hx) (fun h' => le_trans hx (h1 y h')), h⟩
    · rw [List.takeWhile_cons, List.dropWhile_cons, hb]
      simp only [if_true, List.cons_append]
      refine List.pairwise_cons.2 ⟨fun y hy => ?_, ih⟩
      have := (insL_perm x L).mem_iff.1 (show y ∈ insL x L from hy)
      rcases List.mem_cons.1 this with rfl | h'
      · exact bef_le hb
      · exact h1 y h'
theorem HL.push {hs L : List Item} (h : HL hs L) (x : Item) : HL (push1 hs x) (insL x L) := by
  have hk : hs.length < (hs ++ [x]).length := by simp
  have he : ∀ i, i < hs.length → at' (hs ++ [x]) i = at' hs i := fun i hi => by simp [at', List.getD_eq_getElem?_getD, List.getElem?_append_left hi]
  refine ⟨rise_heap _ _ hk (fun i h0 hi hne => ?_) (fun i h0 hi hp hk0 => ?_), (rise_perm _ _ hk).trans ?_, insL_srt x h.srt⟩
  · simp at hi
    rw [he i (by omega), he ((i - 1) / 2) (by omega)]
    exact h.heap i h0 (by omega)
  · simp at hi; omega
  · exact (List.perm_append_singleton x hs).trans ((h.perm.cons x).trans (insL_perm x L).symm)
theorem HL.pushes : ∀ {xs hs L : List Item}, HL hs L → HL (pushes hs xs) (inss L xs)
  | [], _, _, h => h
  | x :: xs, hs, L, h => HL.pushes (xs := xs) (h.push x)
theorem HL.tk (key : Int) : ∀ {n : Nat} {hs L : List Item}, HL hs L → hs.length ≤ n → tk key n hs = L.takeWhile (upK key)
  | 0, hs, L, h, hn => by
    have h1 := h.len
    have : L = [] := List.length_eq_zero_iff.1 (by omega)
    subst this; rfl
  | n + 1, hs, L, h, hn => by
    have h1 := h.len
    rw [Go.Proofs.Ythdeehpnlcpbnaa.tk]
    cases L with
    | nil =>
      have : hs = [] := List.length_eq_zero_iff.1 (by simpa using h1)
      subst this; simp
    | cons x L =>
      have hne : hs ≠ [] := fun e => by subst e; simp at h1
      have hx : at' hs 0 = x := h.head
      rw [if_neg hne, hx, List.takeWhile_cons]
      unfold upK
      by_cases hc : x.1 ≤ key
      · rw [if_pos hc, if_pos (by simpa using hc)]
        have := HL.tk key (n := n) h.pop (by rw [popL_len]; omega)
        rw [this]; rfl
      · rw [if_neg hc, if_neg (by simpa using hc)]
theorem HL.pops : ∀ {j : Nat} {hs L : List Item}, HL hs L → HL (pops j hs) (L.drop j)
  | 0, _, _, h => h
  | j + 1, hs, L, h => by
    have := HL.pops (j := j) h.pop
    cases L with
    | nil => show HL (Go.Proofs.Ythdeehpnlcpbnaa.pops j (popL hs)) _; simpa using this
    | cons x L => exact this
end Go.Proofs.Ythdeehpnlcpbnaa
