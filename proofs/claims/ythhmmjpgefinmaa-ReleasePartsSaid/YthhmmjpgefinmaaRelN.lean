/- ReleaseParts: the plain law -/
import Derived.Test.YthhmmjpgefinmaaRelL
set_option maxRecDepth 10000
namespace Go.Proofs.Ythhmmjpgefinmaa
set_option linter.unusedVariables false
set_option linter.unusedSimpArgs false
open Go.RowKit Go.Shelf
/-- the edges up to a time ahead of all closes may be told at once -/
theorem evL_cut {m b : Int} : ∀ {cl : List (Int × Int)} {s : List Out}, (∀ c ∈ cl, m ≤ c.1) → m ≤ b → evL s cl b = (tw m s).map eE ++ evL (s.drop (tw m s).length) cl b
  | [], s, _, hb => by simp only [evL]; rw [← List.map_append, tw_twice hb]
  | c :: cl, s, h, hb => by
    have h1 := h c (List.mem_cons_self ..)
    simp only [evL]
    rw [← tw_twice h1 s, List.map_append, List.length_append, List.append_assoc, List.drop_drop]
theorem evL_split {m b : Int} (hmb : m ≤ b) : ∀ {c1 c2 : List (Int × Int)} {s : List Out}, (∀ c ∈ c2, m ≤ c.1) → evL s (c1 ++ c2) b = evL s c1 m ++ evL (s.drop (nE (evL s c1 m))) c2 b
  | [], c2, s, h => by
    rw [List.nil_append, evL_cut h hmb]
    simp only [evL]
    rw [nE_map]
  | c :: c1, c2, s, h => by
    rw [List.cons_append]
    simp only [evL]
    rw [evL_split hmb h, nE_app, nE_map, List.append_assoc, List.cons_append]
    congr 2
    rw [show nE (eC c :: evL (s.drop (tw c.1 s).length) c1 m) = nE (evL (s.drop (tw c.1 s).length) c1 m) from by simp [nE, eC], List.drop_drop]
def keepV (q : Int) (x : PEv) : Bool := !(x.1 && decide (x.2.2.1 = q))
theorem keep_edges (q : Int) (l : List Out) : (l.map eE).filter (keepV q) = l.map eE := List.filter_eq_self.2 (fun x hx => by
  obtain ⟨o, -, rfl⟩ := List.mem_map.1 hx; rfl)
theorem evL_less {b q : Int} : ∀ {cl : List (Int × Int)} {s : List Out}, cl.Pairwise Cv → (∀ c ∈ cl, c.1 ≤ b) → (evL s cl b).filter (keepV q) = evL s (cl.filter (fun c => !decide (c.2 = q))) b
  | [], s, _, _ => by simp only [evL, List.filter_nil]; exact keep_edges q _
  | c :: cl, s, hc, hb => by
    have ih := evL_less (q := q) (s := s.drop (tw c.1 s).length) (List.Pairwise.of_cons hc) (fun x hx => hb x (List.mem_cons_of_mem _ hx))
    have hrel : ∀ d ∈ cl, c.1 ≤ d.1 := fun d hd => by rcases List.rel_of_pairwise_cons hc hd with e | ⟨e, -⟩ <;> omega
    simp only [evL, List.filter_append, keep_edges]
    by_cases hq : c.2 = q
    · rw [List.filter_cons_of_neg (by simp [keepV, eC, hq]), List.filter_cons_of_neg (by simp [hq]), ih]
      exact (evL_cut (fun d hd => hrel d (List.mem_filter.1 hd).1) (hb c (List.mem_cons_self ..))).symm
    · rw [List.filter_cons_of_pos (by simp [keepV, eC, hq]), List.filter_cons_of_pos (by simp [hq]), ih]
      rfl
theorem cntA_mono {a b a' b' : Int} : ∀ {l l' : List Slt} {n n' : Int}, l'.Sublist l → (∀ s ∈ l, countN a' b' s.2 ≤ countN a b s.2) → n' ≤ n → cntA a b n l ≠ none → cntA a' b' n' l' ≠ none := by
  intro l l' n n' hs
  induction hs generalizing n n' with
  | slnil => intro _ _ _; simp [cntA]
  | cons x hs ih =>
    intro h hn hne
    refine ih (n := n + countN a b x.2) (fun s hs => h s (List.mem_cons_of_mem _ hs)) (by have := countN_nn a b x.2; omega) ?_
    unfold cntA at hne
    split at hne
    · exact absurd rfl hne
    · exact hne
  | cons_cons x hs ih =>
    intro h hn hne
    unfold cntA at hne ⊢
    have h1 := h x (List.mem_cons_self ..)
    split at hne
    · exact absurd rfl hne
    · rename_i h2
      rw [if_neg (by omega)]
      exact ih (fun s hs => h s (List.mem_cons_of_mem _ hs)) (by omega) hne
theorem rightA_sub : ∀ {l l' : List Slt} {z : Int}, l'.Sublist l → rightA z l = true → rightA z l' = true := by
  intro l l' z hs
  induction hs generalizing z with
  | slnil => exact id
  | cons x hs ih =>
    intro h
    have h0 := rightA_mem h x (List.mem_cons_self ..)
    rw [right_cons] at h
    simp only [Bool.and_eq_true] at h
    have h2 := ih h.2
    rename_i l1 l2
    -- a smaller start
    cases l1 with
    | nil => rfl
    | cons y l1 =>
      rw [right_cons] at h2 ⊢
      simp only [Bool.and_eq_true, mayB, decide_eq_true_eq] at h2 ⊢
      exact ⟨⟨by have := h0.1; omega, h2.1.2⟩, h2.2⟩
  | cons_cons x hs ih =>
    intro h
    rw [right_cons] at h ⊢
    simp only [Bool.and_eq_true] at h ⊢
    exact ⟨h.1, ih h.2⟩
theorem past_mono {a b s : Int} (hs : 1 ≤ s) (h : a ≤ b) : past a s ≤ past b s := Int.ediv_le_ediv (by omega) (by omega)
theorem cntV_sub {a b a' b' : Int} {l l' : List Slt} (hs : l'.Sublist l) (hok : (cntV a b l).2 = 0) (ha : mkB a' = true) (hb : mkB b' = true) (h : ∀ s ∈ l, countN a' b' s.2 ≤ countN a b s.2) : (cntV a' b' l').2 = 0 := by
  have h0 := cntV_ok (n := (cntV a b l).1) (Prod.ext rfl hok)
  have hr : rightL l = true := by have := h0.1; unfold okL at this; simp only [Bool.and_eq_true] at this; exact this.1
  have hne : cntA a b 0 l ≠ none := fun e => by
    unfold cntV at hok
    rw [if_pos h0.1, e] at hok
    simp at hok
  have h1 := cntA_mono hs h (Int.le_refl 0) hne
  have hok' : okL a' b' l' = true := by
    unfold okL; simp only [Bool.and_eq_true]; exact ⟨rightA_sub hs hr, ha, hb⟩
  unfold cntV
  rw [if_pos hok']
  cases hc : cntA a' b' 0 l' with
  | none => exact absurd hc h1
  | some n => rfl
/-- from one watermark to a third one -/
theorem parts_law {a m b : Int} {l : List Slt} {s : List Out} (hok : (cntV a b l).2 = 0) (h1 : a ≤ m) (h2 : m ≤ b) : (cntV a m l).2 = 0 ∧ (cntV m b l).2 = 0 ∧ evP a b l s = evP a m l s ++ evP m b l (s.drop (nE (evP a m l s))) := by
  have h0 := cntV_ok (n := (cntV a b l).1) (Prod.ext rfl hok)
  obtain ⟨hr, hma, hmb⟩ : rightL l = true ∧ mkB a = true ∧ mkB b = true := by
    have := h0.1; unfold okL at this; simp only [Bool.and_eq_true] at this; exact ⟨this.1, this.2.1, this.2.2⟩
  have ha := mk_iff.1 hma
  have hb := mk_iff.1 hmb
  have hmm : mkB m = true := mk_iff.2 ⟨by omega, by omega⟩
  have hs1 : ∀ s ∈ l, 1 ≤ s.2 := fun s hs => (rightA_mem hr s hs).2.1
  have c1 : (cntV a m l).2 = 0 := cntV_sub (List.Sublist.refl _) hok hma hmm (fun s hs => by
    have e1 := past_mono (hs1 s hs) h1
    have e2 := past_mono (hs1 s hs) h2
    unfold countN; omega)
  have c2 : (cntV m b l).2 = 0 := cntV_sub (List.Sublist.refl _) hok hmm hmb (fun s hs => by
    have e1 := past_mono (hs1 s hs) h1
    have e2 := past_mono (hs1 s hs) h2
    unfold countN; omega)
  refine ⟨c1, c2, ?_⟩
  unfold evP
  rw [if_pos hok, if_pos c1, if_pos c2, closesD_split (m := m) (by omega) (by omega)]
  exact evL_split h2 (fun c hc => by have := (closesD_mem hc).1; omega)
theorem row_less {t q : Int} {l l' : List Slt} (h : l' = l.filter (fun s => !decide (s.1 = q))) : rowC t l' = (rowC t l).filter (fun c => !decide (c.2 = q)) := by
  subst h
  unfold rowC
  rw [List.filter_map, List.filter_filter, List.filter_filter]
  congr 1
  refine List.filter_congr (fun x _ => ?_)
  simp [Bool.and_comm]
theorem less_eq {l : List Slt} {k : Nat} {x : Slt} (hr : rightL l = true) (hx : l[k]? = some x) : l.take k ++ l.drop (k + 1) = l.filter (fun s => !decide (s.1 = x.1)) := by
  have hp := rightA_lt hr
  have hd : l = l.take k ++ x :: l.drop (k + 1) := by
    have := drop_get hx
    rw [← this, List.take_append_drop]
  rw [hd] at hp
  obtain ⟨-, h2, h3⟩ := List.pairwise_append.1 hp
  conv => rhs; rw [hd]
  rw [List.filter_append, List.filter_cons_of_neg (by simp), List.filter_eq_self.2 (fun s hs => by
    have := h3 s hs x (List.mem_cons_self ..)
    simp; omega), List.filter_eq_self.2 (fun s hs => by
    have := List.rel_of_pairwise_cons h2 hs
    simp; omega)]
/-- a slot less -/
theorem less_law {a b : Int} {l : List Slt} {s : List Out} {k : Nat} {x : Slt} (hok : (cntV a b l).2 = 0) (hx : l[k]? = some x) : (cntV a b (l.take k ++ l.drop (k + 1))).2 = 0 ∧ evP a b (l.take k ++ l.drop (k + 1)) s = (evP a b l s).filter (keepV x.1) := by
  have h0 := cntV_ok (n := (cntV a b l).1) (Prod.ext rfl hok)
  obtain ⟨hr, hma, hmb⟩ : rightL l = true ∧ mkB a = true ∧ mkB b = true := by
    have := h0.1; unfold okL at this; simp only [Bool.and_eq_true] at this; exact ⟨this.1, this.2.1, this.2.2⟩
  have he := less_eq hr hx
  have c1 : (cntV a b (l.take k ++ l.drop (k + 1))).2 = 0 := cntV_sub (by rw [he]; exact List.filter_sublist) hok hma hmb (fun s _ => Int.le_refl _)
  refine ⟨c1, ?_⟩
  unfold evP
  rw [if_pos hok, if_pos c1, evL_less (closesD_order hr) (fun c hc => (closesD_mem hc).2.1)]
  congr 1
  unfold closesD
  rw [List.filter_flatMap]
  congr 1
  funext t
  exact row_less he
end Go.Proofs.Ythhmmjpgefinmaa
