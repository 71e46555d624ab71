/- ReleaseOrder: the plain law -/
import Derived.Test.YthhmmjpgefinmaaRelU
set_option maxRecDepth 10000
namespace Go.Proofs.Ythhmmjpgefinmaa
set_option linter.unusedVariables false
set_option linter.unusedSimpArgs false
open Go.RowKit Go.Shelf
/-- may an event stand ahead of another one? -/
def Rv (x y : PEv) : Prop := x.2.2.2 < y.2.2.2 ∨ (x.2.2.2 = y.2.2.2 ∧ (x.1 = false ∨ (x.1 = true ∧ y.1 = true ∧ x.2.2.1 < y.2.2.1)))
def Cv (c d : Int × Int) : Prop := c.1 < d.1 ∨ (c.1 = d.1 ∧ c.2 < d.2)
theorem tw_le {b : Int} : ∀ {s : List Out}, ∀ o ∈ tw b s, otm o ≤ b ∧ o ∈ s
  | [], o, ho => by simp [tw] at ho
  | x :: s, o, ho => by
    by_cases hx : otm x ≤ b
    · rw [tw_yes hx] at ho
      rcases List.mem_cons.1 ho with e | e
      · rw [e]; exact ⟨hx, List.mem_cons_self ..⟩
      · have := tw_le o e; exact ⟨this.1, List.mem_cons_of_mem _ this.2⟩
    · rw [tw_no hx] at ho; cases ho
theorem tw_twice {t b : Int} (h : t ≤ b) : ∀ s : List Out, tw t s ++ tw b (s.drop (tw t s).length) = tw b s
  | [] => rfl
  | o :: s => by
    by_cases ho : otm o ≤ t
    · rw [tw_yes ho, tw_yes (show otm o ≤ b by omega), List.length_cons, List.drop_succ_cons, List.cons_append, tw_twice h s]
    · rw [tw_no ho]; rfl
theorem tw_rest {t : Int} : ∀ {s : List Out}, OStr s → ∀ o ∈ s.drop (tw t s).length, t < otm o
  | [], _, o, ho => by simp at ho
  | x :: s, hs, o, ho => by
    by_cases hx : otm x ≤ t
    · rw [tw_yes hx, List.length_cons, List.drop_succ_cons] at ho
      exact tw_rest (List.Pairwise.of_cons hs) o ho
    · rw [tw_no hx] at ho
      simp only [List.length_nil, List.drop_zero] at ho
      rcases List.mem_cons.1 ho with e | e
      · rw [e]; omega
      · have := tm_le (List.rel_of_pairwise_cons hs e); omega
theorem evL_mem {b : Int} {y : PEv} : ∀ {cl : List (Int × Int)} {s : List Out}, y ∈ evL s cl b → (∃ o ∈ s, y = eE o) ∨ ∃ c ∈ cl, y = eC c
  | [], s, h => by
    simp only [evL, List.mem_map] at h
    obtain ⟨o, h1, rfl⟩ := h
    exact .inl ⟨o, (tw_le o h1).2, rfl⟩
  | c :: cl, s, h => by
    simp only [evL, List.mem_append, List.mem_map, List.mem_cons] at h
    rcases h with ⟨o, h1, rfl⟩ | rfl | h
    · exact .inl ⟨o, (tw_le o h1).2, rfl⟩
    · exact .inr ⟨c, List.mem_cons_self .., rfl⟩
    · rcases evL_mem h with ⟨o, h1, e⟩ | ⟨c', h1, e⟩
      · exact .inl ⟨o, List.mem_of_mem_drop h1, e⟩
      · exact .inr ⟨c', List.mem_cons_of_mem _ h1, e⟩
theorem filter_eE (l : List Out) : (l.map eE).filter (fun x : PEv => !x.1) = l.map eE := List.filter_eq_self.2 (fun x hx => by
  obtain ⟨o, -, rfl⟩ := List.mem_map.1 hx; rfl)
theorem evL_edges {b : Int} : ∀ {cl : List (Int × Int)} {s : List Out}, (∀ c ∈ cl, c.1 ≤ b) → (evL s cl b).filter (fun x : PEv => !x.1) = (tw b s).map eE
  | [], s, _ => by simp only [evL]; exact filter_eE _
  | c :: cl, s, h => by
    simp only [evL, List.filter_append, filter_eE]
    rw [List.filter_cons_of_neg (by simp [eC]), evL_edges (fun x hx => h x (List.mem_cons_of_mem _ hx)), ← List.map_append, tw_twice (h c (List.mem_cons_self ..))]
theorem evL_closes {b : Int} : ∀ {cl : List (Int × Int)} {s : List Out}, (evL s cl b).countP (fun x : PEv => x.1) = cl.length
  | [], s => by
    simp only [evL, List.length_nil]
    rw [List.countP_eq_zero]
    intro x hx
    obtain ⟨o, -, rfl⟩ := List.mem_map.1 hx
    simp [eE]
  | c :: cl, s => by
    simp only [evL, List.countP_append, List.countP_cons, List.length_cons]
    rw [evL_closes, List.countP_eq_zero.2]
    · simp [eC]
    · intro x hx
      obtain ⟨o, -, rfl⟩ := List.mem_map.1 hx
      simp [eE]
theorem eE_order {s : List Out} (h : OStr s) (b : Int) : ((tw b s).map eE).Pairwise Rv := by
  rw [List.pairwise_map]
  refine List.Pairwise.imp (fun {o o'} h => ?_) (List.Pairwise.sublist (List.takeWhile_sublist _) h)
  have := tm_le h
  show otm o < otm o' ∨ (otm o = otm o' ∧ _)
  rcases Int.lt_or_eq_of_le this with e | e
  · exact .inl e
  · exact .inr ⟨e, .inl rfl⟩
theorem evL_order {b : Int} : ∀ {cl : List (Int × Int)} {s : List Out}, OStr s → cl.Pairwise Cv → (evL s cl b).Pairwise Rv
  | [], s, hs, _ => eE_order hs b
  | c :: cl, s, hs, hc => by
    simp only [evL]
    have hrel : ∀ d ∈ cl, Cv c d := fun d hd => List.rel_of_pairwise_cons hc hd
    have hrest := tw_rest (t := c.1) hs
    have hd : OStr (s.drop (tw c.1 s).length) := List.Pairwise.sublist (List.drop_sublist _ _) hs
    rw [List.pairwise_append]
    refine ⟨eE_order hs c.1, List.Pairwise.cons (fun y hy => ?_) (evL_order hd (List.Pairwise.of_cons hc)), fun x hx y hy => ?_⟩
    · rcases evL_mem hy with ⟨o, h1, rfl⟩ | ⟨c', h1, rfl⟩
      · exact .inl (hrest o h1)
      · rcases hrel c' h1 with e | ⟨e1, e2⟩
        · exact .inl e
        · exact .inr ⟨e1, .inr ⟨rfl, rfl, e2⟩⟩
    · obtain ⟨o, h1, rfl⟩ := List.mem_map.1 hx
      have h2 := (tw_le o h1).1
      rcases List.mem_cons.1 hy with rfl | hy
      · show otm o < c.1 ∨ (otm o = c.1 ∧ _)
        rcases Int.lt_or_eq_of_le h2 with e | e
        · exact .inl e
        · exact .inr ⟨e, .inl rfl⟩
      · rcases evL_mem hy with ⟨o', h3, rfl⟩ | ⟨c', h3, rfl⟩
        · exact .inl (by have := hrest o' h3; show otm o < otm o'; omega)
        · have h4 : c.1 ≤ c'.1 := by rcases hrel c' h3 with e | ⟨e, -⟩ <;> omega
          show otm o < c'.1 ∨ (otm o = c'.1 ∧ _)
          rcases Int.lt_or_eq_of_le (show otm o ≤ c'.1 by omega) with e | e
          · exact .inl e
          · exact .inr ⟨e, .inl rfl⟩
theorem closesD_mem {a b : Int} {l : List Slt} {c : Int × Int} (h : c ∈ closesD a b l) : max a 0 < c.1 ∧ c.1 ≤ b ∧ ∃ s, (c.2, s) ∈ l ∧ c.1 % s = 0 := by
  unfold closesD at h
  obtain ⟨t, h1, h2⟩ := List.mem_flatMap.1 h
  unfold rowC at h2
  obtain ⟨x, h3, rfl⟩ := List.mem_map.1 h2
  obtain ⟨h4, h5⟩ := List.mem_filter.1 h3
  obtain ⟨h6, h7⟩ := ticks_mem.1 h1
  exact ⟨h6, h7, x.2, h4, by simpa [dv] using h5⟩
theorem closesD_order {a b : Int} {l : List Slt} (h : rightL l = true) : (closesD a b l).Pairwise Cv := by
  unfold closesD
  rw [List.pairwise_flatMap]
  constructor
  · intro t _
    unfold rowC
    rw [List.pairwise_map]
    refine List.Pairwise.imp (fun {x y} h => ?_) (List.Pairwise.sublist List.filter_sublist (rightA_lt h))
    exact .inr ⟨rfl, h⟩
  · unfold ticks
    rw [List.pairwise_map]
    refine List.Pairwise.imp (fun {i j} hij x hx y hy => ?_) (List.pairwise_lt_range)
    unfold rowC at hx hy
    obtain ⟨x', -, rfl⟩ := List.mem_map.1 hx
    obtain ⟨y', -, rfl⟩ := List.mem_map.1 hy
    exact .inl (by show max a 0 + 1 + (i : Int) < max a 0 + 1 + (j : Int); omega)
/-- the slide of a query -/
def slideV (q : Int) : List Slt → Int
  | [] => 0
  | s :: l => if s.1 = q then s.2 else slideV q l
theorem slideV_at {q s z : Int} : ∀ {l : List Slt}, rightA z l = true → (q, s) ∈ l → slideV q l = s
  | [], _, h => by cases h
  | x :: l, hr, h => by
    have hp := rightA_lt hr
    unfold slideV
    rcases List.mem_cons.1 h with e | e
    · rw [← e, if_pos rfl]
    · have := List.rel_of_pairwise_cons hp e
      simp only at this
      rw [if_neg (by omega)]
      rw [right_cons] at hr
      simp only [Bool.and_eq_true] at hr
      exact slideV_at hr.2 e
theorem filter_at {α : Type} {p : α → Bool} {y : α} : ∀ {E : List α} {i : Nat}, E[i]? = some y → p y = true → (E.filter p)[(E.take i).countP p]? = some y
  | x :: E, 0, h, hy => by
    cases h
    rw [List.filter_cons_of_pos hy]; rfl
  | x :: E, i + 1, h, hy => by
    have := filter_at (E := E) (i := i) (by simpa using h) hy
    rw [List.take_succ_cons, List.countP_cons]
    by_cases hx : p x = true
    · rw [List.filter_cons_of_pos hx, if_pos hx]; simpa using this
    · rw [List.filter_cons_of_neg hx, if_neg hx]; simpa using this
theorem nE_filter (E : List PEv) : nE E = (E.filter (fun x : PEv => !x.1)).length := List.countP_eq_length_filter ..
theorem nE_closes (E : List PEv) : nE E + E.countP (fun x : PEv => x.1) = E.length := by
  have h : ∀ E : List PEv, E.countP (fun x : PEv => !x.1) + E.countP (fun x : PEv => x.1) = E.length := by
    intro E
    induction E with
    | nil => rfl
    | cons x E ih =>
      rw [List.countP_cons, List.countP_cons, List.length_cons, ← ih]
      cases x.1 <;> simp <;> omega
  exact h E
theorem tw_stop {b : Int} {o : Out} : ∀ {s : List Out}, s[(tw b s).length]? = some o → b < otm o
  | [], h => by simp at h
  | x :: s, h => by
    by_cases hx : otm x ≤ b
    · rw [tw_yes hx, List.length_cons] at h
      exact tw_stop (s := s) (by simpa using h)
    · rw [tw_no hx] at h
      simp at h
      rw [← h]; omega
/-- all that the statement asks of the events -/
structure EvFacts (a b : Int) (l : List Slt) (s : List Out) (evs : List PEv) : Prop where
  ord : evs.Pairwise Rv
  edge : ∀ (i : Nat) (y : PEv), evs[i]? = some y → y.1 = false → ∃ o, s[nE (evs.take i)]? = some o ∧ y = eE o ∧ otm o ≤ b
  close : ∀ (i : Nat) (y : PEv), evs[i]? = some y → y.1 = true → ∃ t q sl : Int, y = eC (t, q) ∧ slideV q l = sl ∧ 1 ≤ sl ∧ sl ≤ 1048576 ∧ t % sl = 0 ∧ a < t ∧ 0 < t ∧ t ≤ b
  ne : nE evs = (tw b s).length
  nc : evs.countP (fun x : PEv => x.1) = (closesD a b l).length
theorem evFacts {a b : Int} {l : List Slt} {s : List Out} (hr : rightL l = true) (hs : OStr s) : EvFacts a b l s (evL s (closesD a b l) b) := by
  have hle : ∀ c ∈ closesD a b l, c.1 ≤ b := fun c hc => (closesD_mem hc).2.1
  refine ⟨evL_order hs (closesD_order hr), fun i y hy h1 => ?_, fun i y hy h1 => ?_, by rw [nE_filter, evL_edges hle, List.length_map], evL_closes⟩
  · have h2 := filter_at (p := fun x : PEv => !x.1) hy (by simp [h1])
    rw [evL_edges hle, List.getElem?_map] at h2
    obtain ⟨o, h3, h4⟩ := Option.map_eq_some_iff.1 h2
    have h5 : s[nE ((evL s (closesD a b l) b).take i)]? = some o := by
      have hp : tw b s <+: s := List.takeWhile_prefix _
      obtain ⟨r, hr⟩ := hp
      have h6 : (tw b s ++ r)[nE ((evL s (closesD a b l) b).take i)]? = some o := by
        exact (List.getElem?_append_left (List.getElem?_eq_some_iff.1 h3).1).trans h3
      rw [hr] at h6; exact h6
    exact ⟨o, h5, h4.symm, (tw_le o (List.mem_of_getElem? h3)).1⟩
  · rcases evL_mem (List.mem_of_getElem? hy) with ⟨o, -, rfl⟩ | ⟨c, hc, rfl⟩
    · cases h1
    · obtain ⟨h2, h3, sl, h4, h5⟩ := closesD_mem hc
      have h6 := rightA_mem hr _ h4
      exact ⟨c.1, c.2, sl, rfl, slideV_at hr h4, h6.2.1, h6.2.2, h5, by omega, by omega, h3⟩
theorem EvFacts.next {a b : Int} {l : List Slt} {s : List Out} {evs : List PEv} (h : EvFacts a b l s evs) {i : Nat} {x y : PEv} (hx : evs[i]? = some x) (hy : evs[i + 1]? = some y) : Rv x y := by
  obtain ⟨h1, e1⟩ := List.getElem?_eq_some_iff.1 hx
  obtain ⟨h2, e2⟩ := List.getElem?_eq_some_iff.1 hy
  have := List.pairwise_iff_getElem.1 h.ord i (i + 1) h1 h2 (by omega)
  rw [e1, e2] at this
  exact this
theorem nE_take {evs : List PEv} {i : Nat} {y : PEv} (hy : evs[i]? = some y) : nE (evs.take (i + 1)) = nE (evs.take i) + (if y.1 = true then 0 else 1) := by
  rw [List.take_add_one, hy, nE_app]
  cases h : y.1 <;> simp [nE, h]
end Go.Proofs.Ythhmmjpgefinmaa
