/- laid together: SortP SortM SortY SortZ -/
import Derived.Test.YthhmmjpgefinmaaEdgeT
import Derived.Lib.SmallJoins
import Derived.Test.YthhmmjpgefinmaaEdgeX
set_option maxRecDepth 10000
/- rows of edges in order: the plain law of a stable sort -/
namespace Go.Proofs.Ythhmmjpgefinmaa
set_option linter.unusedVariables false
set_option linter.unusedSimpArgs false
open Go.RowKit Go.Shelf

/-- an edge does not stand behind another one -/
def eLe (a b : Edg) : Prop := ecmp a b ≤ 0
def eLt (a b : Edg) : Prop := ecmp a b < 0
theorem eLe_trans {a b c : Edg} (h : eLe a b) (k : eLe b c) : eLe a c := by
  unfold eLe at *
  rw [ecmp_key] at *
  have := good_key.tr _ _ _ h k
  omega
theorem eLe_lt {a b c : Edg} (h : eLe a b) (k : eLt b c) : eLt a c := by
  unfold eLe eLt at *
  rw [ecmp_key] at *
  have := good_key.tr _ _ _ h (Int.le_of_lt k)
  omega
theorem eLt_le {a b c : Edg} (h : eLt a b) (k : eLe b c) : eLt a c := by
  unfold eLe eLt at *
  rw [ecmp_key] at *
  have := good_key.tr _ _ _ (Int.le_of_lt h) k
  omega
theorem eLt_eLe {a b : Edg} (h : eLt a b) : eLe a b := by unfold eLt at h; unfold eLe; omega
theorem eLe_refl (a : Edg) : eLe a a := by unfold eLe; rw [ecmp_key, good_key.self]; omega
theorem not_lt {a b : Edg} (h : ¬ eLt a b) : eLe b a := by
  unfold eLe eLt at *
  rw [ecmp_key] at *
  have := good_key.anti (ekey a) (ekey b)
  omega
theorem lt_not {a b : Edg} (h : eLe b a) : ¬ eLt a b := by
  unfold eLe eLt at *
  rw [ecmp_key] at *
  have := good_key.anti (ekey a) (ekey b)
  omega
theorem eLt_key {a b : Edg} (h : eLt a b) : ekey a ≠ ekey b := by
  intro e
  unfold eLt at h
  rw [ecmp_key, e, good_key.self] at h
  omega
/-- the edge at a place -/
def eat (L : List Edg) (k : Nat) : Edg := L.getD k zeroE
def eswp (L : List Edg) (i j : Nat) : List Edg := (L.set i (eat L j)).set j (eat L i)
theorem eswp_len (L : List Edg) (i j : Nat) : (eswp L i j).length = L.length := by simp [eswp]
theorem eat_get {L : List Edg} {k : Nat} (h : k < L.length) : L[k]? = some (eat L k) := by simp [eat, List.getD_eq_getElem?_getD, h]
theorem eat_of {L : List Edg} {k : Nat} {E : Edg} (h : L[k]? = some E) : eat L k = E := by simp [eat, List.getD_eq_getElem?_getD, h]
theorem eswp_at {L : List Edg} {i j : Nat} (hi : i < L.length) (hj : j < L.length) (k : Nat) : eat (eswp L i j) k = if k = j then eat L i else if k = i then eat L j else eat L k := by
  unfold eswp
  simp only [eat, List.getD_eq_getElem?_getD, List.getElem?_set, List.length_set]
  by_cases h1 : k = j
  · subst h1; simp [hj]
  · by_cases h2 : k = i
    · subst h2; simp [h1, Ne.symm h1, hi]
    · simp [h1, h2, Ne.symm h1, Ne.symm h2]
def isK (k : EKey) (E : Edg) : Bool := decide (kcmp (ekey E) k = 0)
theorem isK_self (E : Edg) : isK (ekey E) E = true := by simp [isK, good_key.self]
theorem isK_eq {k : EKey} {E : Edg} (h : isK k E = true) : ekey E = k := by
  unfold isK at h; exact (good_key.eq _ _).1 (of_decide_eq_true h)
/-- between a and b the row has changed, and no two that are alike have changed places -/
structure Stab (a b : Nat) (L L' : List Edg) : Prop where
  len : L'.length = L.length
  out : ∀ i, (i < a ∨ b ≤ i) → L'[i]? = L[i]?
  filt : ∀ k, L'.filter (isK k) = L.filter (isK k)
theorem Stab.refl (a b : Nat) (L : List Edg) : Stab a b L L := ⟨rfl, fun _ _ => rfl, fun _ => rfl⟩
theorem Stab.trans {a b : Nat} {L M N : List Edg} (h : Stab a b L M) (k : Stab a b M N) : Stab a b L N :=
  ⟨k.len.trans h.len, fun i hi => (k.out i hi).trans (h.out i hi), fun x => (k.filt x).trans (h.filt x)⟩
theorem Stab.mono {a b a' b' : Nat} {L M : List Edg} (h : Stab a b L M) (ha : a' ≤ a) (hb : b ≤ b') : Stab a' b' L M :=
  ⟨h.len, fun i hi => h.out i (by omega), h.filt⟩
theorem Stab.mem {a b : Nat} {L M : List Edg} (h : Stab a b L M) {E : Edg} : E ∈ M ↔ E ∈ L := by
  have hf := h.filt (ekey E)
  constructor
  · intro hE
    have : E ∈ M.filter (isK (ekey E)) := List.mem_filter.2 ⟨hE, isK_self E⟩
    rw [hf] at this
    exact (List.mem_filter.1 this).1
  · intro hE
    have : E ∈ L.filter (isK (ekey E)) := List.mem_filter.2 ⟨hE, isK_self E⟩
    rw [← hf] at this
    exact (List.mem_filter.1 this).1
/-- what stands between a and b -/
def seg (a b : Nat) (L : List Edg) : List Edg := (L.drop a).take (b - a)
theorem seg_split (a b : Nat) (L : List Edg) (hab : a ≤ b) : L = L.take a ++ (seg a b L ++ L.drop b) := by
  unfold seg
  have : (L.drop a).drop (b - a) = L.drop b := by rw [List.drop_drop]; congr 1; omega
  rw [← this, List.take_append_drop, List.take_append_drop]
theorem seg_get {a b : Nat} {L : List Edg} {i : Nat} (h1 : a ≤ i) (h2 : i < b) : (seg a b L)[i - a]? = L[i]? := by
  unfold seg
  rw [List.getElem?_take, if_pos (by omega), List.getElem?_drop]; congr 1; omega
theorem Stab.sg {a b : Nat} {L M : List Edg} (h : Stab a b L M) (hab : a ≤ b) (hb : b ≤ L.length) (k : EKey) : (seg a b M).filter (isK k) = (seg a b L).filter (isK k) := by
  have h1 : M.take a = L.take a := by
    apply List.ext_getElem?
    intro i
    rw [List.getElem?_take, List.getElem?_take]
    split
    · exact h.out i (.inl ‹_›)
    · rfl
  have h2 : M.drop b = L.drop b := by
    apply List.ext_getElem?
    intro i
    rw [List.getElem?_drop, List.getElem?_drop]
    exact h.out _ (.inr (by omega))
  have hf := h.filt k
  rw [seg_split a b M hab, seg_split a b L hab, h1, h2] at hf
  simp only [List.filter_append] at hf
  exact List.append_cancel_right (List.append_cancel_left hf)
theorem seg_mem {a b : Nat} {L : List Edg} {E : Edg} (hb : b ≤ L.length) (h : E ∈ seg a b L) : ∃ i, a ≤ i ∧ i < b ∧ eat L i = E := by
  obtain ⟨j, hj, he⟩ := List.getElem_of_mem h
  unfold seg at hj he
  rw [List.length_take, List.length_drop] at hj
  refine ⟨a + j, by omega, by omega, ?_⟩
  apply eat_of
  rw [List.getElem_take, List.getElem_drop] at he
  rw [List.getElem?_eq_getElem (by omega), he]
theorem Stab.back {a b : Nat} {L M : List Edg} (h : Stab a b L M) (hab : a ≤ b) (hb : b ≤ L.length) {i : Nat} (h1 : a ≤ i) (h2 : i < b) : ∃ j, a ≤ j ∧ j < b ∧ eat M i = eat L j := by
  have hm : eat M i ∈ seg a b M := by
    have := seg_get (L := M) h1 h2
    exact List.mem_of_getElem? (this.trans (eat_get (by rw [h.len]; omega)))
  have : eat M i ∈ (seg a b M).filter (isK (ekey (eat M i))) := List.mem_filter.2 ⟨hm, isK_self _⟩
  rw [h.sg hab hb] at this
  obtain ⟨j, hj1, hj2, hj3⟩ := seg_mem hb (List.mem_filter.1 this).1
  exact ⟨j, hj1, hj2, hj3.symm⟩
theorem Stab.at {a b : Nat} {L M : List Edg} (h : Stab a b L M) {i : Nat} (hi : i < a ∨ b ≤ i) : eat M i = eat L i := by
  unfold eat
  rw [List.getD_eq_getElem?_getD, List.getD_eq_getElem?_getD, h.out i hi]
/-- two neighbours that are unlike change places -/
theorem Stab.swap {L : List Edg} {i : Nat} (hi : i + 1 < L.length) (hk : ekey (eat L i) ≠ ekey (eat L (i + 1))) : Stab i (i + 2) L (eswp L (i + 1) i) := by
  refine ⟨eswp_len _ _ _, fun j hj => ?_, fun k => ?_⟩
  · unfold eswp
    rw [List.getElem?_set_ne (by omega), List.getElem?_set_ne (by omega)]
  · have e : L = L.take i ++ (eat L i :: eat L (i + 1) :: L.drop (i + 2)) := by
      have h1 : L.drop i = eat L i :: L.drop (i + 1) := by
        rw [List.drop_eq_getElem_cons (by omega)]
        congr 1
        have := eat_get (L := L) (k := i) (by omega)
        rw [List.getElem?_eq_getElem (by omega)] at this
        exact Option.some.inj this
      have h2 : L.drop (i + 1) = eat L (i + 1) :: L.drop (i + 2) := by
        rw [List.drop_eq_getElem_cons (by omega)]
        congr 1
        have := eat_get (L := L) (k := i + 1) (by omega)
        rw [List.getElem?_eq_getElem (by omega)] at this
        exact Option.some.inj this
      rw [← h2, ← h1, List.take_append_drop]
    have e2 : eswp L (i + 1) i = L.take i ++ (eat L (i + 1) :: eat L i :: L.drop (i + 2)) := by
      have hl : (L.take i).length = i := by rw [List.length_take]; omega
      unfold eswp
      generalize hx : eat L i = x at *
      generalize hy : eat L (i + 1) = y at *
      generalize hA : L.take i = A at *
      generalize hB : L.drop (i + 2) = B at *
      rw [e]
      rw [List.set_append_right _ _ (by omega), List.set_append_right _ _ (by omega)]
      congr 1
      rw [hl, Nat.sub_self, Nat.add_sub_cancel_left]
      rfl
    rw [e2]
    conv => rhs; rw [e]
    simp only [List.filter_append, List.filter_cons]
    congr 1
    by_cases h1 : isK k (eat L i) = true
    · have h2 : isK k (eat L (i + 1)) = false := by
        cases h : isK k (eat L (i + 1))
        · rfl
        · exact absurd ((isK_eq h1).trans (isK_eq h).symm) hk
      simp [h1, h2]
    · simp [h1]
/-- between a and b none stands ahead of one ahead -/
def Srt (a b : Nat) (L : List Edg) : Prop := ∀ i j, a ≤ i → i < j → j < b → eLe (eat L i) (eat L j)
theorem Srt.sub {a b a' b' : Nat} {L : List Edg} (h : Srt a b L) (ha : a ≤ a') (hb : b' ≤ b) : Srt a' b' L := fun i j h1 h2 h3 => h i j (by omega) h2 (by omega)
theorem Srt.le {a b : Nat} {L : List Edg} (h : Srt a b L) {i j : Nat} (h1 : a ≤ i) (h2 : i ≤ j) (h3 : j < b) : eLe (eat L i) (eat L j) := by
  rcases Nat.lt_or_ge i j with h4 | h4
  · exact h i j h1 h4 h3
  · rw [show i = j by omega]; exact eLe_refl _
theorem Srt.of {a b : Nat} {L M : List Edg} (h : Srt a b L) (he : ∀ i, a ≤ i → i < b → eat M i = eat L i) : Srt a b M := fun i j h1 h2 h3 => by
  rw [he i h1 (by omega), he j (by omega) h3]; exact h i j h1 h2 h3
/-- insertion: all between a and i are in order, but for the one at j -/
def Ins (a i j : Nat) (L : List Edg) : Prop := ∀ p q, a ≤ p → p < q → q ≤ i → q ≠ j → eLe (eat L p) (eat L q)
theorem Ins.start {a i : Nat} {L : List Edg} (h : Srt a i L) : Ins a i i L := fun p q h1 h2 h3 h4 => h p q h1 h2 (by omega)
theorem Ins.step {a i j : Nat} {L : List Edg} (h : Ins a i j L) (hj : a < j) (hji : j ≤ i) (hi : i < L.length) (hlt : eLt (eat L j) (eat L (j - 1))) : Ins a i (j - 1) (eswp L j (j - 1)) := by
  intro p q h1 h2 h3 h4
  rw [eswp_at (by omega) (by omega), eswp_at (by omega) (by omega)]
  rw [if_neg h4]
  by_cases e1 : q = j
  · rw [if_pos e1]
    by_cases e2 : p = j - 1
    · rw [if_pos e2]; exact eLt_eLe hlt
    · rw [if_neg e2, if_neg (by omega)]
      exact h p (j - 1) h1 (by omega) (by omega) (by omega)
  · rw [if_neg e1]
    by_cases e2 : p = j - 1
    · rw [if_pos e2]; exact h j q (by omega) (by omega) h3 e1
    · rw [if_neg e2]
      by_cases e3 : p = j
      · rw [if_pos e3]; exact h (j - 1) q (by omega) (by omega) h3 e1
      · rw [if_neg e3]; exact h p q h1 h2 h3 e1
theorem Ins.stop {a i j : Nat} {L : List Edg} (h : Ins a i j L) (hj : a ≤ j) (hji : j ≤ i) (hend : j = a ∨ ¬ eLt (eat L j) (eat L (j - 1))) : Srt a (i + 1) L := by
  intro p q h1 h2 h3
  by_cases e : q = j
  · subst e
    rcases hend with h4 | h4
    · omega
    · have h5 := not_lt h4
      rcases Nat.lt_or_ge p (q - 1) with h6 | h6
      · exact eLe_trans (h p (q - 1) h1 h6 (by omega) (by omega)) h5
      · rw [show p = q - 1 by omega]; exact h5
  · exact h p q h1 h2 (by omega) e
end Go.Proofs.Ythhmmjpgefinmaa

/- rows of edges in memory that are turned in place; the insertion sort -/
namespace Go.Proofs.Ythhmmjpgefinmaa
set_option linter.unusedVariables false
set_option linter.unusedSimpArgs false
open Go.RowKit Go.Shelf
attribute [local go_sem] Oper.semAt_some

theorem ecs_set : ∀ (l : List Edg) (k : Nat) (E : Edg), ecs (l.set k E) = (((((ecs l).set (k * 5) (.string E.f)).set (k * 5 + 1) (.string E.t)).set (k * 5 + 2) (.string E.l)).set (k * 5 + 3) (.int .i64 E.tm)).set (k * 5 + 4) E.v
  | [], k, E => by simp [ecs]
  | y :: l, 0, E => by simp [ecs]
  | y :: l, k + 1, E => by
    rw [show (k + 1) * 5 = k * 5 + 5 by omega, show k * 5 + 5 + 1 = (k * 5 + 1) + 5 by omega, show k * 5 + 5 + 2 = (k * 5 + 2) + 5 by omega, show k * 5 + 5 + 3 = (k * 5 + 3) + 5 by omega, show k * 5 + 5 + 4 = (k * 5 + 4) + 5 by omega]
    simp only [List.set_cons_succ, ecs, ecs_set l k E]
theorem own_set {W : World} {base g n c size j : Nat} {e : TypeId} {xs : List Value} (u : Value) (h : W.ownsRow base e size (.slice (some ⟨g, 0, none⟩) n c) n xs) : (W.setCell ⟨g, j, none⟩ u).ownsRow base e size (.slice (some ⟨g, 0, none⟩) n c) n (xs.set j u) := by
  obtain ⟨h1, h2⟩ := h
  refine ⟨by rw [List.length_set]; exact h1, ?_⟩
  rcases h2 with ⟨h, -⟩ | ⟨g', cap, cur, he, hb, hh, hc, hm, hs, ht⟩
  · cases h
  · cases he
    refine .inr ⟨g, c, cur.setIfInBounds j u, rfl, hb, heap_setCell_at W g j u cur e (0, 0) hh, hc, hm, by simpa using hs, ?_⟩
    rw [Array.toList_setIfInBounds, List.take_set, ht]
theorem own_froz {W : World} {base g n n' c size j : Nat} {e : TypeId} {xs : List Value} (h : W.ownsRow base e size (.slice (some ⟨g, 0, none⟩) n c) n' xs) : W.frozen? ⟨g, j, none⟩ = false := by
  rcases h.2 with ⟨h, -⟩ | ⟨g', cap, cur, he, hb, hh, -⟩
  · cases h
  · cases he; simp [World.frozen?, hh]
/-- block g holds the row L, to be turned in place -/
structure In (W : World) (g n c : Nat) (L : List Edg) : Prop where
  own : W.ownsRow 0 51 5 (.slice (some ⟨g, 0, none⟩) n c) n (ecs L)
  isE : ∀ E ∈ L, IsE E
theorem In.len {W : World} {g n c : Nat} {L : List Edg} (h : In W g n c L) : L.length = n := by
  have := h.own.1; rw [ecs_len] at this; omega
theorem In.lt {W : World} {g n c : Nat} {L : List Edg} (h : In W g n c L) : g < W.heap.size := (h.own.lt g rfl).2
theorem In.cap {W : World} {g n c : Nat} {L : List Edg} (h : In W g n c L) : n ≤ c ∧ c ≤ maxLen := by
  rcases h.own.2 with ⟨h, -⟩ | ⟨g', cap, cur, he, hb, hh, h1, h2, -⟩
  · cases h
  · cases he; exact ⟨h1, h2⟩
theorem In.fr {S : Nat → Prop} {W W' : World} {g n c : Nat} {L : List Edg} (h : In W g n c L) (hf : Fr S W W') (hS : ¬ S g) : In W' g n c L :=
  ⟨hf.ownsRow h.own (fun k hk => by cases hk; exact hS), h.isE⟩
theorem In.g {W W' : World} {g n c : Nat} {L : List Edg} (h : In W g n c L) (hg : G W W') : In W' g n c L := h.fr (hg.fr (fun _ => False)) (fun h => h)
theorem In.at {W : World} {g n c : Nat} {L : List Edg} (h : In W g n c L) {k : Nat} (hk : k < n) :
    W.cell? ⟨g, k * 5, none⟩ = some (.string (eat L k).f) ∧ W.cell? ⟨g, k * 5 + 1, none⟩ = some (.string (eat L k).t) ∧ W.cell? ⟨g, k * 5 + 2, none⟩ = some (.string (eat L k).l) ∧ W.cell? ⟨g, k * 5 + 3, none⟩ = some (.int .i64 (eat L k).tm) ∧ W.cell? ⟨g, k * 5 + 4, none⟩ = some (eat L k).v := by
  obtain ⟨a, b, d, e, f⟩ := ecs_get (eat_get (L := L) (k := k) (by rw [h.len]; exact hk))
  have c0 := h.own.cells (g := g) rfl _ _ a
  have c1 := h.own.cells (g := g) rfl _ _ b
  have c2 := h.own.cells (g := g) rfl _ _ d
  have c3 := h.own.cells (g := g) rfl _ _ e
  have c4 := h.own.cells (g := g) rfl _ _ f
  rw [addr_add, Nat.zero_add] at c0 c1 c2 c3 c4
  exact ⟨c0, c1, c2, c3, c4⟩
theorem In.eIs {W : World} {g n c : Nat} {L : List Edg} (h : In W g n c L) {k : Nat} (hk : k < n) : IsE (eat L k) :=
  h.isE _ (List.mem_of_getElem? (eat_get (by rw [h.len]; exact hk)))
theorem In.froz {W : World} {g n c : Nat} {L : List Edg} (h : In W g n c L) (j : Nat) : W.frozen? ⟨g, j, none⟩ = false := own_froz h.own
/-- five cells are written -/
def put5 (W : World) (g k : Nat) (E : Edg) : World := ((((W.setCell ⟨g, k * 5, none⟩ (.string E.f)).setCell ⟨g, k * 5 + 1, none⟩ (.string E.t)).setCell ⟨g, k * 5 + 2, none⟩ (.string E.l)).setCell ⟨g, k * 5 + 3, none⟩ (.int .i64 E.tm)).setCell ⟨g, k * 5 + 4, none⟩ E.v
theorem In.put {W : World} {g n c : Nat} {L : List Edg} (h : In W g n c L) (k : Nat) (E : Edg) (hE : IsE E) : In (put5 W g k E) g n c (L.set k E) := by
  refine ⟨?_, fun x hx => ?_⟩
  · unfold put5
    rw [ecs_set]
    exact own_set _ (own_set _ (own_set _ (own_set _ (own_set _ h.own))))
  · rcases List.mem_or_eq_of_mem_set hx with h1 | h1
    · exact h.isE x h1
    · rw [h1]; exact hE
theorem put5_fr (W : World) (g k : Nat) (E : Edg) : Fr (fun q => q = g) W (put5 W g k E) :=
  (((((Fr.refl (fun q => q = g) W).setCell (p := ⟨g, k * 5, none⟩) (.inl rfl) _).setCell (p := ⟨g, k * 5 + 1, none⟩) (.inl rfl) _).setCell (p := ⟨g, k * 5 + 2, none⟩) (.inl rfl) _).setCell (p := ⟨g, k * 5 + 3, none⟩) (.inl rfl) _).setCell (p := ⟨g, k * 5 + 4, none⟩) (.inl rfl) _
theorem In.swap {W : World} {g n c : Nat} {L : List Edg} (h : In W g n c L) {i j : Nat} (hi : i < n) (hj : j < n) : In (put5 (put5 W g i (eat L j)) g j (eat L i)) g n c (eswp L i j) :=
  (h.put i _ (h.eIs hj)).put j _ (h.eIs hi)
theorem swap_fr (W : World) (g i j : Nat) (E F : Edg) : Fr (fun q => q = g) W (put5 (put5 W g i E) g j F) := (put5_fr W g i E).trans (put5_fr _ g j F) (fun _ _ h => h)
theorem In.stab {W : World} {g n c a b : Nat} {L M : List Edg} (hs : Stab a b L M) (h : ∀ E ∈ L, IsE E) : ∀ E ∈ M, IsE E := fun E hE => h E (hs.mem.1 hE)
/-- the function that compares -/
abbrev CMPF : Value := .func (.func 62) #[] #[]
theorem ecmpV_any (A B : Edg) (w : World) (hA : IsE A) (hB : IsE B) : ∃ pa na ca pb nb cb, A.v = .slice pa na ca ∧ B.v = .slice pb nb cb ∧ Calls Try.prog 62 #[.agg #[.string A.f, .string A.t, .string A.l, .int .i64 A.tm, .slice pa na ca], .agg #[.string B.f, .string B.t, .string B.l, .int .i64 B.tm, .slice pb nb cb]] w fun e w' => e = .returned (.int .i64 (ecmp A B)) ∧ G w w' := by
  have h := ecmp_any A B w hA hB
  obtain ⟨pa, na, ca, ha⟩ := hA
  obtain ⟨pb, nb, cb, hb⟩ := hB
  unfold ev at h
  rw [ha, hb] at h
  exact ⟨pa, na, ca, pb, nb, cb, ha, hb, h⟩
end Go.Proofs.Ythhmmjpgefinmaa

/- rows of edges that are copied; a sort of none -/
namespace Go.Proofs.Ythhmmjpgefinmaa
set_option linter.unusedVariables false
set_option linter.unusedSimpArgs false
open Go.RowKit Go.Shelf
attribute [local go_sem] Oper.semAt_some

theorem infoE : (Try.prog.info? 51).map (fun i => (i.zero, i.size, i.bytes)) = some (some (.agg #[.string ⟨#[]⟩, .string ⟨#[]⟩, .string ⟨#[]⟩, .int .i64 0, .slice none 0 0]), 5, 80) := by kernel_rfl
theorem ecs_one : ∀ (l : List Edg), (∀ E ∈ l, IsE E) → ∀ u ∈ ecs l, u.oneCell' = true
  | [], _, u, h => by cases h
  | E :: l, hl, u, h => by
    simp only [ecs, List.mem_cons] at h
    rcases h with rfl | rfl | rfl | rfl | rfl | h
    · rfl
    · rfl
    · rfl
    · rfl
    · obtain ⟨p, n, c, hv⟩ := hl E (List.mem_cons_self ..)
      rw [hv]; rfl
    · exact ecs_one l (fun F hF => hl F (List.mem_cons_of_mem _ hF)) u h
theorem cloneP_any (l : List Prp) (v : Value) (w : World) (hv : Rdr w 4 v l.length (pcells l)) (hn : l.length ≤ 1000000) :
    Calls Try.prog 55 #[v] w fun e w' => ∃ u, e = .returned u ∧ w'.ownsRow w.heap.size 105 4 u l.length (pcells l) ∧ G w w' := by
  have HV := Lib.hid hv
  obtain ⟨-, p, c, rfl, hl2⟩ := hv
  obtain ⟨i0, hi, hz0, hz1, hz2⟩ := info_parts infoP
  have heq := Lib.run_eql_slice_nil (P := Try.prog) w 49 105 p l.length c 0 0 Try.underlying49
  have HO := Lib.hid (pcells_one l)
  cases p with
  | none =>
    have hl : l = [] := by
      cases l with
      | nil => rfl
      | cons x l =>
        obtain ⟨b, o, hp, -⟩ := hl2 (by simp)
        cases hp
    subst hl
    simp only [Option.isNone_none, List.length_nil] at heq
    clear hl2
    go_enter Try.func55, Try.ntmps55
    go_wp2_with fail
    go_ret
    exact ⟨.slice none 0 0, rfl, World.ownsRow_nil _ _ _ _, G.refl w⟩
  | some a =>
    simp only [Option.isNone_some] at heq
    clear hl2
    go_enter Try.func55, Try.ntmps55
    go_wp2_with (at_builtin; refine wpList_appendR _ rfl _ _ 49 rfl w.heap.size 105 i0 (.agg #[.string ⟨#[]⟩, .int .i64 0, .int .i64 0, .string ⟨#[]⟩]) 4 48 Try.underlying49 hi hz0 hz1 hz2 rfl (by decide) _ 0 [] rfl (World.ownsRow_made w #[] 0 (Nat.le_refl _) (Nat.zero_le _) rfl) (.slice (some a) l.length c) l.length (pcells l) rfl (Rdr.g HV.out ((G.refl w).alloc _)) HO.out (by unfold maxLen; omega) (by omega) (by simp) ?_; intro mp mc w1 hown1 hgrow1 hat1)
    simp only [Nat.zero_add, List.nil_append] at hown1 hat1 ⊢
    have hg1 : G w w1 := ((G.refl w).alloc _).grown hgrow1 (fun k h => by have := Option.some.inj h; simp at this; omega)
    go_wp2_with fail
    go_ret
    exact ⟨_, rfl, hown1, hg1⟩
end Go.Proofs.Ythhmmjpgefinmaa

/- rows of edges in order: the program's -/
namespace Go.Proofs.Ythhmmjpgefinmaa
set_option linter.unusedVariables false
set_option linter.unusedSimpArgs false
open Go.RowKit Go.Shelf
attribute [local go_sem] Oper.semAt_some

/-- an edge whose props lie in a block of their own -/
structure OwnE (W : World) (base : Nat) (E : Edg) : Prop where
  own : W.ownsRow base 105 4 E.v E.ps.length (pcells E.ps)
  n : E.ps.length ≤ 4398046511104
  ps : PSz E.ps
  f : E.f.size ≤ maxLen
  t : E.t.size ≤ maxLen
  l : E.l.size ≤ maxLen
theorem OwnE.at {W : World} {base : Nat} {E : Edg} (h : OwnE W base E) : EdgAt W E := ⟨rdr_of_owns h.own, h.n, h.ps, h.f, h.t, h.l⟩
theorem OwnE.fr {S : Nat → Prop} {W W' : World} {base : Nat} {E : Edg} (h : OwnE W base E) (hf : Fr S W W') (hs : ∀ g, E.v.ownBlock = some g → ¬ S g) : OwnE W' base E := ⟨hf.ownsRow h.own hs, h.n, h.ps, h.f, h.t, h.l⟩
theorem OwnE.g {W W' : World} {base : Nat} {E : Edg} (h : OwnE W base E) (hg : G W W') : OwnE W' base E := h.fr (hg.fr (fun _ => False)) (fun _ _ h => h)
theorem OwnE.isE {W : World} {base : Nat} {E : Edg} (h : OwnE W base E) : IsE E := h.at.isE
theorem own_type {W : World} {base g : Nat} {e : TypeId} {size n : Nat} {v : Value} {xs : List Value} (h : W.ownsRow base e size v n xs) (hg : v.ownBlock = some g) : ∃ cur, W.heap[g]? = some (.cells cur e (0, 0)) := by
  rcases h.2 with ⟨rfl, -⟩ | ⟨g', cap, cur, rfl, -, hh, -⟩
  · cases hg
  · cases hg; exact ⟨cur, hh⟩
theorem apart_ep {W : World} {base base' g : Nat} {E : Edg} {n : Nat} {v : Value} {xs : List Value} (h : OwnE W base E) (hr : W.ownsRow base' 51 5 v n xs) (hg : v.ownBlock = some g) : ∀ k, E.v.ownBlock = some k → k ≠ g := by
  rintro k hk rfl
  obtain ⟨c1, h1⟩ := own_type h.own hk
  obtain ⟨c2, h2⟩ := own_type hr hg
  rw [h1] at h2
  simp at h2
theorem ecs_setv : ∀ (l : List Edg) (k : Nat) (E : Edg) (u : Value), l[k]? = some E → ecs (l.set k (lentE E u)) = (ecs l).set (k * 5 + 4) u
  | [], k, E, u, h => by cases h
  | y :: l, 0, E, u, h => by cases h; rfl
  | y :: l, k + 1, E, u, h => by
    rw [show (k + 1) * 5 + 4 = (k * 5 + 4) + 5 by omega]
    simp only [List.set_cons_succ, ecs]
    rw [ecs_setv l k E u (by simpa using h)]
theorem eat_set {L : List Edg} {k : Nat} {E : Edg} (hk : k < L.length) (q : Nat) : eat (L.set k E) q = if q = k then E else eat L q := by
  unfold eat
  rw [List.getD_eq_getElem?_getD, List.getD_eq_getElem?_getD, List.getElem?_set]
  by_cases h : k = q
  · subst h; simp [hk]
  · simp [h, Ne.symm h]
end Go.Proofs.Ythhmmjpgefinmaa
