/- rows of edges in memory that are turned in place; the insertion sort -/
import Derived.Test.YtfdajignnnhnmaaSortP
namespace Go.Proofs.Ytfdajignnnhnmaa
set_option linter.unusedVariables false
set_option linter.unusedSimpArgs false
open Go.RowKit Go.Shelf
attribute [local go_sem] Oper.semAt_some

theorem ecs_set : ∀ (l : List Edg) (k : Nat) (E : Edg), ecs (l.set k E) = (((((ecs l).set (k * 5) (.string E.f)).set (k * 5 + 1) (.string E.t)).set (k * 5 + 2) (.string E.l)).set (k * 5 + 3) (.int .i64 E.tm)).set (k * 5 + 4) E.v
  | [], k, E => by simp [ecs]
  | y :: l, 0, E => by simp [ecs]
  | y :: l, k + 1, E => by
    rw [show (k + 1) * 5 = k * 5 + 5 by omega, show k * 5 + 5 + 1 = (k * 5 + 1) + 5 by omega, show k * 5 + 5 + 2 = (k * 5 + 2) + 5 by omega, show k * 5 + 5 + 3 = (k * 5 + 3) + 5 by omega, show k * 5 + 5 + 4 = (k * 5 + 4) + 5 by omega]
    simp only [List.set_cons_succ, ecs, ecs_set l k E]
theorem own_set {W : World} {base g n c size j : Nat} {e : TypeId} {xs : List Value} (u : Value) (h : W.ownsRow base e size (.slice (some ⟨g, 0, none⟩) n c) n xs) : (W.setCell ⟨g, j, none⟩ u).ownsRow base e size (.slice (some ⟨g, 0, none⟩) n c) n (xs.set j u) := by
  obtain ⟨h1, h2⟩ := h
  refine ⟨by rw [List.length_set]; exact h1, ?_⟩
  rcases h2 with ⟨h, -⟩ | ⟨g', cap, cur, he, hb, hh, hc, hm, hs, ht⟩
  · cases h
  · cases he
    refine .inr ⟨g, c, cur.setIfInBounds j u, rfl, hb, heap_setCell_at W g j u cur e (0, 0) hh, hc, hm, by simpa using hs, ?_⟩
    rw [Array.toList_setIfInBounds, List.take_set, ht]
theorem own_froz {W : World} {base g n n' c size j : Nat} {e : TypeId} {xs : List Value} (h : W.ownsRow base e size (.slice (some ⟨g, 0, none⟩) n c) n' xs) : W.frozen? ⟨g, j, none⟩ = false := by
  rcases h.2 with ⟨h, -⟩ | ⟨g', cap, cur, he, hb, hh, -⟩
  · cases h
  · cases he; simp [World.frozen?, hh]
/-- block g holds the row L, to be turned in place -/
structure In (W : World) (g n c : Nat) (L : List Edg) : Prop where
  own : W.ownsRow 0 27 5 (.slice (some ⟨g, 0, none⟩) n c) n (ecs L)
  isE : ∀ E ∈ L, IsE E
theorem In.len {W : World} {g n c : Nat} {L : List Edg} (h : In W g n c L) : L.length = n := by
  have := h.own.1; rw [ecs_len] at this; omega
theorem In.lt {W : World} {g n c : Nat} {L : List Edg} (h : In W g n c L) : g < W.heap.size := (h.own.lt g rfl).2
theorem In.cap {W : World} {g n c : Nat} {L : List Edg} (h : In W g n c L) : n ≤ c ∧ c ≤ maxLen := by
  rcases h.own.2 with ⟨h, -⟩ | ⟨g', cap, cur, he, hb, hh, h1, h2, -⟩
  · cases h
  · cases he; exact ⟨h1, h2⟩
theorem In.fr {S : Nat → Prop} {W W' : World} {g n c : Nat} {L : List Edg} (h : In W g n c L) (hf : Fr S W W') (hS : ¬ S g) : In W' g n c L :=
  ⟨hf.ownsRow h.own (fun k hk => by cases hk; exact hS), h.isE⟩
theorem In.g {W W' : World} {g n c : Nat} {L : List Edg} (h : In W g n c L) (hg : G W W') : In W' g n c L := h.fr (hg.fr (fun _ => False)) (fun h => h)
theorem In.at {W : World} {g n c : Nat} {L : List Edg} (h : In W g n c L) {k : Nat} (hk : k < n) :
    W.cell? ⟨g, k * 5, none⟩ = some (.string (eat L k).f) ∧ W.cell? ⟨g, k * 5 + 1, none⟩ = some (.string (eat L k).t) ∧ W.cell? ⟨g, k * 5 + 2, none⟩ = some (.string (eat L k).l) ∧ W.cell? ⟨g, k * 5 + 3, none⟩ = some (.int .i64 (eat L k).tm) ∧ W.cell? ⟨g, k * 5 + 4, none⟩ = some (eat L k).v := by
  obtain ⟨a, b, d, e, f⟩ := ecs_get (eat_get (L := L) (k := k) (by rw [h.len]; exact hk))
  have c0 := h.own.cells (g := g) rfl _ _ a
  have c1 := h.own.cells (g := g) rfl _ _ b
  have c2 := h.own.cells (g := g) rfl _ _ d
  have c3 := h.own.cells (g := g) rfl _ _ e
  have c4 := h.own.cells (g := g) rfl _ _ f
  rw [addr_add, Nat.zero_add] at c0 c1 c2 c3 c4
  exact ⟨c0, c1, c2, c3, c4⟩
theorem In.eIs {W : World} {g n c : Nat} {L : List Edg} (h : In W g n c L) {k : Nat} (hk : k < n) : IsE (eat L k) :=
  h.isE _ (List.mem_of_getElem? (eat_get (by rw [h.len]; exact hk)))
theorem In.froz {W : World} {g n c : Nat} {L : List Edg} (h : In W g n c L) (j : Nat) : W.frozen? ⟨g, j, none⟩ = false := own_froz h.own
/-- five cells are written -/
def put5 (W : World) (g k : Nat) (E : Edg) : World := ((((W.setCell ⟨g, k * 5, none⟩ (.string E.f)).setCell ⟨g, k * 5 + 1, none⟩ (.string E.t)).setCell ⟨g, k * 5 + 2, none⟩ (.string E.l)).setCell ⟨g, k * 5 + 3, none⟩ (.int .i64 E.tm)).setCell ⟨g, k * 5 + 4, none⟩ E.v
theorem In.put {W : World} {g n c : Nat} {L : List Edg} (h : In W g n c L) (k : Nat) (E : Edg) (hE : IsE E) : In (put5 W g k E) g n c (L.set k E) := by
  refine ⟨?_, fun x hx => ?_⟩
  · unfold put5
    rw [ecs_set]
    exact own_set _ (own_set _ (own_set _ (own_set _ (own_set _ h.own))))
  · rcases List.mem_or_eq_of_mem_set hx with h1 | h1
    · exact h.isE x h1
    · rw [h1]; exact hE
theorem put5_fr (W : World) (g k : Nat) (E : Edg) : Fr (fun q => q = g) W (put5 W g k E) :=
  (((((Fr.refl (fun q => q = g) W).setCell (p := ⟨g, k * 5, none⟩) (.inl rfl) _).setCell (p := ⟨g, k * 5 + 1, none⟩) (.inl rfl) _).setCell (p := ⟨g, k * 5 + 2, none⟩) (.inl rfl) _).setCell (p := ⟨g, k * 5 + 3, none⟩) (.inl rfl) _).setCell (p := ⟨g, k * 5 + 4, none⟩) (.inl rfl) _
theorem In.swap {W : World} {g n c : Nat} {L : List Edg} (h : In W g n c L) {i j : Nat} (hi : i < n) (hj : j < n) : In (put5 (put5 W g i (eat L j)) g j (eat L i)) g n c (eswp L i j) :=
  (h.put i _ (h.eIs hj)).put j _ (h.eIs hi)
theorem swap_fr (W : World) (g i j : Nat) (E F : Edg) : Fr (fun q => q = g) W (put5 (put5 W g i E) g j F) := (put5_fr W g i E).trans (put5_fr _ g j F) (fun _ _ h => h)
theorem In.stab {W : World} {g n c a b : Nat} {L M : List Edg} (hs : Stab a b L M) (h : ∀ E ∈ L, IsE E) : ∀ E ∈ M, IsE E := fun E hE => h E (hs.mem.1 hE)
/-- the function that compares -/
abbrev CMPF : Value := .func (.func 24) #[] #[]
theorem ecmpV_any (A B : Edg) (w : World) (hA : IsE A) (hB : IsE B) : ∃ pa na ca pb nb cb, A.v = .slice pa na ca ∧ B.v = .slice pb nb cb ∧ Calls Try.prog 24 #[.agg #[.string A.f, .string A.t, .string A.l, .int .i64 A.tm, .slice pa na ca], .agg #[.string B.f, .string B.t, .string B.l, .int .i64 B.tm, .slice pb nb cb]] w fun e w' => e = .returned (.int .i64 (ecmp A B)) ∧ G w w' := by
  have h := ecmp_any A B w hA hB
  obtain ⟨pa, na, ca, ha⟩ := hA
  obtain ⟨pb, nb, cb, hb⟩ := hB
  unfold ev at h
  rw [ha, hb] at h
  exact ⟨pa, na, ca, pb, nb, cb, ha, hb, h⟩
end Go.Proofs.Ytfdajignnnhnmaa
