/- laid together: SortRf -/
import Derived.Test.YthhmmjpgefinmaaSortEs
import Derived.Test.YthhmmjpgefinmaaSortUq
set_option maxRecDepth 10000
/- rows of edges in order: the document's -/
namespace Go.Proofs.Ythhmmjpgefinmaa
set_option linter.unusedVariables false
set_option linter.unusedSimpArgs false
open Go.RowKit Go.Shelf
attribute [local go_sem] Oper.semAt_some

theorem ecs_take : ∀ (l : List Edg) (n : Nat), (ecs l).take (n * 5) = ecs (l.take n)
  | [], n => by simp [ecs]
  | y :: l, 0 => by simp [ecs]
  | y :: l, n + 1 => by
    rw [show (n + 1) * 5 = n * 5 + 5 by omega]
    simp only [ecs, List.take_succ_cons, ecs_take l n]
theorem rdrE_drop {W : World} {p : Option Addr} {m c j : Nat} {ks : List Edg} (h : Rdr W 5 (.slice p m c) m (ecs ks)) (hc : m ≤ c) (hj : j ≤ m) :
    Rdr W 5 (.slice (if c = j then p else Option.map (fun x => x.add (j * 5)) p) (m - j) (c - j)) (m - j) (ecs (ks.drop j)) := by
  have hl := h.1
  rw [ecs_len] at hl
  refine ⟨by rw [ecs_len, List.length_drop]; omega, _, _, rfl, fun h0 => ?_⟩
  obtain ⟨b, o, rfl, hcell⟩ := h.one (by omega)
  refine ⟨b, o + j * 5, by rw [if_neg (by omega)]; simp [addr_add], fun i u hu => ?_⟩
  have e : ecs ks = ecs (ks.take j) ++ ecs (ks.drop j) := by rw [← ecs_app, List.take_append_drop]
  have := hcell (j * 5 + i) u (by
    rw [e, List.getElem?_append_right (by rw [ecs_len, List.length_take]; omega), ecs_len, List.length_take]
    rw [show j * 5 + i - min j ks.length * 5 = i by omega]
    exact hu)
  rwa [← Nat.add_assoc] at this
theorem own_lit5 (w : World) (E : Edg) : (w.alloc (.cells (ecs [E]).toArray 51)).ownsRow w.heap.size 51 5 (.slice (some ⟨w.heap.size, 0, none⟩) 1 1) 1 (ecs [E]) :=
  ⟨rfl, .inr ⟨w.heap.size, 1, _, rfl, Nat.le_refl _, alloc_new w _, Nat.le_refl _, by unfold maxLen; omega, rfl, rfl⟩⟩
theorem rdrE_take {W : World} {p : Option Addr} {m c j : Nat} {ks : List Edg} (h : Rdr W 5 (.slice p m c) m (ecs ks)) (hj : j ≤ m) : Rdr W 5 (.slice p j c) j (ecs (ks.take j)) := by
  have hl := h.1
  rw [ecs_len] at hl
  refine ⟨by rw [ecs_len, List.length_take]; omega, _, _, rfl, fun h0 => ?_⟩
  obtain ⟨b, o, rfl, hcell⟩ := h.one (by omega)
  refine ⟨b, o, rfl, fun i u hu => hcell i u ?_⟩
  rw [← ecs_take] at hu
  rw [List.getElem?_take] at hu
  split at hu
  · exact hu
  · cases hu
/-- what the document's sort shows -/
def RSorted (w : World) (n : Nat) (l : List Edg) (e : Ending) (w' : World) : Prop := ∃ u R, e = .returned u ∧ w'.ownsRow w.heap.size 51 5 u n (ecs R) ∧ Srt 0 n R ∧ (∀ k, (R.map outE).filter (isO k) = (l.map outE).filter (isO k)) ∧ (∀ E ∈ R, EdgAt w' E) ∧ G w w'
end Go.Proofs.Ythhmmjpgefinmaa
