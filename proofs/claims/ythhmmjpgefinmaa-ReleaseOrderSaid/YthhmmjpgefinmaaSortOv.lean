/- laid together: SortOv -/
import Derived.Test.YthhmmjpgefinmaaSortEs
set_option maxRecDepth 10000
/- props, edges, rows of edges that are written over -/
namespace Go.Proofs.Ythhmmjpgefinmaa
set_option linter.unusedVariables false
set_option linter.unusedSimpArgs false
open Go.RowKit Go.Shelf
attribute [local go_sem] Oper.semAt_some

/-- a slice of n elements that lies in a block from base on, whatever it holds -/
def Room (W : World) (base : Nat) (e : TypeId) (size : Nat) (v : Value) (n : Nat) : Prop :=
  (v = .slice none 0 0 ∧ n = 0) ∨ ∃ g c cur, v = .slice (some ⟨g, 0, none⟩) n c ∧ base ≤ g ∧ W.heap[g]? = some (.cells cur e (0, 0)) ∧ cur.size = c * size ∧ n ≤ c ∧ c ≤ maxLen
theorem room_of {W : World} {base : Nat} {e : TypeId} {size n : Nat} {v : Value} {xs : List Value} (h : W.ownsRow base e size v n xs) : Room W base e size v n := by
  rcases h.2 with h | ⟨g, c, cur, h1, h2, h3, h4, h5, h6, h7⟩
  · exact .inl h
  · exact .inr ⟨g, c, cur, h1, h2, h3, h6, h4, h5⟩
theorem Room.mono {W : World} {base base' : Nat} {e : TypeId} {size n : Nat} {v : Value} (h : Room W base e size v n) (hb : base' ≤ base) : Room W base' e size v n := by
  rcases h with h | ⟨g, c, cur, h1, h2, h3⟩
  · exact .inl h
  · exact .inr ⟨g, c, cur, h1, Nat.le_trans hb h2, h3⟩
/-- blocks keep their kind and their size -/
def Keeps (W W' : World) : Prop := ∀ (g : Nat) (cur : Array Value) (e : TypeId), W.heap[g]? = some (.cells cur e (0, 0)) → ∃ cur', W'.heap[g]? = some (.cells cur' e (0, 0)) ∧ cur'.size = cur.size
theorem Keeps.refl (W : World) : Keeps W W := fun g cur e h => ⟨cur, h, rfl⟩
theorem Keeps.trans {A B C : World} (h : Keeps A B) (k : Keeps B C) : Keeps A C := fun g cur e hg => by
  obtain ⟨c1, h1, h2⟩ := h g cur e hg
  obtain ⟨c2, h3, h4⟩ := k g c1 e h1
  exact ⟨c2, h3, h4.trans h2⟩
theorem Keeps.g {A B : World} (h : G A B) : Keeps A B := fun g cur e hg => ⟨cur, (h.block (heap_lt hg)).trans hg, rfl⟩
theorem Keeps.set {A : World} (g j : Nat) (v : Value) : Keeps A (A.setCell ⟨g, j, none⟩ v) := fun k cur e hk => by
  by_cases h : k = g
  · subst h; exact ⟨_, heap_setCell_at A k j v cur e (0, 0) hk, by simp⟩
  · exact ⟨cur, (Below.heap_setCell A ⟨g, j, none⟩ v k h).trans hk, rfl⟩
theorem Room.keeps {W W' : World} {base : Nat} {e : TypeId} {size n : Nat} {v : Value} (h : Room W base e size v n) (hk : Keeps W W') : Room W' base e size v n := by
  rcases h with h | ⟨g, c, cur, h1, h2, h3, h4, h5⟩
  · exact .inl h
  · obtain ⟨cur', h6, h7⟩ := hk g cur e h3
    exact .inr ⟨g, c, cur', h1, h2, h6, h7.trans h4, h5⟩
theorem room_cell {W : World} {g c k j size : Nat} {cur : Array Value} {e : TypeId} (h : W.heap[g]? = some (.cells cur e (0, 0))) (hs : cur.size = c * size) (hk : k < c) (hj : j < size) : ∃ u, W.cell? ⟨g, k * size + j, none⟩ = some u := by
  have hlt : k * size + j < cur.size := by
    rw [hs]
    have : (k + 1) * size ≤ c * size := Nat.mul_le_mul_right _ hk
    rw [Nat.succ_mul] at this
    omega
  exact ⟨cur[k * size + j], by unfold World.cell?; rw [h]; simp [hlt]⟩
theorem room_froz {W : World} {g : Nat} {cur : Array Value} {e : TypeId} (h : W.heap[g]? = some (.cells cur e (0, 0))) (j : Nat) : W.frozen? ⟨g, j, none⟩ = false := by unfold World.frozen?; rw [h]; simp
theorem room_apart {W : World} {base base' g : Nat} {v u : Value} {n m : Nat} {xs : List Value} (h : Room W base 105 4 v n) (hr : W.ownsRow base' 51 5 u m xs) (hg : u.ownBlock = some g) : ¬ v.ownBlock = some g := by
  intro hk
  obtain ⟨c2, h2⟩ := own_type hr hg
  rcases h with ⟨rfl, -⟩ | ⟨g', c, cur, rfl, -, h1, -⟩
  · cases hk
  · cases hk
    rw [h1] at h2
    simp at h2
theorem Room.isS {W : World} {base : Nat} {e : TypeId} {size n : Nat} {v : Value} (h : Room W base e size v n) : ∃ p c, v = .slice p n c := by
  rcases h with ⟨rfl, rfl⟩ | ⟨g, c, cur, rfl, -⟩
  · exact ⟨_, _, rfl⟩
  · exact ⟨_, _, rfl⟩
theorem Room.base {W : World} {base : Nat} {e : TypeId} {size n : Nat} {v : Value} (h : Room W base e size v n) {q : Nat} (hq : v.ownBlock = some q) : base ≤ q := by
  rcases h with ⟨rfl, -⟩ | ⟨g, c, cur, rfl, hb, -⟩
  · cases hq
  · cases hq; exact hb
end Go.Proofs.Ythhmmjpgefinmaa
