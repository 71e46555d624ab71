/- lists of texts that are lent -/
import Derived.Test.YtamhlflacnldfaaDoorNameA
import Derived.Test.YtamhlflacnldfaaDoorReg
import Derived.Laws.BytesArg
namespace Go.Proofs.YtamhlflacnldfaaDoor
set_option linter.unusedVariables false
set_option linter.unusedSimpArgs false
open Go.RowKit Go.Shelf
def markT (k i : Int) : ByteArray := strOfNums [35, k, k / 256, k / 65536, 47, i % 256, i / 256 % 256, i / 65536 % 256]
theorem conv_bytes (w : World) (xs : List Int) (n : Nat) (h : xs.length = n) : (convert 51 9 (.slice (some ⟨w.heap.size, 0, none⟩) n n)).run Tryd.prog (w.alloc (.cells (xs.map (Value.int .u8)).toArray 5)) = .ok (.string (strOfNums xs)) (w.alloc (.cells (xs.map (Value.int .u8)).toArray 5)) :=
  run_convert_bytes_arg _ 51 5 Tryd.underlying51 Tryd.underlying5 w.heap.size 0 n n xs h (fun i hi => cell_alloc_at w _ _ _ i _ (by simp [List.getD, List.getElem?_eq_getElem (show i < xs.length by omega)])) 9 Tryd.underlying9
theorem markT_size (k i : Int) : (markT k i).size = 8 := strOfNums_size _
theorem infoT : (Tryd.prog.info? 9).map (fun i => (i.zero, i.size, i.bytes)) = some (some (.string ⟨#[]⟩), 1, 16) := by kernel_rfl
def marksT (k : Int) (n : Nat) : List Value := (List.range n).map fun i => .string (markT k ((i : Nat) : Int))
theorem marksT_succ (k : Int) (n : Nat) : marksT k (n + 1) = marksT k n ++ [.string (markT k (n : Int))] := by simp [marksT, List.range_succ]
/-- a list that is lent: with marks behind its end -/
def Lent (W : World) (base : Nat) (e : TypeId) (size : Nat) (v : Value) (n : Nat) (xs : List Value) : Prop :=
  ∃ g cap, v = .slice (some ⟨g, 0, none⟩) n cap ∧ W.ownsRow base e size (.slice (some ⟨g, 0, none⟩) (n + 12) cap) (n + 12) xs
theorem Lent.fr {S : Nat → Prop} {W W' : World} {base : Nat} {e : TypeId} {size n : Nat} {v : Value} {xs : List Value} (h : Lent W base e size v n xs) (hf : Fr S W W') (hs : ∀ g, v.ownBlock = some g → ¬ S g) : Lent W' base e size v n xs := by
  obtain ⟨g, cap, rfl, h2⟩ := h
  exact ⟨g, cap, rfl, hf.ownsRow h2 (fun g' hg => by cases hg; exact hs _ rfl)⟩
theorem Lent.lt {W : World} {base : Nat} {e : TypeId} {size n : Nat} {v : Value} {xs : List Value} (h : Lent W base e size v n xs) : ∀ g, v.ownBlock = some g → base ≤ g ∧ g < W.heap.size := by
  obtain ⟨g, cap, rfl, h2⟩ := h
  intro g' hg
  cases hg
  exact h2.lt g rfl
theorem ownsRow_take {W : World} {base : Nat} {e : TypeId} {size n m cap : Nat} {p : Option Addr} {xs : List Value} (h : W.ownsRow base e size (.slice p (n + m) cap) (n + m) xs) (hp : ∃ g, p = some ⟨g, 0, none⟩) :
    W.ownsRow base e size (.slice p n cap) n (xs.take (n * size)) := by
  obtain ⟨g, rfl⟩ := hp
  refine ⟨?_, .inr ?_⟩
  · rw [List.length_take, h.1, Nat.add_mul]; omega
  · rcases h.2 with ⟨h, _⟩ | ⟨g', cap', cur, hv, h1, h2, h3, h4, h5, h6⟩
    · cases h
    · cases hv
      refine ⟨g, cap, cur, rfl, h1, h2, by omega, h4, h5, ?_⟩
      rw [← h6, List.take_take, Nat.min_eq_left (Nat.mul_le_mul_right _ (by omega))]
theorem ownsRow_cap {W : World} {base : Nat} {e : TypeId} {size n cap : Nat} {p : Option Addr} {xs : List Value} (h : W.ownsRow base e size (.slice p n cap) n xs) : n ≤ cap := by
  rcases h.2 with ⟨h, h'⟩ | ⟨g', cap', cur, hv, h1, h2, h3, h4, h5, h6⟩
  · omega
  · cases hv; exact h3
theorem ownsRow_addr {W : World} {base : Nat} {e : TypeId} {size : Nat} {v : Value} {k : Nat} {xs : List Value} (h : W.ownsRow base e size v k xs) (hk : 0 < k) : ∃ g c, v = .slice (some ⟨g, 0, none⟩) k c := by
  rcases h.2 with ⟨rfl, rfl⟩ | ⟨g, cap, cur, rfl, _⟩
  · omega
  · exact ⟨_, _, rfl⟩
/-- what is lent reads as what it was lent of -/
theorem Lent.rdr {W : World} {base : Nat} {e : TypeId} {size n : Nat} {v : Value} {xs ms : List Value} (h : Lent W base e size v n (xs ++ ms)) (hl : xs.length = n * size) : Rdr W size v n xs := by
  obtain ⟨g, cap, rfl, h2⟩ := h
  have := rdr_of_owns (ownsRow_take (n := n) (m := 12) h2 ⟨g, rfl⟩)
  rwa [← hl, List.take_left'] at this
  rfl
theorem Lent.own {W : World} {base : Nat} {e : TypeId} {size n : Nat} {v : Value} {xs ms : List Value} (h : Lent W base e size v n (xs ++ ms)) (hl : xs.length = n * size) : W.ownsRow base e size v n xs := by
  obtain ⟨g, cap, rfl, h2⟩ := h
  have := ownsRow_take (n := n) (m := 12) h2 ⟨g, rfl⟩
  rwa [← hl, List.take_left'] at this
  rfl
end Go.Proofs.YtamhlflacnldfaaDoor
