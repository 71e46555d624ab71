/- what holds of any numbers -/
import Derived.Test.YtjpcenhhfiialaaClockG
namespace Go.Proofs.Ytjpcenhhfiialaa
set_option linter.unusedVariables false
open Go.RowKit Go.Shelf

theorem firstL_le (a b s m : Int) (hm2 : m ≤ 600) : (firstL a b s m).length ≤ 1099511627776 := by
  have : (firstL a b s m).length ≤ m.toNat := List.length_take_le _ _
  omega
theorem lit3_row (w : World) (a b c : Int) : (w.alloc (.cells #[.int .i64 a, .int .i64 b, .int .i64 c] 3)).ownsRow 0 3 1 (.slice (some ⟨w.heap.size, 0, none⟩) 3 3) 3 (ints [a, b, c]) :=
  ⟨rfl, .inr ⟨w.heap.size, 3, _, rfl, Nat.zero_le _, World.alloc_heap_new w _, Nat.le_refl _, by unfold maxLen; omega, rfl, rfl⟩⟩
theorem awake_any (w : World) : Calls Try.prog 23 #[] w fun e w' => e = .returned (.bool true) ∧ G w w' := by
  have HB := Lib.hid (show beginV 10 4 = .tuple #[.int .i64 6, .int .i64 0] from rfl)
  have HF := Lib.hid (show firstL 3 15 5 9 = [5, 10, 15] by decide +kernel)
  have HI := Lib.hid (show inB 7 10 4 = true by decide +kernel)
  have HI2 := Lib.hid (show inB 6 10 4 = false by decide +kernel)
  go_enter Try.func23, Try.ntmps23
  go_wp2_with fail
  refine (begin_any _ _ _).mono ?_; rw [HB.out]; rintro e w1 ⟨rfl, hg1⟩
  go_wp2_with fail
  refine (first_any _ _ _ _ _ (by omega) (by omega)).mono ?_; rintro e w2 ⟨v, rfl, hrow, hg2⟩
  rw [HF.out] at hrow
  go_wp2_with fail
  refine (same_ints [5, 10, 15] [5, 10, 15] v _ _ 0 _ ((G.alloc (G.refl w2) _).ownsRow hrow) (lit3_row w2 5 10 15) (by simp) (by simp)).mono ?_; rintro e w3 ⟨rfl, hg3⟩
  go_wp2_with fail
  refine (in_any _ _ _ _).mono ?_; rw [HI.out]; rintro e w4 ⟨rfl, hg4⟩
  go_wp2_with fail
  refine (in_any _ _ _ _).mono ?_; rw [HI2.out]; rintro e w5 ⟨rfl, hg5⟩
  go_wp2_with fail
  go_ret
  exact ⟨rfl, (((((hg1.trans hg2).alloc _).trans hg3).trans hg4).trans hg5)⟩
theorem addV_shape (a b : Int) : ∃ x y, addV a b = .tuple #[.int .i64 x, .int .i64 y] := by unfold addV; split <;> exact ⟨_, _, rfl⟩
theorem nextR_shape (a b : Int) : ∃ x y, nextR a b = .tuple #[.int .i64 x, .int .i64 y] := by unfold nextR nextV; split <;> (try split) <;> exact ⟨_, _, rfl⟩
theorem countV_shape (a b s : Int) : ∃ x y, countV a b s = .tuple #[.int .i64 x, .int .i64 y] := by unfold countV; split <;> exact ⟨_, _, rfl⟩
theorem beginV_shape (a b : Int) : ∃ x y, beginV a b = .tuple #[.int .i64 x, .int .i64 y] := by unfold beginV; split <;> exact ⟨_, _, rfl⟩

set_option maxHeartbeats 1000000 in
theorem does_any (a b n m : Int) (w : World) (hm1 : -9223372036854775808 ≤ m) (hm2 : m ≤ 9223372036854775807) :
    Calls Try.prog 3 #[.int .i64 a, .int .i64 b, .int .i64 n, .int .i64 m] w fun e w' => e = .returned (.bool true) ∧ G w w' := by
  obtain ⟨x1, y1, h1⟩ := addV_shape a b
  obtain ⟨x2, y2, h2⟩ := nextR_shape a n
  obtain ⟨x3, y3, h3⟩ := countV_shape a b n
  obtain ⟨x4, y4, h4⟩ := beginV_shape a n
  have H1 := Lib.hid h1
  have H2 := Lib.hid h2
  have H3 := Lib.hid h3
  have H4 := Lib.hid h4
  have hk1 := Int.emod_nonneg m (show (500 : Int) ≠ 0 by omega)
  have hk2 := Int.emod_lt_of_pos m (show (0 : Int) < 500 by omega)
  obtain ⟨k, hk⟩ : ∃ k, m % 500 = k := ⟨_, rfl⟩
  rw [hk] at hk1 hk2
  have HK := Lib.hid hk
  clear h1 h2 h3 h4 hk
  go_enter Try.func3, Try.ntmps3
  go_wp2_with fail
  refine (add_any _ _ _).mono ?_; rw [H1.out]; rintro e w1 ⟨rfl, g1⟩
  go_wp2_with fail
  refine (rAdd_any _ _ _).mono ?_; rw [H1.out]; rintro e w2 ⟨rfl, rfl⟩
  go_wp2_with fail
  refine (next_any _ _ _).mono ?_; rw [H2.out]; rintro e w2 ⟨rfl, g2⟩
  go_wp2_with fail
  refine (rNext_any _ _ _).mono ?_; rw [H2.out]; rintro e w3 ⟨rfl, rfl⟩
  go_wp2_with fail
  refine (count_any _ _ _ _).mono ?_; rw [H3.out]; rintro e w3 ⟨rfl, g3⟩
  go_wp2_with fail
  refine (rCount_any _ _ _ _).mono ?_; rw [H3.out]; rintro e w4 ⟨rfl, rfl⟩
  go_wp2_with fail
  refine (begin_any _ _ _).mono ?_; rw [H4.out]; rintro e w4 ⟨rfl, g4⟩
  go_wp2_with fail
  refine (rBegin_any _ _ _).mono ?_; rw [H4.out]; rintro e w5 ⟨rfl, rfl⟩
  go_wp2_with fail
  refine (pick_any _ _ _ hm1 hm2 (by omega) (by omega)).mono ?_; rw [HK.out]; rintro e w5 ⟨rfl, rfl⟩
  go_wp2_with fail
  refine (is_any _ _).mono ?_; rintro e w5 ⟨rfl, g5⟩
  go_wp2_with fail
  refine (rIs_any _ _).mono ?_; rintro e w6 ⟨rfl, rfl⟩
  go_wp2_with fail
  refine (mark_any _ _).mono ?_; rintro e w6 ⟨rfl, g6⟩
  go_wp2_with fail
  refine (rMark_any _ _).mono ?_; rintro e w7 ⟨rfl, rfl⟩
  go_wp2_with fail
  refine (in_any _ _ _ _).mono ?_; rintro e w7 ⟨rfl, g7⟩
  go_wp2_with fail
  refine (rIn_any _ _ _ _).mono ?_; rintro e w8 ⟨rfl, rfl⟩
  go_wp2_with fail
  refine (first_any _ _ _ _ _ hk1 (by omega)).mono ?_; rintro e w8 ⟨v1, rfl, hr1, g8⟩
  go_wp2_with fail
  refine (rCloses_any _ _ _ _ _ hk1 (by omega)).mono ?_; rintro e w9 ⟨v2, rfl, hr2, g9⟩
  go_wp2_with fail
  refine (same_ints _ _ v1 v2 _ _ _ (g9.ownsRow hr1) hr2 (firstL_le _ _ _ _ (by omega)) (firstL_le _ _ _ _ (by omega))).mono ?_; rintro e w10 ⟨rfl, g10⟩
  have ht : decide (firstL a b n k = firstL a b n k) = true := by simp
  go_wp2_with fail
  refine (awake_any _).mono ?_; rintro e w11 ⟨rfl, g11⟩
  go_wp2_with fail
  go_ret
  exact ⟨rfl, g1.trans (g2.trans (g3.trans (g4.trans (g5.trans (g6.trans (g7.trans (g8.trans (g9.trans (g10.trans g11)))))))))⟩
end Go.Proofs.Ytjpcenhhfiialaa
