/- the ends -/
import Derived.Test.YtjpcenhhfiialaaClockH
import Derived.Lib.QuietBelow
import Derived.BigQuiet
namespace Go.Proofs.Ytjpcenhhfiialaa
set_option linter.unusedVariables false
open Go.RowKit Go.Shelf Go.Sort

def endsL : List Int := [-9223372036854775808, -1099511627777, -1099511627776, -2, -1, 0, 1, 2, 3, 7, 10, 1048575, 1048576, 1048577, 1099511627775, 1099511627776, 1099511627777, 9223372036854775807]

theorem ends_ok (i : Nat) (h : i < 18) : ∃ x, endsL[i]? = some x ∧ -9223372036854775808 ≤ x ∧ x ≤ 9223372036854775807 := by
  have h' : ∀ i : Fin 18, ∃ x, endsL[i.val]? = some x ∧ -9223372036854775808 ≤ x ∧ x ≤ 9223372036854775807 := by
    intro i
    have := (show ∀ i : Fin 18, (match endsL[i.val]? with | some x => decide (-9223372036854775808 ≤ x ∧ x ≤ 9223372036854775807) | none => false) = true by decide +kernel) i
    split at this
    · rename_i x hx; exact ⟨x, hx, by simpa using this⟩
    · cases this
  exact h' ⟨i, h⟩
theorem endsCell {W : World} {g : Nat} (h : W.ownsRow 0 3 1 (.slice (some ⟨g, 0, none⟩) 18 18) 18 (ints endsL)) {i : Nat} (hi : i < 18) : ∃ x, W.cell? ⟨g, i, none⟩ = some (.int .i64 x) ∧ -9223372036854775808 ≤ x ∧ x ≤ 9223372036854775807 := by
  obtain ⟨x, hx, hb⟩ := ends_ok i hi
  exact ⟨x, ownsRow_cellAt h (by simp [ints, hx]), hb⟩

set_option maxHeartbeats 400000 in
theorem ends_any (w : World) : Calls Try.prog 4 #[] w fun e w' => e = .returned (.bool true) ∧ G w w' := by
  go_enter Try.func4, Try.ntmps4
  go_wp2_with fail
  obtain ⟨W0, hW0⟩ : ∃ W0, w.alloc (.cells (ints endsL).toArray 3) = W0 := ⟨_, rfl⟩
  obtain ⟨g, hg⟩ : ∃ g, w.heap.size = g := ⟨_, rfl⟩
  have hrow : W0.ownsRow 0 3 1 (.slice (some ⟨g, 0, none⟩) 18 18) 18 (ints endsL) := by
    rw [← hW0, ← hg]
    exact ⟨rfl, .inr ⟨w.heap.size, 18, _, rfl, Nat.zero_le _, World.alloc_heap_new w _, Nat.le_refl _, by unfold maxLen; omega, rfl, rfl⟩⟩
  have hg0 : G w W0 := by rw [← hW0]; exact (G.refl w).alloc _
  show Code.wp _ _ _ _ (w.alloc (.cells (ints endsL).toArray 3))
  rw [hW0, hg]
  have HR := Lib.hid hrow
  clear hW0 hg hrow
  go_loopw [2] (fun i wr => ∃ k : Nat, k ≤ 18 ∧ i = .int .i64 k ∧ G W0 wr) (fun i _ => 18 - (intOf i).toNat)
  case atStart => exact ⟨0, by omega, rfl, G.refl _⟩
  case round =>
    obtain ⟨k, hk, rfl, hgr⟩ := hrel
    by_cases hlt : k < 18
    · obtain ⟨W1, rfl⟩ : ∃ W1 : World, W1 = wr := ⟨_, rfl⟩
      go_wp2_with fail
      go_loopw [3] (fun i wr => ∃ l : Nat, l ≤ 18 ∧ i = .int .i64 l ∧ G W0 wr) (fun i _ => 18 - (intOf i).toNat)
      case atStart => exact ⟨0, by omega, rfl, hgr⟩
      case round =>
        clear hgr
        obtain ⟨l, hl, rfl, hgr⟩ := hrel
        by_cases hlt2 : l < 18
        · obtain ⟨W2, rfl⟩ : ∃ W2 : World, W2 = wr := ⟨_, rfl⟩
          go_wp2_with fail
          go_loopw [4] (fun i wr => ∃ n : Nat, n ≤ 18 ∧ i = .int .i64 n ∧ G W0 wr) (fun i _ => 18 - (intOf i).toNat)
          case atStart => exact ⟨0, by omega, rfl, hgr⟩
          case round =>
            clear hgr
            obtain ⟨n, hn, rfl, hgr⟩ := hrel
            by_cases hlt3 : n < 18
            · obtain ⟨x, hx, _⟩ := endsCell (hgr.ownsRow HR.out) hlt
              obtain ⟨y, hy, _⟩ := endsCell (hgr.ownsRow HR.out) hlt2
              obtain ⟨z, hz, _⟩ := endsCell (hgr.ownsRow HR.out) hlt3
              have cx : ∀ d os, (grow (redrawn wr d) os).cell? ⟨g, k, none⟩ = some (.int .i64 x) := fun d os => cell_regrown hx d os
              have cy : ∀ d os, (grow (redrawn wr d) os).cell? ⟨g, l, none⟩ = some (.int .i64 y) := fun d os => cell_regrown hy d os
              have cz : ∀ d os, (grow (redrawn wr d) os).cell? ⟨g, n, none⟩ = some (.int .i64 z) := fun d os => cell_regrown hz d os
              have HC : Hid (∀ d os, Calls Try.prog 3 #[.int .i64 x, .int .i64 y, .int .i64 z, .int .i64 (3 + (k : Int))] (grow (redrawn wr d) os) fun e w'' => e = .returned (.bool true) ∧ ∃ p : Regrown, w'' = grow (redrawn wr p.d) p.os) :=
                fun d os => Calls.regrown_of (does_any _ _ _ _ _ (by omega) (by omega))
              go_wp2_with fail
              refine wp_region_quiet_below (by kernel_rfl) (by kernel_rfl) ?_
              repeat (go_big_quiet_step (exact HC.out _ _))
              refine wpQuiet_nil ?_
              rintro _ ⟨⟨dq, osq⟩, rfl⟩
              have hgn : G W0 (grow (redrawn wr dq) osq) := hgr.trans (below_regrown wr dq osq)
              clear cx cy cz hx hy hz
              go_wp2_with fail
              go_roundw
              case rel => exact ⟨n + 1, by omega, by go_num, hgn⟩
              case measure => simp [intOf]; omega
            · go_wp2_with fail
              go_roundw
              case rel => exact ⟨l + 1, by omega, by go_num, hgr⟩
              case measure => simp [intOf]; omega
        · go_wp2_with fail
          go_roundw
          case rel => exact ⟨k + 1, by omega, by go_num, hgr⟩
          case measure => simp [intOf]; omega
    · go_wp2_with (go_at_call 23; refine (awake_any _).mono ?_; rintro e w1 ⟨rfl, g1⟩)
      go_ret
      exact ⟨rfl, hg0.trans (hgr.trans (by assumption))⟩
end Go.Proofs.Ytjpcenhhfiialaa
