/- no heap: what the law tells of it -/
import Derived.Test.YthdeehpnlcpbnaaHeapNT
namespace Go.Proofs.Ythdeehpnlcpbnaa
set_option linter.unusedVariables false
set_option linter.unusedSimpArgs false
open Go.RowKit Go.Shelf
attribute [local go_sem] Oper.semAt_some

set_option maxHeartbeats 1000000 in
set_option maxRecDepth 10000 in
theorem none_any (w : World) : Calls Try.prog 24 #[] w fun e w' => e = .returned (.bool true) ∧ G w w' := by
  have e0 : ∀ w : World, (binOp BinOp.neq 40 (.agg #[.int .i64 0, .int .i64 0]) (.agg #[.int .i64 0, .int .i64 0])).run Try.prog w = .ok (.bool false) w := fun w => by kernel_rfl
  have e1 : ∀ w : World, (binOp BinOp.neq 26 (.pointer none) (.pointer none)).run Try.prog w = .ok (.bool false) w := fun w => by kernel_rfl
  go_enter Try.func24, Try.ntmps24
  go_wp2_with fail
  go_loopw [2] (fun i wr => ∃ (k : Nat), k ≤ 2 ∧ i = .int .i64 k ∧ G w wr ∧ ∀ j, j < 2 → ∃ v, wr.cell? ⟨w.heap.size + 1, j, none⟩ = some v ∧ NoHeap wr v) (fun i _ => 2 - (intOf i).toNat)
  case atStart =>
    have hg0 : G w ((w.alloc (.cells #[.slice none 0 0, .bool false] 57)).alloc (.cells #[.pointer none, .pointer (some ⟨w.heap.size, 0, none⟩)] 26)) := ((G.refl w).alloc _).alloc _
    refine ⟨0, by omega, rfl, hg0, fun j hj => ?_⟩
    have c1 := cell_alloc_at (w.alloc (.cells #[.slice none 0 0, .bool false] 57)) [.pointer none, .pointer (some ⟨w.heap.size, 0, none⟩)] 26 (0, 0)
    have c0 := ((G.refl _).alloc (.cells #[.pointer none, .pointer (some ⟨w.heap.size, 0, none⟩)] 26)).cell (cell_alloc_at w [.slice none 0 0, .bool false] 57 (0, 0) 1 _ rfl)
    rw [World.size_alloc] at c1
    rcases (by omega : j = 0 ∨ j = 1) with rfl | rfl
    · exact ⟨_, c1 0 _ rfl, .inl rfl⟩
    · exact ⟨_, c1 1 _ rfl, .inr ⟨_, rfl, c0⟩⟩
  case round =>
    obtain ⟨k, hk, rfl, hg, hv⟩ := hrel
    by_cases hlt : k < 2
    · obtain ⟨v, hc, hno⟩ := hv k hlt
      have hkn : (k : Int) < (2 : Int) := by omega
      have hk0 : (0 : Int) ≤ (k : Int) := by omega
      have HV := Lib.hid hv
      have HNO := Lib.hid hno
      have HF := Lib.hid (first_no hno)
      clear hv hno
      go_wp2_with fail
      refine HF.out.mono ?_
      rintro e w1 ⟨rfl, hg1⟩
      have hc1 := hg1.cell hc
      have hgA : G wr (w1.alloc (.cells #[.int .i64 0, .int .i64 0] 40)) := hg1.alloc _
      have a0 : (w1.alloc (.cells #[.int .i64 0, .int .i64 0] 40)).cell? ⟨w1.heap.size, 0, none⟩ = some (.int .i64 0) := cell_alloc_at w1 [.int .i64 0, .int .i64 0] _ _ 0 _ rfl
      have a1 : (w1.alloc (.cells #[.int .i64 0, .int .i64 0] 40)).cell? ⟨w1.heap.size, 1, none⟩ = some (.int .i64 0) := cell_alloc_at w1 [.int .i64 0, .int .i64 0] _ _ 1 _ rfl
      have hcA := hgA.cell hc
      have HP := Lib.hid (pop_no (HNO.out.g hgA))
      clear HF hg1
      go_wp2_with fail
      refine HP.out.mono ?_
      rintro e w2 ⟨rfl, hg2⟩
      have hgB : G wr (w2.alloc (.cells #[.int .i64 0, .int .i64 0] 40)) := hgA.trans (hg2.alloc _)
      have hcB2 := hg2.cell hcA
      have hcB := hgB.cell hc
      have b0 : (w2.alloc (.cells #[.int .i64 0, .int .i64 0] 40)).cell? ⟨w2.heap.size, 0, none⟩ = some (.int .i64 0) := cell_alloc_at w2 [.int .i64 0, .int .i64 0] _ _ 0 _ rfl
      have b1 : (w2.alloc (.cells #[.int .i64 0, .int .i64 0] 40)).cell? ⟨w2.heap.size, 1, none⟩ = some (.int .i64 0) := cell_alloc_at w2 [.int .i64 0, .int .i64 0] _ _ 1 _ rfl
      have a0 := (hg2.alloc (.cells #[.int .i64 0, .int .i64 0] 40)).cell a0
      have a1 := (hg2.alloc (.cells #[.int .i64 0, .int .i64 0] 40)).cell a1
      have hgC : G wr ((w2.alloc (.cells #[.int .i64 0, .int .i64 0] 40)).alloc (.cells #[.int .i64 1, .int .i64 0] 40)) := hgB.alloc _
      have HPU := Lib.hid (push_no (u := .slice (some ⟨w2.heap.size + 1, 0, none⟩) 1 1) (HNO.out.g hgC))
      have hcC := hgC.cell hc
      have HL := Lib.hid (len_no (HNO.out.g hgC))
      have HI := Lib.hid (items_no v _ (HNO.out.g hgC))
      clear HP hg2
      go_wp2_with fail
      refine HPU.out.mono ?_
      rintro e w3 ⟨rfl, rfl⟩
      go_wp2_with fail
      refine HL.out.mono ?_
      rintro e w3 ⟨rfl, rfl⟩
      go_wp2_with fail
      refine HI.out.mono ?_
      rintro e w3 ⟨rfl, hg3⟩
      have hgD := hgC.trans hg3
      have hcD := hgD.cell hc
      have HT := Lib.hid (taken_no9 v 9 w3 (HNO.out.g hgD))
      clear HPU HL HI hg3
      go_wp2_with fail
      refine HT.out.mono ?_
      rintro e w4 ⟨rfl, hg4⟩
      have hgE := hgD.trans hg4
      have hcE := hgE.cell hc
      have HC := Lib.hid (copy_no (HNO.out.g hgE))
      clear HT hg4
      go_wp2_with fail
      refine HC.out.mono ?_
      rintro e w5 ⟨rfl, rfl⟩
      go_wp2_with fail
      go_roundw
      case rel =>
        refine ⟨k + 1, by omega, by go_num, hg.trans hgE, fun j hj => ?_⟩
        obtain ⟨u, h1, h2⟩ := HV.out j hj
        exact ⟨u, hgE.cell h1, h2.g hgE⟩
      case measure => simp [intOf]; omega
    · obtain rfl : k = 2 := by omega
      clear hv
      go_wp2_with fail
      go_ret
      exact ⟨rfl, hg⟩
end Go.Proofs.Ythdeehpnlcpbnaa
