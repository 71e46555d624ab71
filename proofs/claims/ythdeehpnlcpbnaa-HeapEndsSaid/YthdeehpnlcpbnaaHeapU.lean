/- the law's own functions: the chapter's example -/
import Derived.Test.YthdeehpnlcpbnaaHeapT
namespace Go.Proofs.Ythdeehpnlcpbnaa
set_option linter.unusedVariables false
set_option linter.unusedSimpArgs false
open Go.RowKit Go.Shelf
attribute [local go_sem] Oper.semAt_some

def ex0 : List Item := [(3, 7), (1, 9), (3, 2)]
theorem ex0_ref : inss [] ex0 = [(1, 9), (3, 2), (3, 7)] := by decide
theorem ex0_hl : HL (pushes [] ex0) [(1, 9), (3, 2), (3, 7)] := by rw [← ex0_ref]; exact HL.nil.pushes
theorem awake_any (w : World) : Calls Try.prog 6 #[] w fun e w' => e = .returned (.bool true) ∧ G w w' := by
  have HHL := Lib.hid ex0_hl
  have e0 : ∀ w : World, (binOp BinOp.eql 40 (.agg #[.int .i64 1, .int .i64 9]) (.agg #[.int .i64 1, .int .i64 9])).run Try.prog w = .ok (.bool true) w := fun w => by kernel_rfl
  have e1 : ∀ w : World, (binOp BinOp.eql 40 (.agg #[.int .i64 3, .int .i64 2]) (.agg #[.int .i64 3, .int .i64 2])).run Try.prog w = .ok (.bool true) w := fun w => by kernel_rfl
  have e2 : ∀ w : World, (binOp BinOp.eql 40 (.agg #[.int .i64 3, .int .i64 7]) (.agg #[.int .i64 3, .int .i64 7])).run Try.prog w = .ok (.bool true) w := fun w => by kernel_rfl
  go_enter Try.func6, Try.ntmps6
  go_wp2_with fail
  have hg1 : G w (w.alloc (.cells #[.int .i64 3, .int .i64 7, .int .i64 1, .int .i64 9, .int .i64 3, .int .i64 2] 40)) := (G.refl w).alloc _
  refine (new_any ex0 _ (w.alloc (.cells #[.int .i64 3, .int .i64 7, .int .i64 1, .int .i64 9, .int .i64 3, .int .i64 2] 40)) (rdr_of_owns (show (w.alloc (.cells #[.int .i64 3, .int .i64 7, .int .i64 1, .int .i64 9, .int .i64 3, .int .i64 2] 40)).ownsRow w.heap.size 40 2 (.slice (some ⟨w.heap.size, 0, none⟩) 3 3) 3 (icells ex0) from ⟨rfl, .inr ⟨w.heap.size, 3, _, rfl, Nat.le_refl _, alloc_new w _, Nat.le_refl _, by unfold maxLen; omega, rfl, rfl⟩⟩)) (by decide)).mono ?_
  rintro e w2 ⟨rfl, ⟨v, S, hat, hS⟩, hg2⟩
  have hgw := hg1.trans hg2
  have hsz1 : (w.alloc (.cells #[.int .i64 3, .int .i64 7, .int .i64 1, .int .i64 9, .int .i64 3, .int .i64 2] 40)).heap.size = w.heap.size + 1 := by simp
  rw [hsz1] at hat hS ⊢
  obtain ⟨hs, hhs⟩ : ∃ hs, hs = pushes [] ex0 := ⟨_, rfl⟩
  rw [← hhs] at hat HHL
  have hln : hs.length = 3 := HHL.out.len
  have HF := Lib.hid (first_any S (w.heap.size + 1) v hs w2 hat)
  have HAT := Lib.hid hat
  have HS := Lib.hid hS
  have hhd : at' hs 0 = (1, 9) := HHL.out.head
  have hisB : isB hs = true := HHL.out.isB
  rw [hhd, hisB] at HF
  simp only [iv] at HF
  have hBl := hat.lt _ hat.inB
  clear hat hS hhs hg1 hg2 hsz1 hhd hisB
  go_wp2_with fail
  refine HF.out.mono ?_
  rintro e w3 ⟨rfl, hg3⟩
  have hgw3 := hgw.trans hg3
  have hz3 := hg3.size
  have hg4 : G w3 (w3.alloc (.cells #[.int .i64 1, .int .i64 9] 40)) := (G.refl w3).alloc _
  have HT := Lib.hid (taken_any S (w.heap.size + 1) v hs 3 9 (w3.alloc (.cells #[.int .i64 1, .int .i64 9] 40)) (HAT.out.g (hg3.trans hg4)) (by omega) (by decide) (by decide))
  have htk : (tk 3 hs.length hs).take 9 = [(1, 9), (3, 2), (3, 7)] := by rw [HHL.out.tk 3 (Nat.le_refl _)]; decide
  rw [htk] at HT
  have x0 : (w3.alloc (.cells #[.int .i64 1, .int .i64 9] 40)).cell? ⟨w3.heap.size, 0, none⟩ = some (.int .i64 1) := cell_alloc_at w3 [.int .i64 1, .int .i64 9] _ _ 0 _ rfl
  have x1 : (w3.alloc (.cells #[.int .i64 1, .int .i64 9] 40)).cell? ⟨w3.heap.size, 1, none⟩ = some (.int .i64 9) := cell_alloc_at w3 [.int .i64 1, .int .i64 9] _ _ 1 _ rfl
  have hgw4 := hgw3.trans hg4
  have hSx : ∀ q, w3.heap.size ≤ q → ¬ S q := fun q h e => by have := HAT.out.lt q e; omega
  have hS0 : ∀ q, S q → w.heap.size ≤ q := fun q e => by have := HS.out q e; omega
  have HSX := Lib.hid hSx
  have HS0 := Lib.hid hS0
  clear HF htk hSx hS0 hgw hgw3 hg3 hg4
  go_wp2_with fail
  refine HT.out.mono ?_
  rintro e w5 ⟨u, rfl, hown, ⟨v5, hat5⟩, hf5⟩
  have hgw5 : G w w5 := ((hgw4.fr (fun q => w.heap.size ≤ q)).trans (hf5.mono HS0.out) (fun _ _ h => h)).g (fun _ h => h)
  have y0 := hf5.cell (p := ⟨w3.heap.size, 0, none⟩) (HSX.out _ (Nat.le_refl _)) x0
  have y1 := hf5.cell (p := ⟨w3.heap.size, 1, none⟩) (HSX.out _ (Nat.le_refl _)) x1
  obtain ⟨p, c, rfl⟩ := ownsRow_shape hown
  obtain ⟨g, rfl, a0, a1⟩ := own_at hown (k := 1) (by decide)
  obtain ⟨g', hp, b0, b1⟩ := own_at hown (k := 2) (by decide)
  cases hp
  have HL5 := Lib.hid (len_any S (w.heap.size + 1) v5 _ w5 hat5)
  have hlen0 : (pops [((1 : Int), (9 : Int)), (3, 2), (3, 7)].length hs).length = 0 := (HHL.out.pops (j := 3)).len
  rw [hlen0] at HL5
  simp only [at', List.getD_cons_succ, List.getD_cons_zero, Nat.reduceMul, Nat.reduceAdd] at a0 a1 b0 b1
  clear hown hat5 hf5 x0 x1 hlen0
  go_wp2_with fail
  refine HL5.out.mono ?_
  rintro e w6 ⟨rfl, rfl⟩
  go_wp2_with fail
  go_ret
  exact ⟨rfl, hgw5⟩
end Go.Proofs.Ythdeehpnlcpbnaa
