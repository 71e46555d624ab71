/- no heap: nil, or one that was not made -/
import Derived.Test.YthdeehpnlcpbnaaHeapT
namespace Go.Proofs.Ythdeehpnlcpbnaa
set_option linter.unusedVariables false
set_option linter.unusedSimpArgs false
open Go.RowKit Go.Shelf
attribute [local go_sem] Oper.semAt_some

def NoHeap (W : World) (v : Value) : Prop := v = .pointer none ∨ ∃ B, v = .pointer (some ⟨B, 0, none⟩) ∧ W.cell? ⟨B, 1, none⟩ = some (.bool false)
theorem NoHeap.g {W W' : World} {v : Value} (h : NoHeap W v) (hg : G W W') : NoHeap W' v := h.imp id (fun ⟨B, e, c⟩ => ⟨B, e, hg.cell c⟩)
theorem made_no {W : World} {v : Value} (h : NoHeap W v) : Calls Try.prog 25 #[v] W fun e w' => e = .returned (.bool false) ∧ W = w' := by
  rcases h with rfl | ⟨B, rfl, hb⟩
  · go_enter Try.func25, Try.ntmps25
    go_wp2
    go_ret
    exact ⟨rfl, rfl⟩
  · go_enter Try.func25, Try.ntmps25
    go_wp2
    go_ret
    exact ⟨rfl, rfl⟩
theorem len_no {W : World} {v : Value} (h : NoHeap W v) : Calls Try.prog 23 #[v] W fun e w' => e = .returned (.int .i64 0) ∧ W = w' := by
  have HM := Lib.hid (made_no h)
  clear h
  go_enter Try.func23, Try.ntmps23
  go_wp2_with fail
  refine HM.out.mono ?_
  rintro e w' ⟨rfl, rfl⟩
  go_wp2_with fail
  go_ret
  exact ⟨rfl, rfl⟩
theorem push_no {W : World} {v u : Value} (h : NoHeap W v) : Calls Try.prog 12 #[v, u] W fun e w' => e = .returned (.int .i64 1) ∧ W = w' := by
  have HM := Lib.hid (made_no h)
  clear h
  go_enter Try.func12, Try.ntmps12
  go_wp2_with fail
  refine HM.out.mono ?_
  rintro e w' ⟨rfl, rfl⟩
  go_wp2_with fail
  go_ret
  exact ⟨rfl, rfl⟩
theorem copy_no {W : World} {v : Value} (h : NoHeap W v) : Calls Try.prog 19 #[v] W fun e w' => e = .returned (.pointer none) ∧ W = w' := by
  have HM := Lib.hid (made_no h)
  clear h
  go_enter Try.func19, Try.ntmps19
  go_wp2_with fail
  refine HM.out.mono ?_
  rintro e w' ⟨rfl, rfl⟩
  go_wp2_with fail
  go_ret
  exact ⟨rfl, rfl⟩
theorem first_no {W : World} {v : Value} (h : NoHeap W v) : Calls Try.prog 20 #[v] W fun e w' => e = .returned (.tuple #[.agg #[.int .i64 0, .int .i64 0], .bool false]) ∧ G W w' := by
  have HL := Lib.hid (len_no (h.g ((G.refl W).alloc (.cells #[.int .i64 0, .int .i64 0] 40))))
  clear h
  go_enter Try.func20, Try.ntmps20
  go_wp2_with fail
  refine HL.out.mono ?_
  rintro e w' ⟨rfl, rfl⟩
  go_wp2_with fail
  refine bodyPost_ret (v := .tuple #[.agg #[.int .i64 0, .int .i64 0], .bool false]) ?_ rfl ⟨rfl, (G.refl W).alloc _⟩
  have c0 := cell_alloc_at W [.int .i64 0, .int .i64 0] 40 (0, 0) 0 _ rfl
  have c1 := cell_alloc_at W [.int .i64 0, .int .i64 0] 40 (0, 0) 1 _ rfl
  simp only [Nat.zero_add] at c0 c1
  simp [results, Try.results20, go_sem, c0, c1]
theorem pop_no {W : World} {v : Value} (h : NoHeap W v) : Calls Try.prog 14 #[v] W fun e w' => e = .returned (.tuple #[.agg #[.int .i64 0, .int .i64 0], .bool false]) ∧ G W w' := by
  have hw1 : G W (W.alloc (.cells #[.int .i64 0, .int .i64 0] 40)) := (G.refl W).alloc _
  have HF := Lib.hid (first_no (h.g hw1))
  have hb := alloc_new W (.cells #[.int .i64 0, .int .i64 0] 40)
  clear h
  go_enter Try.func14, Try.ntmps14
  go_wp2_with fail
  refine HF.out.mono ?_
  rintro e w2 ⟨rfl, hg2⟩
  have hgw := hw1.trans hg2
  have hb2 := (hg2.block (k := W.heap.size) (by simp)).trans hb
  have hl2 : W.heap.size < w2.heap.size := by have := hg2.size; simp at this; omega
  obtain ⟨c0, c1, f0, f1⟩ := box2 hb2
  clear hb hw1 hg2
  go_wp2_with fail
  have hfin : G W (((w2.setCell ⟨W.heap.size, 0, none⟩ (.int .i64 0)).setCell ⟨W.heap.size, 1, none⟩ (.int .i64 0)).alloc (.cells #[.int .i64 0, .int .i64 0] 40)) := ((hgw.setCell (by simp) _).setCell (by simp) _).alloc _
  refine bodyPost_ret (v := .tuple #[.agg #[.int .i64 0, .int .i64 0], .bool false]) ?_ rfl ⟨rfl, hfin⟩
  have q := (((G.refl ((w2.setCell ⟨W.heap.size, 0, none⟩ (.int .i64 0)).setCell ⟨W.heap.size, 1, none⟩ (.int .i64 0))).alloc (.cells #[.int .i64 0, .int .i64 0] 40)).block (by simpa using hl2)).trans (set2 (x := .int .i64 0) (y := .int .i64 0) hb2)
  obtain ⟨q0, q1, -, -⟩ := box2 q
  simp [results, Try.results14, go_sem, q0, q1]
theorem upto_no {W : World} {v : Value} (h : NoHeap W v) (key : Int) : Calls Try.prog 29 #[v, .int .i64 key] W fun e w' =>
    e = .returned (.func (.func 32) #[] #[.pointer (some ⟨W.heap.size, 0, none⟩), .pointer (some ⟨W.heap.size + 1, 0, none⟩)]) ∧ w' = (W.alloc (.cells #[v] 26)).alloc (.cells #[.int .i64 key] 3) := by
  rcases h with rfl | ⟨B, rfl, -⟩
  · go_enter Try.func29, Try.ntmps29
    go_wp2
    go_ret
    exact ⟨rfl, rfl⟩
  · exact upto_any B key W
/-- those up to a key of no heap: none -/
theorem upto_seq_no (v : Value) (key : Int) (b1 b2 : Nat) (w : World) (h : NoHeap w v) (h1 : Boxed w b1 26 v) (h2 : Boxed w b2 3 (.int .i64 key)) :
    Seq Try.prog 32 #[.pointer (some ⟨b1, 0, none⟩), .pointer (some ⟨b2, 0, none⟩)] encI (fun _ => False) (fun k => k = b1 ∨ k = b2)
      (fun xs _ _ => xs = []) (fun _ _ _ => False) (fun _ _ => False) w := by
  intro l J Jx W hW hJ hJx hY hj0
  have HJ := Lib.hid hJ
  have hlt1 := (hW.boxed h1).lt
  have hlt2 := (hW.boxed h2).lt
  have c1 := (hW.boxed h1).cell
  have c2 := (hW.boxed h2).cell
  have HF := Lib.hid (first_no (h.g hW))
  have HJ0 := Lib.hid hj0
  clear hY hJ hJx h h1 h2 hj0 hW
  show Calls Try.prog 32 #[.func (.yield l) #[] #[], .pointer (some ⟨b1, 0, none⟩), .pointer (some ⟨b2, 0, none⟩)] W _
  go_enter Try.func32, Try.ntmps32
  go_wp2_with fail
  refine HF.out.mono ?_
  rintro e w1 ⟨rfl, hg1⟩
  go_wp2_with fail
  go_loopg [4, 5] 1 (fun g xp is wr => g = 1 ∧ xp = .pointer (some ⟨w1.heap.size, 0, none⟩) ∧ is = .bool false ∧ wr = w1.alloc (.cells #[.int .i64 0, .int .i64 0] 40))
  case atStart => exact ⟨rfl, rfl, rfl, rfl⟩
  case round =>
    obtain ⟨rfl, rfl, rfl, rfl⟩ := hrel
    have hgA : G W (w1.alloc (.cells #[.int .i64 0, .int .i64 0] 40)) := hg1.alloc _
    go_wp2_with fail
    go_returns
    exact ⟨⟨_, rfl⟩, fun k => k = b1 ∨ k = b2, fun _ h => h, fun _ h => .inl h, .inl ⟨[], HJ.out [] _ _ W _ HJ0.out (fun _ h => h) (fun _ h => .inl h) (hgA.fr _), rfl⟩⟩
end Go.Proofs.Ythdeehpnlcpbnaa
