/- no heap: nothing is taken -/
import Derived.Test.YthdeehpnlcpbnaaHeapO
namespace Go.Proofs.Ythdeehpnlcpbnaa
set_option linter.unusedVariables false
set_option linter.unusedSimpArgs false
open Go.RowKit Go.Shelf
attribute [local go_sem] Oper.semAt_some

set_option maxHeartbeats 1000000 in
theorem taken_no9 (v : Value) (key : Int) (w : World) (h : NoHeap w v) :
    Calls Try.prog 17 #[v, .int .i64 key, .int .i64 9] w fun e w' => e = .returned (.slice none 0 0) ∧ G w w' := by
  have h0 := boxed_at w [.cells #[.int .i64 9] 3, .cells #[.slice none 0 0] 22, .cells #[.slice none 0 0] 22] 0 3 (.int .i64 9) rfl
  have h1 := boxed_at w [.cells #[.int .i64 9] 3, .cells #[.slice none 0 0] 22, .cells #[.slice none 0 0] 22] 1 22 (.slice none 0 0) rfl
  have h2 := boxed_at w [.cells #[.int .i64 9] 3, .cells #[.slice none 0 0] 22, .cells #[.slice none 0 0] 22] 2 22 (.slice none 0 0) rfl
  have hfn : ∀ (bs : Array Value) (w : World), (binOp BinOp.eql 61 (.func (.func 32) #[] bs) Value.nilFunc).run Try.prog w = .ok (.bool false) w := fun bs w => by kernel_rfl
  have hg1 : G w (((w.alloc (.cells #[.int .i64 9] 3)).alloc (.cells #[.slice none 0 0] 22)).alloc (.cells #[.slice none 0 0] 22)) := (((G.refl w).alloc _).alloc _).alloc _
  have HNO := Lib.hid (h.g hg1)
  clear h
  refine calls_of_marks Try.func17 rfl ?_
  simp only [Try.ntmps17, List.size_toArray, List.length_cons, List.length_nil, Nat.reduceAdd, Nat.reduceSub, Array.replicate_succ, Array.replicate_zero, List.push_toArray, List.append_toArray, List.nil_append, List.cons_append]
  go_wp2_with fail
  refine (upto_no HNO.out key).mono ?_
  rintro e w3 ⟨rfl, hw3⟩
  have hg13 : G (((w.alloc (.cells #[.int .i64 9] 3)).alloc (.cells #[.slice none 0 0] 22)).alloc (.cells #[.slice none 0 0] 22)) w3 := by rw [hw3]; exact ((G.refl _).alloc _).alloc _
  have hgw3 := hg1.trans hg13
  have hzz : (((w.alloc (.cells #[.int .i64 9] 3)).alloc (.cells #[.slice none 0 0] 22)).alloc (.cells #[.slice none 0 0] 22)).heap.size = w.heap.size + 3 := by simp
  have k1 : Boxed w3 (w.heap.size + 3) 26 v := by rw [hw3, ← hzz]; exact boxed_at _ [_, _] 0 _ _ rfl
  have k2 : Boxed w3 (w.heap.size + 3 + 1) 3 (.int .i64 key) := by rw [hw3, ← hzz]; exact boxed_at _ [_, _] 1 _ _ rfl
  have hz3 : w.heap.size + 5 ≤ w3.heap.size := by rw [hw3]; simp
  have hb0 := hg13.boxed h0
  have hb1 := hg13.boxed h1
  have hb2 := hg13.boxed h2
  simp only [Nat.add_zero] at hb0
  have c0 := hb0.cell
  have hseq := upto_seq_no v key (w.heap.size + 3) (w.heap.size + 3 + 1) w3 (HNO.out.g hg13) k1 k2
  clear hw3 hzz h0 h1 h2 hg1 hg13 k1 k2
  go_wp2_with fail
  clear hfn
  refine range_wp2 (gf := 32) (lb := #[.pointer (some ⟨w.heap.size + 3, 0, none⟩), .pointer (some ⟨w.heap.size + 3 + 1, 0, none⟩)]) (fun x W => W.alloc (.cells #[.int .i64 x.1, .int .i64 x.2] 40)) (fun x W => (G.refl W).alloc _) rfl (enters_of Try.func32 (by kernel_rfl) rfl)
    hseq (G.refl _) (fun k hk => by omega) (fun k hk => hk.elim) (fun _ => rfl)
    (fun pre Fo W => FBox (w.heap.size + 1) 22 (.slice none 0 0) Fo W ∧ FBox (w.heap.size + 2) 22 (.slice none 0 0) Fo W ∧ FG w Fo W)
    (fun c pre Fo W => False)
    (fun p => (Stable.box _ _ _).and ((Stable.box _ _ _).and (Stable.fg _)))
    (fun c p => Stable.pure _)
    ⟨⟨fun h => by omega, hb1⟩, ⟨fun h => by omega, hb2⟩, fun k hk => by omega, hgw3⟩
    ?a1 ?assign ?body ?done ?stop
  case assign =>
    intro l x W K hK
    simp only [encI, iv]
    gi_wp2
    exact hK
  case stop =>
    intro D cc pre It Fo W W3 hD hDl hIF hFD hIt hFo hpart hfr hff hK
    exact hff.elim
  case body =>
    rintro l pre x Fo W0 W hW0 hW3 hfrW hfo hfl hsz2 hI hpre
    exact hpre.elim
  case done =>
    rintro D l2 It Fo W W3 hD hDl hIF hFD hIt hFo rfl hfr ⟨⟨hn1, hx1⟩, ⟨hn2, hx2⟩, hfg, hg⟩ hK
    have cc2 := hx2.cell
    have cc1 := hx1.cell
    have ff1 := hx1.frozen
    have HK := Lib.hid hK
    clear hK hseq hfr
    go_wp2_with fail
    have x1 := hx1.set (.slice none 0 0)
    have hst : Fr (fun k => k = w.heap.size + 1) W (W.setCell ⟨w.heap.size + 1, 0, none⟩ (.slice none 0 0)) := (Fr.refl (fun k => k = w.heap.size + 1) W).setCell (p := ⟨w.heap.size + 1, 0, none⟩) (.inl rfl) _
    have k2 := (hst.block D hDl (by omega)).trans HK.out
    have hg5 : G w (W.setCell ⟨w.heap.size + 1, 0, none⟩ (.slice none 0 0)) := hg.setCell (by simp) _
    generalize (W.setCell ⟨w.heap.size + 1, 0, none⟩ (.slice none 0 0)) = W5 at x1 k2 hg5 ⊢
    have b1 := boxed_putObj (o := .deferred none) x1 (show w.heap.size + 1 ≠ D by omega)
    refine leave_mark (D := D) k2 (leave_nil (v := .slice none 0 0) (by simp [results, Try.results17, go_sem, b1.cell]) ⟨rfl, hg5.putObj (by omega) _⟩)
end Go.Proofs.Ythdeehpnlcpbnaa
