/- no heap: its items -/
import Derived.Test.YthdeehpnlcpbnaaHeapN
namespace Go.Proofs.Ythdeehpnlcpbnaa
set_option linter.unusedVariables false
set_option linter.unusedSimpArgs false
open Go.RowKit Go.Shelf
attribute [local go_sem] Oper.semAt_some

set_option maxHeartbeats 1000000 in
theorem items_no (v : Value) (w : World) (h : NoHeap w v) :
    Calls Try.prog 22 #[v] w fun e w' => e = .returned (.slice none 0 0) ∧ G w w' := by
  have hw1 : G w (w.alloc (.cells #[.slice none 0 0] 22)) := (G.refl w).alloc _
  have HC := Lib.hid (copy_no (h.g hw1))
  obtain ⟨key, hkey⟩ : ∃ key : Int, key = 9223372036854775807 := ⟨_, rfl⟩
  have HKEY := Lib.hid hkey
  have hb0 : Boxed (w.alloc (.cells #[.slice none 0 0] 22)) w.heap.size 22 (.slice none 0 0) := boxed_at w [_] 0 _ _ rfl
  clear h hkey
  refine calls_of_marks Try.func22 rfl ?_
  simp only [Try.ntmps22, List.size_toArray, List.length_cons, List.length_nil, Nat.reduceAdd, Nat.reduceSub, Array.replicate_succ, Array.replicate_zero, List.push_toArray, List.append_toArray, List.nil_append, List.cons_append]
  go_wp2_with fail
  refine HC.out.mono ?_
  rintro e w2 ⟨rfl, rfl⟩
  have hno : NoHeap (w.alloc (.cells #[.slice none 0 0] 22)) (.pointer none) := .inl rfl
  have hzz : (w.alloc (.cells #[.slice none 0 0] 22)).heap.size = w.heap.size + 1 := by simp
  generalize (w.alloc (.cells #[.slice none 0 0] 22)) = w2 at hw1 hb0 hno hzz ⊢
  have HZZ := Lib.hid hzz
  have hzle : w.heap.size + 1 ≤ w2.heap.size := by omega
  clear HC hzz
  go_wp2_with fail
  have hup := upto_no hno key
  rw [HKEY.out] at hup
  refine hup.mono ?_
  rintro e w3 ⟨rfl, hw3⟩
  have hg23 : G w2 w3 := by rw [hw3]; exact ((G.refl w2).alloc _).alloc _
  have h1 : Boxed w3 w2.heap.size 26 (.pointer none) := by rw [hw3]; exact boxed_at w2 [_, _] 0 _ _ rfl
  have h2 : Boxed w3 (w2.heap.size + 1) 3 (.int .i64 key) := by rw [hw3, HKEY.out]; exact boxed_at w2 [_, _] 1 _ _ rfl
  have hz3 : w2.heap.size + 2 ≤ w3.heap.size := by rw [hw3]; exact Nat.le_of_eq (allocs_size w2 [_, _]).symm
  clear hw3 hup
  have hseq := upto_seq_no (.pointer none) key w2.heap.size (w2.heap.size + 1) w3 (.inl rfl) h1 h2
  have hgw3 := hw1.trans hg23
  have hb3 := hg23.boxed hb0
  have hit : ∀ k, (k = w2.heap.size ∨ k = w2.heap.size + 1) → w.heap.size + 1 ≤ k ∧ k < w3.heap.size := fun k hk => by have := HZZ.out; omega
  have HIT := Lib.hid hit
  clear h1 h2 hit
  go_wp2_with fail
  refine range_wp2 (gf := 32) (lb := #[.pointer (some ⟨w2.heap.size, 0, none⟩), .pointer (some ⟨w2.heap.size + 1, 0, none⟩)]) (fun x W => W.alloc (.cells #[.int .i64 x.1, .int .i64 x.2] 40)) (fun x W => (G.refl W).alloc _) rfl (enters_of Try.func32 (by kernel_rfl) rfl)
    hseq (G.refl _) (fun k hk => (HIT.out k hk).2) (fun k hk => hk.elim) (fun _ => rfl)
    (fun pre Fo W => FBox w.heap.size 22 (.slice none 0 0) Fo W ∧ FG w Fo W)
    (fun c pre Fo W => False)
    (fun p => (Stable.box _ _ _).and (Stable.fg _))
    (fun c p => Stable.pure _)
    ⟨⟨fun h => by have := (HIT.out _ h).1; omega, hb3⟩, fun k hk => by have := (HIT.out k hk).1; omega, hgw3⟩
    ?a1 ?assign ?body ?done ?stop
  case assign =>
    intro l x W K hK
    simp only [encI, iv]
    gi_wp2
    exact hK
  case stop =>
    intro D cc pre It Fo W W3 hD hDl hIF hFD hIt hFo hpart hfr hff hK
    exact hff.elim
  case body =>
    rintro l pre x Fo W0 W hW0 hW3 hfrW hfo hfl hsz2 hI hpre
    exact hpre.elim
  case done =>
    rintro D l2 It Fo W W3 hD hDl hIF hFD hIt hFo rfl hfr ⟨⟨hn0, hx0⟩, hfg, hg⟩ hK
    have hc0 := hx0.cell
    have hf0 := hx0.frozen
    have HK := Lib.hid hK
    clear hK hseq hfr
    go_wp2_with fail
    have x1 := hx0.set (.slice none 0 0)
    have hst : Fr (fun k => k = w.heap.size) W (W.setCell ⟨w.heap.size, 0, none⟩ (.slice none 0 0)) := (Fr.refl (fun k => k = w.heap.size) W).setCell (p := ⟨w.heap.size, 0, none⟩) (.inl rfl) _
    have k2 := (hst.block D hDl (by omega)).trans HK.out
    have hg5 : G w (W.setCell ⟨w.heap.size, 0, none⟩ (.slice none 0 0)) := hg.setCell (by simp) _
    generalize (W.setCell ⟨w.heap.size, 0, none⟩ (.slice none 0 0)) = W5 at x1 k2 hg5 ⊢
    have b1 := boxed_putObj (o := .deferred none) x1 (show w.heap.size ≠ D by omega)
    refine leave_mark (D := D) k2 (leave_nil (v := .slice none 0 0) (by simp [results, Try.results22, go_sem, b1.cell]) ⟨rfl, hg5.putObj (by omega) _⟩)
end Go.Proofs.Ythdeehpnlcpbnaa
