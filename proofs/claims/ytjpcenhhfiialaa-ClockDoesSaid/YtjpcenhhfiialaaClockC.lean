/- the next close; the first ones -/
import Derived.Test.YtjpcenhhfiialaaClockB
namespace Go.Proofs.Ytjpcenhhfiialaa
set_option linter.unusedVariables false
open Go.RowKit Go.Shelf
attribute [local go_sem] Oper.semAt_some

theorem closes_any (a b s : Int) (w : World) : Calls Try.prog 25 #[.int .i64 a, .int .i64 b, .int .i64 s] w fun e w' => ∃ ba bb bs : Nat,
    e = .returned (.func (.func 29) #[] #[.pointer (some ⟨ba, 0, none⟩), .pointer (some ⟨bb, 0, none⟩), .pointer (some ⟨bs, 0, none⟩)]) ∧
    Boxed w' ba 3 (.int .i64 a) ∧ Boxed w' bb 3 (.int .i64 b) ∧ Boxed w' bs 3 (.int .i64 s) ∧ w.heap.size ≤ ba ∧ w.heap.size ≤ bb ∧ w.heap.size ≤ bs ∧ G w w' := by
  go_enter Try.func25, Try.ntmps25
  go_wp2
  go_ret
  refine ⟨_, _, _, rfl, ((Boxed.new w 3 _).alloc _).alloc _, ?_, ?_, by omega, by omega, by omega, (((G.refl _).alloc _).alloc _).alloc _⟩
  · have := (Boxed.new (w.alloc (.cells #[.int .i64 a] 3)) 3 (.int .i64 b)).alloc (.cells #[.int .i64 s] 3)
    simpa using this
  · have := Boxed.new ((w.alloc (.cells #[.int .i64 a] 3)).alloc (.cells #[.int .i64 b] 3)) 3 (.int .i64 s)
    simpa using this

theorem closesL_zero {a s : Int} (ha : mk a = true) (hs : wn s = true) : (closesL a 1099511627776 s = [] ∧ ¬ closeAt a s 0 ≤ 1099511627776) ∨ (∃ t, closesL a 1099511627776 s = closeAt a s 0 :: t ∧ closeAt a s 0 ≤ 1099511627776) := by
  obtain ⟨ha1, ha2⟩ := mk_iff.1 ha
  obtain ⟨hs1, hs2⟩ := wn_iff.1 hs
  have hM : mk 1099511627776 = true := by decide
  have hc : closesL a 1099511627776 s = (List.range (countN a 1099511627776 s).toNat).map (closeAt a s) := by simp only [closesL, ha, hM, hs, Bool.and_true, if_true]
  by_cases h : 0 < countN a 1099511627776 s
  · right
    obtain ⟨n, hn⟩ : ∃ n, (countN a 1099511627776 s).toNat = n + 1 := ⟨(countN a 1099511627776 s).toNat - 1, by omega⟩
    refine ⟨(List.range n).map (fun i => closeAt a s (i + 1)), ?_, ?_⟩
    · rw [hc, hn, List.range_succ_eq_map]; simp
    · have := closeAt_le (a := a) (b := 1099511627776) (i := 0) hs1 (by simpa using h); omega
  · left
    refine ⟨by rw [hc, show (countN a 1099511627776 s).toNat = 0 by omega]; rfl, fun hle => ?_⟩
    have h0 : past 1099511627776 s ≤ past a s := by unfold countN at h; omega
    have h1 := past_mul_lt (w := 1099511627776) hs1
    have h2 := Int.mul_le_mul_of_nonneg_right h0 (show 0 ≤ s by omega)
    unfold closeAt at hle
    simp at hle
    omega
def nextV (a s : Int) : Value := if closeAt a s 0 ≤ 1099511627776 then .tuple #[.int .i64 (closeAt a s 0), .int .i64 0] else .tuple #[.int .i64 0, .int .i64 6]

theorem next_yes (a s : Int) (w : World) (ha : mk a = true) (hs : wn s = true) :
    Calls Try.prog 7 #[.int .i64 a, .int .i64 s] w fun e w' => e = .returned (nextV a s) ∧ G w w' := by
  refine calls_of_marks Try.func7 rfl ?_
  simp only [Try.ntmps7, List.size_toArray, List.length_cons, List.length_nil, Nat.reduceAdd, Nat.reduceSub, Array.replicate_succ, Array.replicate_zero, List.push_toArray, List.append_toArray, List.nil_append, List.cons_append]
  have hb0 := ((Boxed.new w 3 (.int .i64 0)).alloc (.cells #[.int .i64 0] 22))
  have hb1 := (Boxed.new (w.alloc (.cells #[.int .i64 0] 3)) 22 (.int .i64 0))
  have hg0 : G w ((w.alloc (.cells #[.int .i64 0] 3)).alloc (.cells #[.int .i64 0] 22)) := ((G.refl w).alloc _).alloc _
  rw [World.size_alloc] at hb1
  go_wp2_with (first | (go_at_call 16; refine (mark_any _ _).mono ?_; rintro e w1 ⟨rfl, hbel⟩) | (go_at_call 24; refine (win_any s _ _ (by simp [go_sem])).mono ?_; rintro e w2 ⟨rfl, rfl⟩))
  have hsz1 := hbel.size
  have hg1 := hbel.alloc (.cells #[.int .i64 s] 3)
  refine (closes_any _ _ _ _).mono ?_
  rintro e w2 ⟨ba, bb, bs, rfl, h1, h2, h3, h4, h5, h6, h7⟩
  replace hb0 := (hg1.trans h7).boxed hb0
  replace hb1 := (hg1.trans h7).boxed hb1
  have hgw := hg0.trans (hg1.trans h7)
  have hsz := (hg1.trans h7).size
  simp only [World.size_alloc] at hsz hsz1 h4 h5 h6
  clear hg1 h7 hbel hg0
  go_wp2_with fail
  refine range_wp (gf := 29) (lb := #[.pointer (some ⟨ba, 0, none⟩), .pointer (some ⟨bb, 0, none⟩), .pointer (some ⟨bs, 0, none⟩)]) rfl (enters_of Try.func29 (by kernel_rfl) rfl)
    (closes_seq a 1099511627776 s ba bb bs w2 h1.cell h2.cell h3.cell) (G.refl _) (fun _ h => h.elim) (fun k hk => by rcases hk with rfl | rfl | rfl <;> first | exact h1.lt | exact h2.lt | exact h3.lt) (fun _ => rfl)
    (fun pre Fo W => pre = [] ∧ FBox w.heap.size 3 (.int .i64 0) Fo W ∧ FBox (w.heap.size + 1) 22 (.int .i64 0) Fo W ∧ FG w Fo W)
    (fun c pre Fo W => c = .ret ∧ ∃ x, pre = [x] ∧ FBox w.heap.size 3 (.int .i64 x) Fo W ∧ FBox (w.heap.size + 1) 22 (.int .i64 0) Fo W ∧ FG w Fo W)
    (fun p => (Stable.pure _).and ((Stable.box _ _ _).and ((Stable.box _ _ _).and (Stable.fg _))))
    (fun c p => (Stable.pure _).and (Stable.ex fun x => (Stable.pure _).and ((Stable.box _ _ _).and ((Stable.box _ _ _).and (Stable.fg _)))))
    ⟨rfl, ⟨id, hb0⟩, ⟨id, hb1⟩, fun _ h => h.elim, hgw⟩
    ?a1 ?assign ?body ?done ?stop
  case assign =>
    intro l x W K hK
    gi_wp2
    exact hK
  case body =>
    rintro l pre x Fo W hfo hfl hsz2 ⟨rfl, ⟨hn0, hx0⟩, ⟨hn1, hx1⟩, hfg, hg⟩ hpre
    have hc0 := hx0.cell
    have hf0 := hx0.frozen
    have hc1 := hx1.cell
    have hf1 := hx1.frozen
    gi_wp2
    have n1 : ¬ (w.heap.size = ba ∨ w.heap.size = bb ∨ w.heap.size = bs) := by omega
    have n2 : ¬ (w.heap.size + 1 = ba ∨ w.heap.size + 1 = bb ∨ w.heap.size + 1 = bs) := by omega
    refine ⟨((Fr.refl _ W).setCell (p := ⟨w.heap.size, 0, none⟩) (.inl (fun h => h.elim hn0 n1)) _).setCell (p := ⟨w.heap.size + 1, 0, none⟩) (.inl (fun h => h.elim hn1 n2)) _, rfl, x, rfl, ?_, ?_, ?_⟩
    · exact (FBox.set _ ⟨hn0, hx0⟩).other _ (by omega)
    · exact (FBox.other (v := .int .i64 0) _ ⟨hn1, hx1⟩ (by omega)).set _
    · exact (FG.setCell (p := ⟨w.heap.size, 0, none⟩) ⟨hfg, hg⟩ (Nat.le_refl _) _).setCell (p := ⟨w.heap.size + 1, 0, none⟩) (by simp) _
  case done =>
    rintro D xs It Fo W W3 hD hDl hIF hFD hIt hFo hdone hfr ⟨rfl, ⟨hn0, hx0⟩, ⟨hn1, hx1⟩, hfg, hg⟩ hK
    have hc0 := hx0.cell
    have hf0 := hx0.frozen
    have hc1 := hx1.cell
    have hf1 := hx1.frozen
    go_wp2_with fail
    have b0 := boxed_putObj (o := .deferred none) (boxed_other (v' := .int .i64 6) (hx0.set (.int .i64 0)) (show w.heap.size ≠ w.heap.size + 1 by omega)) (show w.heap.size ≠ D by omega)
    have b1 := boxed_putObj (o := .deferred none) ((boxed_other (v' := .int .i64 0) hx1 (show w.heap.size + 1 ≠ w.heap.size by omega)).set (.int .i64 6)) (show w.heap.size + 1 ≠ D by omega)
    refine leave_mark (D := D) ?_ (leave_nil (v := .tuple #[.int .i64 0, .int .i64 6]) (by simp [results, Try.results7, go_sem, b0.cell, b1.cell]) ⟨?_, ?_⟩)
    · rw [Below.heap_setCell _ _ _ _ (by simp; omega), Below.heap_setCell _ _ _ _ (by simp; omega)]; exact hK
    · rcases closesL_zero ha hs with ⟨_, h⟩ | ⟨t, h, _⟩
      · rw [nextV, if_neg h]
      · rw [h] at hdone; cases hdone
    · exact ((hg.setCell (p := ⟨w.heap.size, 0, none⟩) (Nat.le_refl _) _).setCell (p := ⟨w.heap.size + 1, 0, none⟩) (by simp) _).putObj (by omega) _
  case stop =>
    rintro D c pre It Fo W W3 hD hDl hIF hFD hIt hFo hpart hfr ⟨rfl, x, rfl, ⟨hn0, hx0⟩, ⟨hn1, hx1⟩, hfg, hg⟩ hK
    have hc0 := hx0.cell
    have hf0 := hx0.frozen
    have hc1 := hx1.cell
    have hf1 := hx1.frozen
    go_wp2_with fail
    have b0 := boxed_putObj (o := .deferred none) hx0 (show w.heap.size ≠ D by omega)
    have b1 := boxed_putObj (o := .deferred none) hx1 (show w.heap.size + 1 ≠ D by omega)
    refine leave_mark (D := D) hK (leave_nil (v := .tuple #[.int .i64 x, .int .i64 0]) (by simp [results, Try.results7, go_sem, b0.cell, b1.cell]) ⟨?_, hg.putObj (by omega) _⟩)
    rcases closesL_zero ha hs with ⟨h, _⟩ | ⟨t, h, h'⟩
    · rw [h] at hpart; simp at hpart
    · rw [h] at hpart
      obtain ⟨r, hr⟩ := hpart
      simp at hr
      rw [nextV, if_pos h', hr.1]
end Go.Proofs.Ytjpcenhhfiialaa
