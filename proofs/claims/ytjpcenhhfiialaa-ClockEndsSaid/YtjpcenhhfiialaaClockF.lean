/- the first closes, gone through; the document's; the law -/
import Derived.Test.YtjpcenhhfiialaaClockE
import Derived.Test.YtjpcenhhfiialaaOwn
namespace Go.Proofs.Ytjpcenhhfiialaa
set_option linter.unusedVariables false
open Go.RowKit Go.Shelf
attribute [local go_sem] Oper.semAt_some

theorem info3 : (Try.prog.info? 3).map (fun i => (i.zero, i.size, i.bytes)) = some (some (.int .i64 0), 1, 8) := by kernel_rfl
def ints (l : List Int) : List Value := l.map (Value.int .i64)

/-- so many of them at most -/
def firstL (a b s m : Int) : List Int := (closesL a b s).take m.toNat

theorem pick_any (x n : Int) (w : World) (hx : -9223372036854775808 ≤ x) (hx2 : x ≤ 9223372036854775807) (hn : 1 ≤ n) (hn2 : n ≤ 9223372036854775807) :
    Calls Try.prog 13 #[.int .i64 x, .int .i64 n] w fun e w' => e = .returned (.int .i64 (x % n)) ∧ w = w' := by
  have ht := Int.emod_nonneg x (show n ≠ 0 by omega)
  have ht2 := Int.emod_lt_of_pos x (show 0 < n by omega)
  have htm : x.tmod n = if x % n = 0 ∨ 0 ≤ x then x % n else x % n - n := by
    rw [Int.tmod_eq_emod]
    simp only [Int.dvd_iff_emod_eq_zero]
    by_cases h : 0 ≤ x
    · simp [h]
    · by_cases h2 : x % n = 0 <;> simp [h, h2]; omega
  by_cases h : x % n = 0 ∨ 0 ≤ x
  · rw [if_pos h] at htm
    have hp : 0 ≤ x.tmod n := by omega
    have HT := Lib.hid htm
    clear htm ht ht2 h
    go_enter Try.func13, Try.ntmps13
    go_wp2
    go_ret
    exact ⟨by rw [← HT.out]; rfl, rfl⟩
  · rw [if_neg h] at htm
    have hp : x.tmod n < 0 := by omega
    have hp2 : 0 ≤ x.tmod n + n := by omega
    have hp3 : x.tmod n + n ≤ 9223372036854775807 := by omega
    have HT := Lib.hid (show x.tmod n + n = x % n by omega)
    clear htm ht ht2 h
    go_enter Try.func13, Try.ntmps13
    go_wp2
    go_ret
    exact ⟨by rw [← HT.out]; rfl, rfl⟩

theorem eql_seq36 (bs : Array Value) (w : World) : (binOp .eql 36 (.func (.func 29) #[] bs) .nilFunc).run Try.prog w = .ok (.bool false) w := by kernel_rfl
set_option maxHeartbeats 400000 in
theorem first_any (a b s m : Int) (w : World) (hm : 0 ≤ m) (hm2 : m ≤ 600) :
    Calls Try.prog 21 #[.int .i64 a, .int .i64 b, .int .i64 s, .int .i64 m] w fun e w' => ∃ v, e = .returned v ∧ w'.ownsRow w.heap.size 3 1 v (firstL a b s m).length (ints (firstL a b s m)) ∧ G w w' := by
  obtain ⟨i0, hi, hz0, hz1, hz2⟩ := info_parts info3
  refine calls_of_marks Try.func21 rfl ?_
  simp only [Try.ntmps21, List.size_toArray, List.length_cons, List.length_nil, Nat.reduceAdd, Nat.reduceSub, Array.replicate_succ, Array.replicate_zero, List.push_toArray, List.append_toArray, List.nil_append, List.cons_append]
  have hb0 := ((Boxed.new w 3 (.int .i64 m)).alloc (.cells #[.slice none 0 0] 30)).alloc (.cells #[.slice none 0 0] 30)
  have hb1 := (Boxed.new (w.alloc (.cells #[.int .i64 m] 3)) 30 (.slice none 0 0)).alloc (.cells #[.slice none 0 0] 30)
  have hb2 := (Boxed.new ((w.alloc (.cells #[.int .i64 m] 3)).alloc (.cells #[.slice none 0 0] 30)) 30 (.slice none 0 0))
  have hg0 : G w (((w.alloc (.cells #[.int .i64 m] 3)).alloc (.cells #[.slice none 0 0] 30)).alloc (.cells #[.slice none 0 0] 30)) := (((G.refl w).alloc _).alloc _).alloc _
  simp only [World.size_alloc] at hb1 hb2
  go_wp2_with fail
  refine (closes_any _ _ _ _).mono ?_
  rintro e w2 ⟨ba, bb, bs, rfl, h1, h2, h3, h4, h5, h6, h7⟩
  replace hb0 := h7.boxed hb0
  replace hb1 := h7.boxed hb1
  replace hb2 := h7.boxed hb2
  have hgw := hg0.trans h7
  have hsz := h7.size
  simp only [World.size_alloc] at hsz h4 h5 h6
  have c0 := hb0.cell
  have c1 := hb1.cell
  have f1 := hb1.frozen
  clear h7 hg0
  by_cases hm1 : m < 1
  · have hf : firstL a b s m = [] := by rw [firstL, show m.toNat = 0 by omega]; rfl
    go_wp2_with fail
    have hb1' := hb1.set (.slice none 0 0)
    refine leave_nil (v := .slice none 0 0) (by simp [results, Try.results21, go_sem, hb1'.cell]) ⟨_, rfl, ?_, hgw.setCell (p := ⟨w.heap.size + 1, 0, none⟩) (by simp) _⟩
    rw [hf]; exact World.ownsRow_nil _ _ _ _
  · have he := eql_seq36 #[.pointer (some ⟨ba, 0, none⟩), .pointer (some ⟨bb, 0, none⟩), .pointer (some ⟨bs, 0, none⟩)]
    go_wp2_with fail
    refine range_wp (gf := 29) (lb := #[.pointer (some ⟨ba, 0, none⟩), .pointer (some ⟨bb, 0, none⟩), .pointer (some ⟨bs, 0, none⟩)]) rfl (enters_of Try.func29 (by kernel_rfl) rfl)
      (closes_seq a b s ba bb bs w2 h1.cell h2.cell h3.cell) (G.refl _) (fun _ h => h.elim) (fun k hk => by rcases hk with rfl | rfl | rfl <;> first | exact h1.lt | exact h2.lt | exact h3.lt) (fun _ => rfl)
      (fun pre Fo W => ∃ v, (pre.length < m.toNat) ∧ FBox w.heap.size 3 (.int .i64 m) Fo W ∧ FBox (w.heap.size + 1) 30 (.slice none 0 0) Fo W ∧ FBox (w.heap.size + 1 + 1) 30 v Fo W ∧ FRow w2.heap.size 3 1 v pre.length (ints pre) Fo W ∧ FG w Fo W)
      (fun c pre Fo W => ∃ v, c = .ret ∧ pre.length = m.toNat ∧ FBox (w.heap.size + 1) 30 v Fo W ∧ FRow w2.heap.size 3 1 v pre.length (ints pre) Fo W ∧ FG w Fo W)
      (fun p => Stable.ex fun v => (Stable.pure _).and ((Stable.box _ _ _).and ((Stable.box _ _ _).and ((Stable.box _ _ _).and ((Stable.row _ _ _ _ _ _).and (Stable.fg _))))))
      (fun c p => Stable.ex fun v => (Stable.pure _).and ((Stable.pure _).and ((Stable.box _ _ _).and ((Stable.row _ _ _ _ _ _).and (Stable.fg _)))))
      ⟨.slice none 0 0, by simp; omega, ⟨id, hb0⟩, ⟨id, hb1⟩, ⟨id, hb2⟩, ⟨fun _ _ => id, World.ownsRow_nil _ _ _ _⟩, fun _ h => h.elim, hgw⟩
      ?a1 ?assign ?body ?done ?stop
    case assign =>
      intro l x W K hK
      gi_wp2
      exact hK
    case body =>
      rintro l pre x Fo W hfo hfl hsz2 ⟨v, hlt, ⟨hn0, hx0⟩, ⟨hn1, hx1⟩, ⟨hn2, hx2⟩, ⟨hnr, hrow⟩, hfg, hg⟩ hpre
      have hc0 := hx0.cell
      have hc1 := hx1.cell
      have hf1 := hx1.frozen
      have hc2 := hx2.cell
      have hf2 := hx2.frozen
      have hxl : (closesL a b s).length < 1099511627777 + 1 := by
        unfold closesL; split
        · rename_i hok; simp only [Bool.and_eq_true] at hok
          have hbd := past_bd (wn_iff.1 hok.2).1 (mk_iff.1 hok.1.2).2
          have hbd2 := past_bd (wn_iff.1 hok.2).1 (mk_iff.1 hok.1.1).2
          have : countN a b s ≤ 1099511627776 := by unfold countN; omega
          simp; omega
        · simp
      have HH := Lib.hid hpre
      clear hpre hxl
      gi_wp2_with (gi_at_builtin; refine wpListIn_append2 _ rfl _ _ 30 rfl w2.heap.size 3 i0 (.int .i64 0) 1 8 Try.underlying30 hi hz0 hz1 hz2 rfl (by decide) v pre.length (ints pre) rfl (hrow.alloc _) ⟨W.heap.size, 0, none⟩ 1 1 [.int .i64 x] rfl rfl (cell_one_new _ _ _) (by simp [Value.oneCell']) (by unfold maxLen; omega) (by omega) (by simp; omega) ?_; intro v' w1 hown' hgrow _ hgb; obtain ⟨g', cap', rfl⟩ := ownsRow_succ hown'; obtain ⟨hr', hf'⟩ := FRow.appended ⟨hnr, hrow⟩ hown' hgrow hgb hfl; have ho : ∀ B, B < w2.heap.size → v.ownBlock ≠ some B := fun B hB e => (by have := (hrow.lt B e).1; omega); have hx2' := hf'.boxed hx2 (ho _ (by omega)); have hx1' := hf'.boxed hx1 (ho _ (by omega)); have hx0' := hf'.boxed hx0 (ho _ (by omega)); have hc0' := hx0'.cell; have hc1' := hx1'.cell; have hf1' := hx1'.frozen; have hc2' := hx2'.cell; have hf2' := hx2'.frozen; clear hgb)
      all_goals
        have hFr := (hf'.ofRow (Ro := fun k => k = ba ∨ k = bb ∨ k = bs) ⟨hnr, hrow⟩ (fun k hk => by have l1 := h1.lt; have l2 := h2.lt; have l3 := h3.lt; omega))
        have hG' : FG w Fo w1 := ⟨hfg, (hg.alloc (.cells #[.int .i64 x] 3)).grown hgrow (fun k hk => by have := (hrow.lt k hk).1; omega)⟩
        have n1 : ¬ (w.heap.size + 1 = ba ∨ w.heap.size + 1 = bb ∨ w.heap.size + 1 = bs) := by omega
        have n2 : ¬ (w.heap.size + 1 + 1 = ba ∨ w.heap.size + 1 + 1 = bb ∨ w.heap.size + 1 + 1 = bs) := by omega
        have e1 : ints (pre ++ [x]) = ints pre ++ [.int .i64 x] := by simp [ints]
        have e2 : (pre ++ [x]).length = pre.length + 1 := by simp
      · have hmm : m ≤ ↑pre.length + 1 := by assumption
        refine ⟨(hFr.setCell (p := ⟨w.heap.size + 1 + 1, 0, none⟩) (.inl (fun h => h.elim hn2 n2)) _).setCell (p := ⟨w.heap.size + 1, 0, none⟩) (.inl (fun h => h.elim hn1 n1)) _, .slice (some ⟨g', 0, none⟩) (pre.length + 1) cap', rfl, by rw [e2]; omega, ?_, ?_, ?_⟩
        · exact (FBox.other (B' := w.heap.size + 1 + 1) _ ⟨hn1, hx1'⟩ (by omega)).set _
        · rw [e1, e2]; exact (hr'.setCell (p := ⟨w.heap.size + 1 + 1, 0, none⟩) (by simp; omega) _).setCell (p := ⟨w.heap.size + 1, 0, none⟩) (by simp; omega) _
        · exact (hG'.setCell (p := ⟨w.heap.size + 1 + 1, 0, none⟩) (by simp; omega) _).setCell (p := ⟨w.heap.size + 1, 0, none⟩) (by simp) _
      · have hmm : ↑pre.length + 1 < m := by assumption
        refine ⟨hFr.setCell (p := ⟨w.heap.size + 1 + 1, 0, none⟩) (.inl (fun h => h.elim hn2 n2)) _, .slice (some ⟨g', 0, none⟩) (pre.length + 1) cap', by rw [e2]; omega, ?_, ?_, ?_, ?_, ?_⟩
        · exact FBox.other _ ⟨hn0, hx0'⟩ (by omega)
        · exact FBox.other _ ⟨hn1, hx1'⟩ (by omega)
        · exact FBox.set _ ⟨hn2, hx2'⟩
        · rw [e1, e2]; exact hr'.setCell (p := ⟨w.heap.size + 1 + 1, 0, none⟩) (by simp; omega) _
        · exact hG'.setCell (p := ⟨w.heap.size + 1 + 1, 0, none⟩) (by simp; omega) _
    case done =>
      rintro D xs It Fo W W3 hD hDl hIF hFD hIt hFo rfl hfr ⟨v, hlt, ⟨hn0, hx0⟩, ⟨hn1, hx1⟩, ⟨hn2, hx2⟩, ⟨hnr, hrow⟩, hfg, hg⟩ hK
      have hf : firstL a b s m = closesL a b s := List.take_of_length_le (by omega)
      obtain ⟨pv, cv, rfl⟩ := ownsRow_shape hrow
      have hc0 := hx0.cell
      have hc1 := hx1.cell
      have hf1 := hx1.frozen
      have hc2 := hx2.cell
      go_wp2_with fail
      have hb1' := boxed_putObj (o := .deferred none) (hx1.set (.slice pv (closesL a b s).length cv)) (show w.heap.size + 1 ≠ D by omega)
      refine leave_mark (D := D) (by rw [Below.heap_setCell _ _ _ _ (by simp; omega)]; exact hK) (leave_nil (v := .slice pv (closesL a b s).length cv) ?_ ⟨_, rfl, ?_, (hg.setCell (p := ⟨w.heap.size + 1, 0, none⟩) (by simp) _).putObj (by omega) _⟩)
      · simp [results, Try.results21, go_sem, hb1'.cell]
      · rw [hf]; exact ownsRow_mono (ownsRow_putObj2 (ownsRow_setCell_below hrow (by simp; omega) _) (by rw [Below.heap_setCell _ _ _ _ (by simp; omega)]; exact hK)) (by omega)
    case stop =>
      rintro D c pre It Fo W W3 hD hDl hIF hFD hIt hFo hpart hfr ⟨v, rfl, hlt, ⟨hn1, hx1⟩, ⟨hnr, hrow⟩, hfg, hg⟩ hK
      have hf : firstL a b s m = pre := by rw [firstL, ← hlt]; exact (List.prefix_iff_eq_take.1 hpart).symm
      go_wp2_with fail
      have hb1' := boxed_putObj (o := .deferred none) hx1 (show w.heap.size + 1 ≠ D by omega)
      refine leave_mark (D := D) hK (leave_nil (v := v) (by simp [results, Try.results21, go_sem, hb1'.cell]) ⟨_, rfl, ?_, hg.putObj (by omega) _⟩)
      rw [hf]; exact ownsRow_mono (ownsRow_putObj2 hrow hK) (by omega)
end Go.Proofs.Ytjpcenhhfiialaa
