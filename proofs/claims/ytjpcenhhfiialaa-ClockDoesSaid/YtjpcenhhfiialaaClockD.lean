/- the other functions of the clock, and the document's -/
import Derived.Test.YtjpcenhhfiialaaClockC
namespace Go.Proofs.Ytjpcenhhfiialaa
set_option linter.unusedVariables false
open Go.RowKit Go.Shelf

/-! the document's tests -/
theorem rIs_any (a : Int) (w : World) : Calls Try.prog 15 #[.int .i64 a] w fun e w' => e = .returned (.bool (tm a)) ∧ w = w' := by
  by_cases h0 : 0 ≤ a
  · by_cases h1 : a ≤ 1099511627776
    · have hv : tm a = true := by simp [tm, h0, h1]
      have HV := Lib.hid hv
      clear hv
      go_enter Try.func15, Try.ntmps15
      go_wp2
      go_ret
      exact ⟨by rw [HV.out]; rfl, rfl⟩
    · have hv : tm a = false := by simp [tm, h1]
      have HV := Lib.hid hv
      clear hv
      go_enter Try.func15, Try.ntmps15
      go_wp2
      go_ret
      exact ⟨by rw [HV.out]; rfl, rfl⟩
  · have hv : tm a = false := by simp [tm, h0]
    have HV := Lib.hid hv
    clear hv
    go_enter Try.func15, Try.ntmps15
    go_wp2
    go_ret
    exact ⟨by rw [HV.out]; rfl, rfl⟩
theorem rWin_any (a : Int) (w : World) : Calls Try.prog 26 #[.int .i64 a] w fun e w' => e = .returned (.bool (wn a)) ∧ w = w' := by
  by_cases h0 : 1 ≤ a
  · by_cases h1 : a ≤ 1048576
    · have hv : wn a = true := by simp [wn, h0, h1]
      have HV := Lib.hid hv
      clear hv
      go_enter Try.func26, Try.ntmps26
      go_wp2
      go_ret
      exact ⟨by rw [HV.out]; rfl, rfl⟩
    · have hv : wn a = false := by simp [wn, h1]
      have HV := Lib.hid hv
      clear hv
      go_enter Try.func26, Try.ntmps26
      go_wp2
      go_ret
      exact ⟨by rw [HV.out]; rfl, rfl⟩
  · have hv : wn a = false := by simp [wn, h0]
    have HV := Lib.hid hv
    clear hv
    go_enter Try.func26, Try.ntmps26
    go_wp2
    go_ret
    exact ⟨by rw [HV.out]; rfl, rfl⟩
theorem rMark_any (a : Int) (w : World) : Calls Try.prog 17 #[.int .i64 a] w fun e w' => e = .returned (.bool (mk a)) ∧ w = w' := by
  cases h0 : (a == -1)
  · have hv : mk a = tm a := by have : a ≠ -1 := by simpa using h0
                                rw [Bool.eq_iff_iff, mk_iff, tm_iff]; omega
    have HV := Lib.hid hv
    clear hv
    go_enter Try.func17, Try.ntmps17
    go_wp2_with (go_at_call 15; refine (rIs_any _ _).mono ?_; rintro e w' ⟨rfl, rfl⟩)
    go_ret
    exact ⟨by rw [HV.out]; rfl, rfl⟩
  · have hv : mk a = true := by have : a = -1 := by simpa using h0
                                subst this; rfl
    have HV := Lib.hid hv
    clear hv
    go_enter Try.func17, Try.ntmps17
    go_wp2
    go_ret
    exact ⟨by rw [HV.out]; rfl, rfl⟩
theorem down_any (a s : Int) (w : World) (h1 : 1 ≤ s) (ha : a ≤ 1099511627776) : Calls Try.prog 27 #[.int .i64 a, .int .i64 s] w fun e w' => e = .returned (.int .i64 (past a s)) ∧ w = w' := by
  have p1 : a < 0 → past a s = 0 := fun h => by unfold past; rw [show max a 0 = 0 by omega]; simp
  have p2 : 0 ≤ a → past a s = a / s := fun h => by unfold past; rw [show max a 0 = a by omega]
  have P1 := Lib.hid p1
  have P2 := Lib.hid p2
  clear p1 p2
  by_cases h0 : a < 0
  · go_enter Try.func27, Try.ntmps27
    go_wp2
    go_ret
    exact ⟨by rw [P1.out (by assumption)]; rfl, rfl⟩
  · go_enter Try.func27, Try.ntmps27
    go_wp2
    go_ret
    exact ⟨by rw [P2.out (by omega)]; rfl, rfl⟩

/-! sums -/
def addV (a b : Int) : Value := if (sm a b && mk (a + b)) = true then .tuple #[.int .i64 (a + b), .int .i64 0] else .tuple #[.int .i64 0, .int .i64 6]
theorem add_any (a b : Int) (w : World) : Calls Try.prog 5 #[.int .i64 a, .int .i64 b] w fun e w' => e = .returned (addV a b) ∧ G w w' := by
  cases h1 : sm a b
  · have HV := Lib.hid (show addV a b = .tuple #[.int .i64 0, .int .i64 6] by simp [addV, h1])
    go_enter Try.func5, Try.ntmps5
    go_wp2_with (first | (go_at_call 24; refine (sum_any a b _ _ (by simp [go_sem]) (by simp [go_sem])).mono ?_; rintro e w' ⟨rfl, rfl⟩))
    go_ret2
    exact ⟨by rw [HV.out]; rfl, (G.refl _).alloc _⟩
  · obtain ⟨b1, b2, b3, b4⟩ := sm_iff.1 h1
    cases h2 : mk (a + b)
    · have HV := Lib.hid (show addV a b = .tuple #[.int .i64 0, .int .i64 6] by simp [addV, h1, h2])
      go_enter Try.func5, Try.ntmps5
      go_wp2_with (first | (go_at_call 24; refine (sum_any a b _ _ (by simp [go_sem]) (by simp [go_sem])).mono ?_; rintro e w' ⟨rfl, rfl⟩) | (go_at_call 16; refine (mark_any _ _).mono ?_; rintro e w' ⟨rfl, hbel⟩))
      go_ret2
      exact ⟨by rw [HV.out]; rfl, ((G.refl _).alloc _).trans (by assumption)⟩
    · have HV := Lib.hid (show addV a b = .tuple #[.int .i64 (a + b), .int .i64 0] by simp [addV, h1, h2])
      go_enter Try.func5, Try.ntmps5
      go_wp2_with (first | (go_at_call 24; refine (sum_any a b _ _ (by simp [go_sem]) (by simp [go_sem])).mono ?_; rintro e w' ⟨rfl, rfl⟩) | (go_at_call 16; refine (mark_any _ _).mono ?_; rintro e w' ⟨rfl, hbel⟩))
      go_ret2
      exact ⟨by rw [HV.out]; rfl, ((G.refl _).alloc _).trans (by assumption)⟩
theorem rAdd_any (a b : Int) (w : World) : Calls Try.prog 6 #[.int .i64 a, .int .i64 b] w fun e w' => e = .returned (addV a b) ∧ w = w' := by
  by_cases b1 : -1099511627776 ≤ a
  · by_cases b2 : a ≤ 1099511627776
    · by_cases b3 : -1099511627776 ≤ b
      · by_cases b4 : b ≤ 1099511627776
        · cases h2 : mk (a + b)
          · have HV := Lib.hid (show addV a b = .tuple #[.int .i64 0, .int .i64 6] by simp [addV, h2])
            go_enter Try.func6, Try.ntmps6
            go_wp2_with (go_at_call 17; refine (rMark_any _ _).mono ?_; rintro e w' ⟨rfl, rfl⟩)
            go_ret2
            exact ⟨by rw [HV.out]; rfl, rfl⟩
          · have HV := Lib.hid (show addV a b = .tuple #[.int .i64 (a + b), .int .i64 0] by simp [addV, sm, h2, b1, b2, b3, b4])
            go_enter Try.func6, Try.ntmps6
            go_wp2_with (go_at_call 17; refine (rMark_any _ _).mono ?_; rintro e w' ⟨rfl, rfl⟩)
            go_ret2
            exact ⟨by rw [HV.out]; rfl, rfl⟩
        · have HV := Lib.hid (show addV a b = .tuple #[.int .i64 0, .int .i64 6] by simp [addV, sm, b4])
          go_enter Try.func6, Try.ntmps6
          go_wp2
          go_ret2
          exact ⟨by rw [HV.out]; rfl, rfl⟩
      · have HV := Lib.hid (show addV a b = .tuple #[.int .i64 0, .int .i64 6] by simp [addV, sm, b3])
        go_enter Try.func6, Try.ntmps6
        go_wp2
        go_ret2
        exact ⟨by rw [HV.out]; rfl, rfl⟩
    · have HV := Lib.hid (show addV a b = .tuple #[.int .i64 0, .int .i64 6] by simp [addV, sm, b2])
      go_enter Try.func6, Try.ntmps6
      go_wp2
      go_ret2
      exact ⟨by rw [HV.out]; rfl, rfl⟩
  · have HV := Lib.hid (show addV a b = .tuple #[.int .i64 0, .int .i64 6] by simp [addV, sm, b1])
    go_enter Try.func6, Try.ntmps6
    go_wp2
    go_ret2
    exact ⟨by rw [HV.out]; rfl, rfl⟩

/-! the next close -/
def nextR (a s : Int) : Value := if (mk a && wn s) = true then nextV a s else .tuple #[.int .i64 0, .int .i64 2]
theorem next_any (a s : Int) (w : World) : Calls Try.prog 7 #[.int .i64 a, .int .i64 s] w fun e w' => e = .returned (nextR a s) ∧ G w w' := by
  cases h1 : mk a
  · have HV := Lib.hid (show nextR a s = .tuple #[.int .i64 0, .int .i64 2] by simp [nextR, h1])
    refine calls_of_marks Try.func7 rfl ?_
    simp only [Try.ntmps7, List.size_toArray, List.length_cons, List.length_nil, Nat.reduceAdd, Nat.reduceSub, Array.replicate_succ, Array.replicate_zero, List.push_toArray, List.append_toArray, List.nil_append, List.cons_append]
    have hb0 := ((Boxed.new w 3 (.int .i64 0)).alloc (.cells #[.int .i64 0] 22))
    have hb1 := (Boxed.new (w.alloc (.cells #[.int .i64 0] 3)) 22 (.int .i64 0))
    have hg0 : G w ((w.alloc (.cells #[.int .i64 0] 3)).alloc (.cells #[.int .i64 0] 22)) := ((G.refl w).alloc _).alloc _
    rw [World.size_alloc] at hb1
    go_wp2_with fail
    refine (mark_any _ _).mono ?_; rintro e w1 ⟨rfl, hbel⟩
    have c0 := (hbel.boxed hb0).cell
    have f0 := (hbel.boxed hb0).frozen
    have c1 := (hbel.boxed hb1).cell
    have f1 := (hbel.boxed hb1).frozen
    go_wp2_with fail
    have b0 := boxed_other (v' := .int .i64 2) ((hbel.boxed hb0).set (.int .i64 0)) (show w.heap.size ≠ w.heap.size + 1 by omega)
    have b1 := (boxed_other (v' := .int .i64 0) (hbel.boxed hb1) (show w.heap.size + 1 ≠ w.heap.size by omega)).set (.int .i64 2)
    refine leave_nil (v := .tuple #[.int .i64 0, .int .i64 2]) (by simp [results, Try.results7, go_sem, b0.cell, b1.cell]) ⟨by rw [HV.out], ?_⟩
    exact ((hg0.trans hbel).setCell (p := ⟨w.heap.size, 0, none⟩) (Nat.le_refl _) _).setCell (p := ⟨w.heap.size + 1, 0, none⟩) (by simp) _
  · cases h2 : wn s
    · have HV := Lib.hid (show nextR a s = .tuple #[.int .i64 0, .int .i64 2] by simp [nextR, h2])
      refine calls_of_marks Try.func7 rfl ?_
      simp only [Try.ntmps7, List.size_toArray, List.length_cons, List.length_nil, Nat.reduceAdd, Nat.reduceSub, Array.replicate_succ, Array.replicate_zero, List.push_toArray, List.append_toArray, List.nil_append, List.cons_append]
      have hb0 := ((Boxed.new w 3 (.int .i64 0)).alloc (.cells #[.int .i64 0] 22))
      have hb1 := (Boxed.new (w.alloc (.cells #[.int .i64 0] 3)) 22 (.int .i64 0))
      have hg0 : G w ((w.alloc (.cells #[.int .i64 0] 3)).alloc (.cells #[.int .i64 0] 22)) := ((G.refl w).alloc _).alloc _
      rw [World.size_alloc] at hb1
      go_wp2_with fail
      refine (mark_any _ _).mono ?_; rintro e w1 ⟨rfl, hbel⟩
      go_wp2_with fail
      refine (win_any s _ _ (by simp [go_sem])).mono ?_; rintro e w2 ⟨rfl, rfl⟩
      have hb0' := (hbel.boxed hb0).alloc (.cells #[.int .i64 s] 3)
      have hb1' := (hbel.boxed hb1).alloc (.cells #[.int .i64 s] 3)
      have c0 := hb0'.cell
      have f0 := hb0'.frozen
      have c1 := hb1'.cell
      have f1 := hb1'.frozen
      go_wp2_with fail
      have b0 := boxed_other (v' := .int .i64 2) (hb0'.set (.int .i64 0)) (show w.heap.size ≠ w.heap.size + 1 by omega)
      have b1 := (boxed_other (v' := .int .i64 0) hb1' (show w.heap.size + 1 ≠ w.heap.size by omega)).set (.int .i64 2)
      refine leave_nil (v := .tuple #[.int .i64 0, .int .i64 2]) (by simp [results, Try.results7, go_sem, b0.cell, b1.cell]) ⟨by rw [HV.out], ?_⟩
      exact (((hg0.trans hbel).alloc _).setCell (p := ⟨w.heap.size, 0, none⟩) (Nat.le_refl _) _).setCell (p := ⟨w.heap.size + 1, 0, none⟩) (by simp) _
    · exact (next_yes a s w h1 h2).mono fun e w' ⟨h, g⟩ => ⟨by rw [h]; simp [nextR, h1, h2], g⟩
end Go.Proofs.Ytjpcenhhfiialaa
