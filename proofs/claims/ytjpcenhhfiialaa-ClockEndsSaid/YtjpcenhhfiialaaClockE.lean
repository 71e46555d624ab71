/- the document's next close, counts; where windows begin; what is in them -/
import Derived.Test.YtjpcenhhfiialaaClockD
namespace Go.Proofs.Ytjpcenhhfiialaa
set_option linter.unusedVariables false
open Go.RowKit Go.Shelf

theorem rNext_any (a s : Int) (w : World) : Calls Try.prog 8 #[.int .i64 a, .int .i64 s] w fun e w' => e = .returned (nextR a s) ∧ w = w' := by
  cases h1 : mk a
  · have HV := Lib.hid (show nextR a s = .tuple #[.int .i64 0, .int .i64 2] by simp [nextR, h1])
    go_enter Try.func8, Try.ntmps8
    go_wp2_with (first | (go_at_call 17; refine (rMark_any _ _).mono ?_; rintro e w' ⟨rfl, rfl⟩) | (go_at_call 26; refine (rWin_any _ _).mono ?_; rintro e w' ⟨rfl, rfl⟩))
    go_ret2
    exact ⟨by rw [HV.out]; first | rfl | (simp; omega), rfl⟩
  · cases h2 : wn s
    · have HV := Lib.hid (show nextR a s = .tuple #[.int .i64 0, .int .i64 2] by simp [nextR, h2])
      go_enter Try.func8, Try.ntmps8
      go_wp2_with (first | (go_at_call 17; refine (rMark_any _ _).mono ?_; rintro e w' ⟨rfl, rfl⟩) | (go_at_call 26; refine (rWin_any _ _).mono ?_; rintro e w' ⟨rfl, rfl⟩))
      go_ret2
      exact ⟨by rw [HV.out]; first | rfl | (simp; omega), rfl⟩
    · obtain ⟨ha1, ha2⟩ := mk_iff.1 h1
      obtain ⟨hs1, hs2⟩ := wn_iff.1 h2
      obtain ⟨q1, q2⟩ := past_bd hs1 ha2
      have hm := past_mul (w := a) hs1
      have hm0 : 0 ≤ past a s * s := Int.mul_nonneg q1 (by omega)
      have e1 : (past a s + 1) * s = past a s * s + s := by rw [Int.add_mul]; omega
      have hc : closeAt a s 0 = (past a s + 1) * s := by rw [e1]; unfold closeAt; simp
      have q3 : 0 ≤ (past a s + 1) * s := by omega
      have q4 : (past a s + 1) * s ≤ 1099512676352 := by omega
      by_cases h3 : (past a s + 1) * s ≤ 1099511627776
      · have HV := Lib.hid (show nextR a s = .tuple #[.int .i64 ((past a s + 1) * s), .int .i64 0] by simp [nextR, h1, h2, nextV, hc, h3])
        clear hc e1
        go_enter Try.func8, Try.ntmps8
        go_wp2_with (first | (go_at_call 17; refine (rMark_any _ _).mono ?_; rintro e w' ⟨rfl, rfl⟩) | (go_at_call 26; refine (rWin_any _ _).mono ?_; rintro e w' ⟨rfl, rfl⟩) | (go_at_call 27; refine (down_any _ _ _ hs1 ha2).mono ?_; rintro e w' ⟨rfl, rfl⟩))
        go_ret2
        exact ⟨by rw [HV.out]; first | rfl | (simp; omega), rfl⟩
      · have HV := Lib.hid (show nextR a s = .tuple #[.int .i64 0, .int .i64 6] by simp [nextR, h1, h2, nextV, hc, h3])
        clear hc e1
        go_enter Try.func8, Try.ntmps8
        go_wp2_with (first | (go_at_call 17; refine (rMark_any _ _).mono ?_; rintro e w' ⟨rfl, rfl⟩) | (go_at_call 26; refine (rWin_any _ _).mono ?_; rintro e w' ⟨rfl, rfl⟩) | (go_at_call 27; refine (down_any _ _ _ hs1 ha2).mono ?_; rintro e w' ⟨rfl, rfl⟩))
        go_ret2
        exact ⟨by rw [HV.out]; first | rfl | (simp; omega), rfl⟩

/-! counts -/
def countV (a b s : Int) : Value := if (mk a && mk b && wn s) = true then .tuple #[.int .i64 (countN a b s), .int .i64 0] else .tuple #[.int .i64 0, .int .i64 2]
theorem count_any (a b s : Int) (w : World) : Calls Try.prog 9 #[.int .i64 a, .int .i64 b, .int .i64 s] w fun e w' => e = .returned (countV a b s) ∧ G w w' := by
  cases h : (mk a && mk b && wn s)
  · exact (count_no a b s w h).mono fun e w' ⟨h1, g⟩ => ⟨by rw [h1]; simp [countV, h], g⟩
  · have h' := h
    simp only [Bool.and_eq_true] at h'
    exact (count_yes a b s w h'.1.1 h'.1.2 h'.2).mono fun e w' ⟨h1, g⟩ => ⟨by rw [h1]; simp only [countV, h, if_true], g⟩
theorem rCount_any (a b s : Int) (w : World) : Calls Try.prog 10 #[.int .i64 a, .int .i64 b, .int .i64 s] w fun e w' => e = .returned (countV a b s) ∧ w = w' := by
  cases h1 : mk a
  · have HV := Lib.hid (show countV a b s = .tuple #[.int .i64 0, .int .i64 2] by simp [countV, h1])
    go_enter Try.func10, Try.ntmps10
    go_wp2_with (first | (go_at_call 17; refine (rMark_any _ _).mono ?_; rintro e w' ⟨rfl, rfl⟩) | (go_at_call 26; refine (rWin_any _ _).mono ?_; rintro e w' ⟨rfl, rfl⟩))
    go_ret2
    exact ⟨by rw [HV.out]; first | rfl | (simp; omega), rfl⟩
  · cases h2 : mk b
    · have HV := Lib.hid (show countV a b s = .tuple #[.int .i64 0, .int .i64 2] by simp [countV, h2])
      go_enter Try.func10, Try.ntmps10
      go_wp2_with (first | (go_at_call 17; refine (rMark_any _ _).mono ?_; rintro e w' ⟨rfl, rfl⟩) | (go_at_call 26; refine (rWin_any _ _).mono ?_; rintro e w' ⟨rfl, rfl⟩))
      go_ret2
      exact ⟨by rw [HV.out]; first | rfl | (simp; omega), rfl⟩
    · cases h3 : wn s
      · have HV := Lib.hid (show countV a b s = .tuple #[.int .i64 0, .int .i64 2] by simp [countV, h3])
        go_enter Try.func10, Try.ntmps10
        go_wp2_with (first | (go_at_call 17; refine (rMark_any _ _).mono ?_; rintro e w' ⟨rfl, rfl⟩) | (go_at_call 26; refine (rWin_any _ _).mono ?_; rintro e w' ⟨rfl, rfl⟩))
        go_ret2
        exact ⟨by rw [HV.out]; first | rfl | (simp; omega), rfl⟩
      · obtain ⟨ha1, ha2⟩ := mk_iff.1 h1
        obtain ⟨hb1, hb2⟩ := mk_iff.1 h2
        obtain ⟨hs1, hs2⟩ := wn_iff.1 h3
        obtain ⟨q1, q2⟩ := past_bd hs1 ha2
        obtain ⟨q3, q4⟩ := past_bd hs1 hb2
        have p1 : past b s - past a s < 0 → countV a b s = .tuple #[.int .i64 0, .int .i64 0] := fun h => by simp only [countV, h1, h2, h3, Bool.and_true, if_true]; rw [show countN a b s = 0 by unfold countN; omega]
        have p2 : 0 ≤ past b s - past a s → countV a b s = .tuple #[.int .i64 (past b s - past a s), .int .i64 0] := fun h => by simp only [countV, h1, h2, h3, Bool.and_true, if_true]; rw [show countN a b s = past b s - past a s by unfold countN; omega]
        have P1 := Lib.hid p1
        have P2 := Lib.hid p2
        clear p1 p2
        go_enter Try.func10, Try.ntmps10
        go_wp2_with (first | (go_at_call 17; refine (rMark_any _ _).mono ?_; rintro e w' ⟨rfl, rfl⟩) | (go_at_call 26; refine (rWin_any _ _).mono ?_; rintro e w' ⟨rfl, rfl⟩) | (go_at_call 27; refine (down_any _ _ _ hs1 (by assumption)).mono ?_; rintro e w' ⟨rfl, rfl⟩))
        · go_ret2
          exact ⟨by rw [P1.out (by assumption)]; rfl, rfl⟩
        · go_ret2
          exact ⟨by rw [P2.out (by assumption)]; rfl, rfl⟩

/-! windows -/
def beginN (c r : Int) : Int := max (c - r) (-1)
def beginV (c r : Int) : Value := if (tm c && wn r) = true then .tuple #[.int .i64 (beginN c r), .int .i64 0] else .tuple #[.int .i64 0, .int .i64 2]
theorem begin_any (c r : Int) (w : World) : Calls Try.prog 11 #[.int .i64 c, .int .i64 r] w fun e w' => e = .returned (beginV c r) ∧ G w w' := by
  cases h1 : tm c
  · have HV := Lib.hid (show beginV c r = .tuple #[.int .i64 0, .int .i64 2] by simp [beginV, h1])
    go_enter Try.func11, Try.ntmps11
    go_wp2_with (first | (go_at_call 14; refine (is_any _ _).mono ?_; rintro e w' ⟨rfl, hbel⟩) | (go_at_call 24; refine (win_any r _ _ (by simp [go_sem])).mono ?_; rintro e w' ⟨rfl, rfl⟩))
    go_ret2
    exact ⟨by rw [HV.out]; first | rfl | (simp; omega), by assumption⟩
  · cases h2 : wn r
    · have HV := Lib.hid (show beginV c r = .tuple #[.int .i64 0, .int .i64 2] by simp [beginV, h2])
      go_enter Try.func11, Try.ntmps11
      go_wp2_with (first | (go_at_call 14; refine (is_any _ _).mono ?_; rintro e w' ⟨rfl, hbel⟩) | (go_at_call 24; refine (win_any r _ _ (by simp [go_sem])).mono ?_; rintro e w' ⟨rfl, rfl⟩))
      go_ret2
      exact ⟨by rw [HV.out]; first | rfl | (simp; omega), G.alloc (by assumption) _⟩
    · obtain ⟨ha1, ha2⟩ := tm_iff.1 h1
      obtain ⟨hs1, hs2⟩ := wn_iff.1 h2
      have p1 : c - r < -1 → beginV c r = .tuple #[.int .i64 (-1), .int .i64 0] := fun h => by simp only [beginV, h1, h2, Bool.and_true, if_true]; rw [show beginN c r = -1 by unfold beginN; omega]
      have p2 : -1 ≤ c - r → beginV c r = .tuple #[.int .i64 (c - r), .int .i64 0] := fun h => by simp only [beginV, h1, h2, Bool.and_true, if_true]; rw [show beginN c r = c - r by unfold beginN; omega]
      have P1 := Lib.hid p1
      have P2 := Lib.hid p2
      clear p1 p2
      by_cases h3 : c - r < -1
      · go_enter Try.func11, Try.ntmps11
        go_wp2_with (first | (go_at_call 14; refine (is_any _ _).mono ?_; rintro e w' ⟨rfl, hbel⟩) | (go_at_call 24; refine (win_any r _ _ (by simp [go_sem])).mono ?_; rintro e w' ⟨rfl, rfl⟩))
        go_ret2
        exact ⟨by rw [P1.out h3]; rfl, G.alloc (by assumption) _⟩
      · go_enter Try.func11, Try.ntmps11
        go_wp2_with (first | (go_at_call 14; refine (is_any _ _).mono ?_; rintro e w' ⟨rfl, hbel⟩) | (go_at_call 24; refine (win_any r _ _ (by simp [go_sem])).mono ?_; rintro e w' ⟨rfl, rfl⟩))
        go_ret2
        exact ⟨by rw [P2.out (by omega)]; rfl, G.alloc (by assumption) _⟩
theorem rBegin_any (c r : Int) (w : World) : Calls Try.prog 12 #[.int .i64 c, .int .i64 r] w fun e w' => e = .returned (beginV c r) ∧ w = w' := by
  cases h1 : tm c
  · have HV := Lib.hid (show beginV c r = .tuple #[.int .i64 0, .int .i64 2] by simp [beginV, h1])
    go_enter Try.func12, Try.ntmps12
    go_wp2_with (first | (go_at_call 15; refine (rIs_any _ _).mono ?_; rintro e w' ⟨rfl, rfl⟩) | (go_at_call 26; refine (rWin_any _ _).mono ?_; rintro e w' ⟨rfl, rfl⟩))
    go_ret2
    exact ⟨by rw [HV.out]; first | rfl | (simp; omega), rfl⟩
  · cases h2 : wn r
    · have HV := Lib.hid (show beginV c r = .tuple #[.int .i64 0, .int .i64 2] by simp [beginV, h2])
      go_enter Try.func12, Try.ntmps12
      go_wp2_with (first | (go_at_call 15; refine (rIs_any _ _).mono ?_; rintro e w' ⟨rfl, rfl⟩) | (go_at_call 26; refine (rWin_any _ _).mono ?_; rintro e w' ⟨rfl, rfl⟩))
      go_ret2
      exact ⟨by rw [HV.out]; first | rfl | (simp; omega), rfl⟩
    · obtain ⟨ha1, ha2⟩ := tm_iff.1 h1
      obtain ⟨hs1, hs2⟩ := wn_iff.1 h2
      have p1 : c - r < -1 → beginV c r = .tuple #[.int .i64 (-1), .int .i64 0] := fun h => by simp only [beginV, h1, h2, Bool.and_true, if_true]; rw [show beginN c r = -1 by unfold beginN; omega]
      have p2 : -1 ≤ c - r → beginV c r = .tuple #[.int .i64 (c - r), .int .i64 0] := fun h => by simp only [beginV, h1, h2, Bool.and_true, if_true]; rw [show beginN c r = c - r by unfold beginN; omega]
      have P1 := Lib.hid p1
      have P2 := Lib.hid p2
      clear p1 p2
      by_cases h3 : c - r < -1
      · go_enter Try.func12, Try.ntmps12
        go_wp2_with (first | (go_at_call 15; refine (rIs_any _ _).mono ?_; rintro e w' ⟨rfl, rfl⟩) | (go_at_call 26; refine (rWin_any _ _).mono ?_; rintro e w' ⟨rfl, rfl⟩))
        go_ret2
        exact ⟨by rw [P1.out h3]; rfl, rfl⟩
      · go_enter Try.func12, Try.ntmps12
        go_wp2_with (first | (go_at_call 15; refine (rIs_any _ _).mono ?_; rintro e w' ⟨rfl, rfl⟩) | (go_at_call 26; refine (rWin_any _ _).mono ?_; rintro e w' ⟨rfl, rfl⟩))
        go_ret2
        exact ⟨by rw [P2.out (by omega)]; rfl, rfl⟩

def inB (t c r : Int) : Bool := tm t && tm c && wn r && decide (c - r < t ∧ t ≤ c)
theorem in_any (t c r : Int) (w : World) : Calls Try.prog 18 #[.int .i64 t, .int .i64 c, .int .i64 r] w fun e w' => e = .returned (.bool (inB t c r)) ∧ G w w' := by
  cases h1 : (tm c && wn r)
  · have HB := Lib.hid (show beginV c r = .tuple #[.int .i64 0, .int .i64 2] by simp [beginV, h1])
    have HV := Lib.hid (show inB t c r = false by simp only [inB]; rw [Bool.and_assoc (tm t), h1]; simp)
    go_enter Try.func18, Try.ntmps18
    go_wp2_with fail
    refine (begin_any _ _ _).mono ?_; rw [HB.out]; rintro e w' ⟨rfl, hg⟩
    go_wp2_with fail
    go_ret
    exact ⟨by rw [HV.out]; first | rfl | (simp; omega), hg⟩
  · have HB := Lib.hid (show beginV c r = .tuple #[.int .i64 (beginN c r), .int .i64 0] by simp [beginV, h1])
    simp only [Bool.and_eq_true] at h1
    obtain ⟨hc, hr⟩ := h1
    obtain ⟨hc1, hc2⟩ := tm_iff.1 hc
    cases h2 : tm t
    · have HV := Lib.hid (show inB t c r = false by simp [inB, h2])
      go_enter Try.func18, Try.ntmps18
      go_wp2_with fail
      refine (begin_any _ _ _).mono ?_; rw [HB.out]; rintro e w' ⟨rfl, hg⟩
      go_wp2_with (first | (go_at_call 14; refine (is_any _ _).mono ?_; rintro e w2 ⟨rfl, hbel⟩))
      go_ret
      exact ⟨by rw [HV.out]; first | rfl | (simp; omega), hg.trans (by assumption)⟩
    · obtain ⟨ht1, ht2⟩ := tm_iff.1 h2
      by_cases h3 : beginN c r < t
      · by_cases h4 : t ≤ c
        · have HV := Lib.hid (show inB t c r = true by simp [inB, h2, hc, hr]; unfold beginN at h3; omega)
          go_enter Try.func18, Try.ntmps18
          go_wp2_with fail
          refine (begin_any _ _ _).mono ?_; rw [HB.out]; rintro e w' ⟨rfl, hg⟩
          go_wp2_with (first | (go_at_call 14; refine (is_any _ _).mono ?_; rintro e w2 ⟨rfl, hbel⟩))
          go_ret
          exact ⟨by rw [HV.out]; first | rfl | (simp; omega), hg.trans (by assumption)⟩
        · have HV := Lib.hid (show inB t c r = false by simp [inB, h2, hc, hr]; omega)
          go_enter Try.func18, Try.ntmps18
          go_wp2_with fail
          refine (begin_any _ _ _).mono ?_; rw [HB.out]; rintro e w' ⟨rfl, hg⟩
          go_wp2_with (first | (go_at_call 14; refine (is_any _ _).mono ?_; rintro e w2 ⟨rfl, hbel⟩))
          go_ret
          exact ⟨by rw [HV.out]; first | rfl | (simp; omega), hg.trans (by assumption)⟩
      · have HV := Lib.hid (show inB t c r = false by simp [inB, h2, hc, hr]; unfold beginN at h3; omega)
        go_enter Try.func18, Try.ntmps18
        go_wp2_with fail
        refine (begin_any _ _ _).mono ?_; rw [HB.out]; rintro e w' ⟨rfl, hg⟩
        go_wp2_with (first | (go_at_call 14; refine (is_any _ _).mono ?_; rintro e w2 ⟨rfl, hbel⟩))
        go_ret
        exact ⟨by rw [HV.out]; first | rfl | (simp; omega), hg.trans (by assumption)⟩
theorem rIn_any (t c r : Int) (w : World) : Calls Try.prog 19 #[.int .i64 t, .int .i64 c, .int .i64 r] w fun e w' => e = .returned (.bool (inB t c r)) ∧ w = w' := by
  cases h2 : tm t
  · have HV := Lib.hid (show inB t c r = false by simp [inB, h2])
    go_enter Try.func19, Try.ntmps19
    go_wp2_with (first | (go_at_call 15; refine (rIs_any _ _).mono ?_; rintro e w' ⟨rfl, rfl⟩) | (go_at_call 26; refine (rWin_any _ _).mono ?_; rintro e w' ⟨rfl, rfl⟩))
    go_ret
    exact ⟨by rw [HV.out]; first | rfl | (simp; omega), rfl⟩
  · cases hc : tm c
    · have HV := Lib.hid (show inB t c r = false by simp [inB, hc])
      go_enter Try.func19, Try.ntmps19
      go_wp2_with (first | (go_at_call 15; refine (rIs_any _ _).mono ?_; rintro e w' ⟨rfl, rfl⟩) | (go_at_call 26; refine (rWin_any _ _).mono ?_; rintro e w' ⟨rfl, rfl⟩))
      go_ret
      exact ⟨by rw [HV.out]; first | rfl | (simp; omega), rfl⟩
    · cases hr : wn r
      · have HV := Lib.hid (show inB t c r = false by simp [inB, hr])
        go_enter Try.func19, Try.ntmps19
        go_wp2_with (first | (go_at_call 15; refine (rIs_any _ _).mono ?_; rintro e w' ⟨rfl, rfl⟩) | (go_at_call 26; refine (rWin_any _ _).mono ?_; rintro e w' ⟨rfl, rfl⟩))
        go_ret
        exact ⟨by rw [HV.out]; first | rfl | (simp; omega), rfl⟩
      · obtain ⟨hc1, hc2⟩ := tm_iff.1 hc
        obtain ⟨hr1, hr2⟩ := wn_iff.1 hr
        by_cases h3 : c - r < t
        · by_cases h4 : t ≤ c
          · have HV := Lib.hid (show inB t c r = true by simp [inB, h2, hc, hr]; omega)
            go_enter Try.func19, Try.ntmps19
            go_wp2_with (first | (go_at_call 15; refine (rIs_any _ _).mono ?_; rintro e w' ⟨rfl, rfl⟩) | (go_at_call 26; refine (rWin_any _ _).mono ?_; rintro e w' ⟨rfl, rfl⟩))
            go_ret
            exact ⟨by rw [HV.out]; first | rfl | (simp; omega), rfl⟩
          · have HV := Lib.hid (show inB t c r = false by simp [inB, h2, hc, hr]; omega)
            go_enter Try.func19, Try.ntmps19
            go_wp2_with (first | (go_at_call 15; refine (rIs_any _ _).mono ?_; rintro e w' ⟨rfl, rfl⟩) | (go_at_call 26; refine (rWin_any _ _).mono ?_; rintro e w' ⟨rfl, rfl⟩))
            go_ret
            exact ⟨by rw [HV.out]; first | rfl | (simp; omega), rfl⟩
        · have HV := Lib.hid (show inB t c r = false by simp [inB, h2, hc, hr]; omega)
          go_enter Try.func19, Try.ntmps19
          go_wp2_with (first | (go_at_call 15; refine (rIs_any _ _).mono ?_; rintro e w' ⟨rfl, rfl⟩) | (go_at_call 26; refine (rWin_any _ _).mono ?_; rintro e w' ⟨rfl, rfl⟩))
          go_ret
          exact ⟨by rw [HV.out]; first | rfl | (simp; omega), rfl⟩
end Go.Proofs.Ytjpcenhhfiialaa
