/- contracts of the clock's functions that no iterator reaches -/
import Derived.Test.YtjpcenhhfiialaaBase
namespace Go.Proofs.Ytjpcenhhfiialaa
set_option linter.unusedVariables false
open Go.RowKit

def mk (a : Int) : Bool := decide (-1 ≤ a ∧ a ≤ 1099511627776)
def tm (a : Int) : Bool := decide (0 ≤ a ∧ a ≤ 1099511627776)
def wn (a : Int) : Bool := decide (1 ≤ a ∧ a ≤ 1048576)
def sm (a b : Int) : Bool := decide (-1099511627776 ≤ a ∧ a ≤ 1099511627776 ∧ -1099511627776 ≤ b ∧ b ≤ 1099511627776)
theorem mk_iff {a : Int} : mk a = true ↔ -1 ≤ a ∧ a ≤ 1099511627776 := by simp [mk]
theorem tm_iff {a : Int} : tm a = true ↔ 0 ≤ a ∧ a ≤ 1099511627776 := by simp [tm]
theorem wn_iff {a : Int} : wn a = true ↔ 1 ≤ a ∧ a ≤ 1048576 := by simp [wn]
theorem sm_iff {a b : Int} : sm a b = true ↔ -1099511627776 ≤ a ∧ a ≤ 1099511627776 ∧ -1099511627776 ≤ b ∧ b ≤ 1099511627776 := by simp [sm]
def past (w s : Int) : Int := max w 0 / s
theorem past_bd {w s : Int} (h1 : 1 ≤ s) (hw : w ≤ 1099511627776) : 0 ≤ past w s ∧ past w s ≤ 1099511627776 := by
  unfold past
  have h0 : 0 ≤ max w 0 := by omega
  refine ⟨Int.ediv_nonneg h0 (by omega), ?_⟩
  have := Int.ediv_le_self s h0
  omega
def countN (a b s : Int) : Int := max (past b s - past a s) 0

theorem within1 (lo hi a : Int) (b : Nat) (w : World) (hc : w.cell? ⟨b, 0, none⟩ = some (.int .i64 a)) :
    Calls Try.prog 24 #[.int .i64 lo, .int .i64 hi, .slice (some ⟨b, 0, none⟩) 1 1] w fun e w' => e = .returned (.bool (decide (lo ≤ a ∧ a ≤ hi))) ∧ w = w' := by
  go_enter Try.func24, Try.ntmps24
  go_wp2
  go_rounds 3
  all_goals go_returns
  all_goals (simp; omega)

theorem within2 (lo hi a c : Int) (b : Nat) (w : World) (hc : w.cell? ⟨b, 0, none⟩ = some (.int .i64 a)) (hc1 : w.cell? ⟨b, 1, none⟩ = some (.int .i64 c)) :
    Calls Try.prog 24 #[.int .i64 lo, .int .i64 hi, .slice (some ⟨b, 0, none⟩) 2 2] w fun e w' => e = .returned (.bool (decide (lo ≤ a ∧ a ≤ hi ∧ lo ≤ c ∧ c ≤ hi))) ∧ w = w' := by
  go_enter Try.func24, Try.ntmps24
  go_wp2
  go_rounds 4
  all_goals go_returns
  all_goals (simp; omega)
theorem win_any (a : Int) (b : Nat) (w : World) (hc : w.cell? ⟨b, 0, none⟩ = some (.int .i64 a)) :
    Calls Try.prog 24 #[.int .i64 1, .int .i64 1048576, .slice (some ⟨b, 0, none⟩) 1 1] w fun e w' => e = .returned (.bool (wn a)) ∧ w = w' := within1 1 1048576 a b w hc
theorem sum_any (a c : Int) (b : Nat) (w : World) (hc : w.cell? ⟨b, 0, none⟩ = some (.int .i64 a)) (hc1 : w.cell? ⟨b, 1, none⟩ = some (.int .i64 c)) :
    Calls Try.prog 24 #[.int .i64 (-1099511627776), .int .i64 1099511627776, .slice (some ⟨b, 0, none⟩) 2 2] w fun e w' => e = .returned (.bool (sm a c)) ∧ w = w' := within2 _ _ a c b w hc hc1

theorem mark_any (a : Int) (w : World) :
    Calls Try.prog 16 #[.int .i64 a] w fun e w' => e = .returned (.bool (mk a)) ∧ G w w' := by
  have h : ∀ (b : Nat) (w : World) (hc : w.cell? ⟨b, 0, none⟩ = some (.int .i64 a)),
    Calls Try.prog 24 #[.int .i64 (-1), .int .i64 1099511627776, .slice (some ⟨b, 0, none⟩) 1 1] w fun e w' => e = .returned (.bool (mk a)) ∧ w = w' := fun b w hc => within1 (-1) 1099511627776 a b w hc
  go_enter Try.func16, Try.ntmps16
  go_wp2_with (go_at_call 24; refine (h _ _ (by simp [go_sem])).mono ?_; rintro e w' ⟨rfl, rfl⟩)
  go_ret
  exact ⟨rfl, (G.refl _).alloc _⟩
theorem is_any (a : Int) (w : World) :
    Calls Try.prog 14 #[.int .i64 a] w fun e w' => e = .returned (.bool (tm a)) ∧ G w w' := by
  have h : ∀ (b : Nat) (w : World) (hc : w.cell? ⟨b, 0, none⟩ = some (.int .i64 a)),
    Calls Try.prog 24 #[.int .i64 0, .int .i64 1099511627776, .slice (some ⟨b, 0, none⟩) 1 1] w fun e w' => e = .returned (.bool (tm a)) ∧ w = w' := fun b w hc => within1 0 1099511627776 a b w hc
  go_enter Try.func14, Try.ntmps14
  go_wp2_with (go_at_call 24; refine (h _ _ (by simp [go_sem])).mono ?_; rintro e w' ⟨rfl, rfl⟩)
  go_ret
  exact ⟨rfl, (G.refl _).alloc _⟩
theorem past_any (a s : Int) (w : World) (h1 : 1 ≤ s) (ha : a ≤ 1099511627776) :
    Calls Try.prog 28 #[.int .i64 a, .int .i64 s] w fun e w' => e = .returned (.int .i64 (past a s)) ∧ w = w' := by
  have p1 : a < 0 → past a s = 0 := fun h => by unfold past; rw [show max a 0 = 0 by omega]; simp
  have p2 : 0 ≤ a → past a s = a / s := fun h => by unfold past; rw [show max a 0 = a by omega]
  have P1 := Lib.hid p1
  have P2 := Lib.hid p2
  clear p1 p2
  go_enter Try.func28, Try.ntmps28
  go_wp2
  · go_ret
    exact ⟨by rw [P1.out (by assumption)]; rfl, rfl⟩
  · go_ret
    exact ⟨by rw [P2.out (by assumption)]; rfl, rfl⟩
theorem count_no (a b s : Int) (w : World) (h : (mk a && mk b && wn s) = false) :
    Calls Try.prog 9 #[.int .i64 a, .int .i64 b, .int .i64 s] w fun e w' => e = .returned (.tuple #[.int .i64 0, .int .i64 2]) ∧ G w w' := by
  by_cases ha : mk a = true
  · by_cases hb : mk b = true
    · have hs : wn s = false := by simpa [ha, hb] using h
      clear h
      go_enter Try.func9, Try.ntmps9
      go_wp2_with (first | (go_at_call 16; refine (mark_any _ _).mono ?_; rintro e w' ⟨rfl, hbel⟩) | (go_at_call 24; refine (win_any s _ _ (by simp [go_sem])).mono ?_; rintro e w' ⟨rfl, rfl⟩))
      go_ret2
      exact ⟨rfl, by repeat (first | exact G.refl _ | assumption | apply G.alloc | refine G.trans ?_ (by assumption))⟩
    · simp only [Bool.not_eq_true] at hb
      clear h
      go_enter Try.func9, Try.ntmps9
      go_wp2_with (first | (go_at_call 16; refine (mark_any _ _).mono ?_; rintro e w' ⟨rfl, hbel⟩) | (go_at_call 24; refine (win_any s _ _ (by simp [go_sem])).mono ?_; rintro e w' ⟨rfl, rfl⟩))
      go_ret2
      exact ⟨rfl, by repeat (first | exact G.refl _ | assumption | apply G.alloc | refine G.trans ?_ (by assumption))⟩
  · simp only [Bool.not_eq_true] at ha
    clear h
    go_enter Try.func9, Try.ntmps9
    go_wp2_with (first | (go_at_call 16; refine (mark_any _ _).mono ?_; rintro e w' ⟨rfl, hbel⟩) | (go_at_call 24; refine (win_any s _ _ (by simp [go_sem])).mono ?_; rintro e w' ⟨rfl, rfl⟩))
    go_ret2
    exact ⟨rfl, by repeat (first | exact G.refl _ | assumption | apply G.alloc | refine G.trans ?_ (by assumption))⟩
theorem count_yes (a b s : Int) (w : World) (ha : mk a = true) (hb : mk b = true) (hs : wn s = true) :
    Calls Try.prog 9 #[.int .i64 a, .int .i64 b, .int .i64 s] w fun e w' => e = .returned (.tuple #[.int .i64 (countN a b s), .int .i64 0]) ∧ G w w' := by
  obtain ⟨ha1, ha2⟩ := mk_iff.1 ha
  obtain ⟨hb1, hb2⟩ := mk_iff.1 hb
  obtain ⟨hs1, hs2⟩ := wn_iff.1 hs
  obtain ⟨q1, q2⟩ := past_bd hs1 ha2
  obtain ⟨q3, q4⟩ := past_bd hs1 hb2
  have p1 : past b s - past a s < 0 → countN a b s = 0 := fun h => by unfold countN; omega
  have p2 : 0 ≤ past b s - past a s → countN a b s = past b s - past a s := fun h => by unfold countN; omega
  have P1 := Lib.hid p1
  have P2 := Lib.hid p2
  clear p1 p2
  go_enter Try.func9, Try.ntmps9
  go_wp2_with (first | (go_at_call 16; refine (mark_any _ _).mono ?_; rintro e w' ⟨rfl, hbel⟩) | (go_at_call 24; refine (win_any s _ _ (by simp [go_sem])).mono ?_; rintro e w' ⟨rfl, rfl⟩) | (go_at_call 28; refine (past_any _ _ _ hs1 (by assumption)).mono ?_; rintro e w' ⟨rfl, rfl⟩))
  · go_ret2
    exact ⟨by rw [P1.out (by assumption)]; rfl, by repeat (first | exact G.refl _ | assumption | apply G.alloc | refine G.trans ?_ (by assumption))⟩
  · go_ret2
    exact ⟨by rw [P2.out (by assumption)]; rfl, by repeat (first | exact G.refl _ | assumption | apply G.alloc | refine G.trans ?_ (by assumption))⟩
end Go.Proofs.Ytjpcenhhfiialaa
