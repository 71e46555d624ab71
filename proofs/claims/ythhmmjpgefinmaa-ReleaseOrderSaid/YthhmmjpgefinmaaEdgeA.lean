/- laid together: EdgeA -/
import Derived.Test.YthhmmjpgefinmaaNameA
import Derived.Test.YthhmmjpgefinmaaGB
import Derived.Lib.Small
import Derived.Sort.QuietIn
import Derived.Deep.CutBlock
import Derived.BigQuiet
import Derived.BigRegion
import Derived.Deep.LoopGhost
import Derived.Deep.QuietTactic
/- edges: values that are right, times -/
namespace Go.Proofs.Ythhmmjpgefinmaa
set_option linter.unusedVariables false
set_option linter.unusedSimpArgs false
open Go.RowKit Go.Shelf
attribute [local go_sem] Oper.semAt_some

def okB (c : UInt8) : Bool := decide (32 ≤ c.toNat) && decide (c.toNat ≤ 126) && decide (c.toNat ≠ 34) && decide (c.toNat ≠ 92)
def plainB (s : ByteArray) : Bool := s.data.toList.all okB
/-- a value: its kind, its number, its text -/
abbrev Val := Int × Int × ByteArray
def vv (x : Val) : Value := .agg #[.int .i64 x.1, .int .i64 x.2.1, .string x.2.2]
def numR (n : Int) : Bool := decide (-1099511627776 ≤ n) && decide (n ≤ 1099511627776)
def rightV (x : Val) : Bool := if x.1 = 1 then decide (x.2.2.size = 0) && numR x.2.1 else if x.1 = 2 then decide (x.2.1 = 0) && decide (x.2.2.size ≤ 40) && plainB x.2.2 else false
def timeB (t : Int) : Bool := decide (0 ≤ t) && decide (t ≤ 1099511627776)
theorem str_empty (s : ByteArray) (h : s.size = 0) : s.toList.isEmpty = true := by
  have hem : s.data.toList = [] := List.eq_nil_of_length_eq_zero (by exact h)
  rw [ByteArray.toList_eq, hem]; rfl

theorem ok_take_succ (s : ByteArray) (k : Nat) (h : k < s.size) : (s.data.toList.take (k + 1)).all okB = ((s.data.toList.take k).all okB && okB (s[k]'h)) := by
  rw [List.take_succ_eq_append_getElem (by simpa using h), List.all_append]; simp; rfl
theorem plain_false_of (s : ByteArray) (k : Nat) (h : k < s.size) (hc : okB (s[k]'h) = false) : plainB s = false := by
  unfold plainB
  rw [List.all_eq_false]; exact ⟨s[k]'h, by have : s[k]'h = s.data.toList[k]'(by simpa using h) := rfl
                                            rw [this]; exact List.getElem_mem _, by simp [hc]⟩
theorem ok_yes {c : UInt8} (h : okB c = true) : ¬ ((c.toNat : Int) < 32) ∧ ¬ (126 < (c.toNat : Int)) ∧ (((c.toNat : Int) == 34) = false) ∧ (((c.toNat : Int) == 92) = false) := by
  simp only [okB, Bool.and_eq_true, decide_eq_true_eq] at h
  refine ⟨by omega, by omega, ?_, ?_⟩ <;> (simp only [beq_eq_false_iff_ne, ne_eq]; omega)
theorem ok_no {c : UInt8} (h : okB c = false) : (c.toNat : Int) < 32 ∨ (¬ ((c.toNat : Int) < 32) ∧ 126 < (c.toNat : Int)) ∨ (¬ ((c.toNat : Int) < 32) ∧ ¬ (126 < (c.toNat : Int)) ∧ ((c.toNat : Int) == 34) = true) ∨ (¬ ((c.toNat : Int) < 32) ∧ ¬ (126 < (c.toNat : Int)) ∧ ((c.toNat : Int) == 34) = false ∧ ((c.toNat : Int) == 92) = true) := by
  by_cases h1 : (c.toNat : Int) < 32
  · exact .inl h1
  by_cases h2 : 126 < (c.toNat : Int)
  · exact .inr (.inl ⟨h1, h2⟩)
  by_cases h3 : (c.toNat : Int) = 34
  · exact .inr (.inr (.inl ⟨h1, h2, by simpa using h3⟩))
  by_cases h4 : (c.toNat : Int) = 92
  · exact .inr (.inr (.inr ⟨h1, h2, by simpa using h3, by simpa using h4⟩))
  exfalso
  have : okB c = true := by simp only [okB, Bool.and_eq_true, decide_eq_true_eq]; omega
  rw [this] at h; cases h

theorem plain_any (s : ByteArray) (w : World) (hs : s.size ≤ maxLen) : Calls Try.prog 87 #[.string s] w fun e w' => e = .returned (.bool (plainB s)) ∧ w = w' := by
  unfold maxLen at hs
  go_enter Try.func87, Try.ntmps87
  go_wp2
  go_loopw [7] (fun i wr => ∃ k : Nat, k ≤ s.size ∧ i = .int .i64 k ∧ Hid ((s.data.toList.take k).all okB = true) ∧ w = wr) (fun i _ => s.size - (intOf i).toNat)
  case atStart => exact ⟨0, by omega, rfl, (rfl : (s.data.toList.take 0).all okB = true), rfl⟩
  case round =>
    obtain ⟨k, hk, rfl, HA, rfl⟩ := hrel
    by_cases hp : k < s.size
    · have HS := Lib.hid (ok_take_succ s k hp)
      cases hsn : okB (s[k]'hp)
      · have HV := Lib.hid (plain_false_of s k hp hsn)
        rcases ok_no hsn with h | ⟨h, h2⟩ | ⟨h, h2, h3⟩ | ⟨h, h2, h3, h4⟩
        all_goals
          clear hsn
          go_wp2_with fail
          go_ret
          exact ⟨by rw [HV.out]; rfl, rfl⟩
      · have HN := Lib.hid hsn
        obtain ⟨h1, h2, h3, h4⟩ := ok_yes hsn
        clear hsn
        go_wp2_with fail
        go_roundw
        case rel => exact ⟨k + 1, by omega, by go_num, by show (s.data.toList.take (k + 1)).all okB = true; rw [HS.out, HA.out, HN.out]; rfl, trivial⟩
        case measure => simp [intOf]; omega
    · have HV := Lib.hid (show plainB s = true by
        have := HA.out; rwa [List.take_of_length_le (by simp; omega)] at this)
      go_wp2_with fail
      go_ret
      exact ⟨by rw [HV.out]; rfl, rfl⟩
theorem right_any (x : Val) (w : World) (hs : x.2.2.size ≤ maxLen) : Calls Try.prog 73 #[vv x] w fun e w' => e = .returned (.bool (rightV x)) ∧ G w w' := by
  obtain ⟨a, n, s⟩ := x
  have H := Lib.hid (show rightV (a, n, s) = if a = 1 then decide (s.size = 0) && numR n else if a = 2 then decide (n = 0) && decide (s.size ≤ 40) && plainB s else false from rfl)
  have HP := fun w => plain_any s w hs
  simp only at hs
  unfold vv numR at *
  by_cases h1 : a = 1
  · subst h1
    rw [if_pos rfl] at H
    by_cases h0 : s.size = 0
    · have hem := str_empty s h0
      by_cases hl : (-1099511627776 : Int) ≤ n
      · by_cases hh : n ≤ 1099511627776
        all_goals
          have H2 : Hid (rightV (1, n, s) = _) := Lib.hid (H.out.trans (by simp only [h0, hl, hh, decide_true, decide_false, Bool.and_true, Bool.and_false]; rfl))
          go_enter Try.func73, Try.ntmps73
          go_wp2_with fail
          go_ret
          exact ⟨by rw [H2.out]; rfl, (G.refl w).alloc _⟩
      · have H2 : Hid (rightV (1, n, s) = false) := Lib.hid (H.out.trans (by simp [h0, hl]))
        go_enter Try.func73, Try.ntmps73
        go_wp2_with fail
        go_ret
        exact ⟨by rw [H2.out]; rfl, (G.refl w).alloc _⟩
    · have hem := str_nonempty s h0
      have H2 : Hid (rightV (1, n, s) = false) := Lib.hid (H.out.trans (by simp [h0]))
      go_enter Try.func73, Try.ntmps73
      go_wp2_with fail
      go_ret
      exact ⟨by rw [H2.out]; rfl, (G.refl w).alloc _⟩
  · rw [if_neg h1] at H
    by_cases h2 : a = 2
    · subst h2
      rw [if_pos rfl] at H
      by_cases hn : n = 0
      · subst hn
        by_cases h40 : s.size ≤ 40
        · have H2 : Hid (rightV (2, 0, s) = plainB s) := Lib.hid (H.out.trans (by simp [h40]))
          have HP := Lib.hid HP
          go_enter Try.func73, Try.ntmps73
          go_wp2_with fail
          refine (HP.out _).mono ?_
          rintro e w' ⟨rfl, rfl⟩
          go_wp2_with fail
          go_ret
          exact ⟨by rw [H2.out]; rfl, (G.refl w).alloc _⟩
        · have H2 : Hid (rightV (2, 0, s) = false) := Lib.hid (H.out.trans (by simp [h40]))
          go_enter Try.func73, Try.ntmps73
          go_wp2_with fail
          go_ret
          exact ⟨by rw [H2.out]; rfl, (G.refl w).alloc _⟩
      · have H2 : Hid (rightV (2, n, s) = false) := Lib.hid (H.out.trans (by simp [hn]))
        go_enter Try.func73, Try.ntmps73
        go_wp2_with fail
        go_ret
        exact ⟨by rw [H2.out]; rfl, (G.refl w).alloc _⟩
    · have H2 : Hid (rightV (a, n, s) = false) := Lib.hid (H.out.trans (by rw [if_neg h2]))
      go_enter Try.func73, Try.ntmps73
      go_wp2_with fail
      go_ret
      exact ⟨by rw [H2.out]; rfl, (G.refl w).alloc _⟩
/-! times -/
theorem within1 (lo hi a : Int) (b : Nat) (w : World) (hc : w.cell? ⟨b, 0, none⟩ = some (.int .i64 a)) :
    Calls Try.prog 39 #[.int .i64 lo, .int .i64 hi, .slice (some ⟨b, 0, none⟩) 1 1] w fun e w' => e = .returned (.bool (decide (lo ≤ a ∧ a ≤ hi))) ∧ w = w' := by
  go_enter Try.func39, Try.ntmps39
  go_wp2
  go_rounds 3
  all_goals go_returns
  all_goals (simp; omega)
theorem time_any (a : Int) (w : World) :
    Calls Try.prog 60 #[.int .i64 a] w fun e w' => e = .returned (.bool (timeB a)) ∧ G w w' := by
  have h : ∀ (b : Nat) (w : World) (hc : w.cell? ⟨b, 0, none⟩ = some (.int .i64 a)),
    Calls Try.prog 39 #[.int .i64 0, .int .i64 1099511627776, .slice (some ⟨b, 0, none⟩) 1 1] w fun e w' => e = .returned (.bool (timeB a)) ∧ w = w' := fun b w hc =>
      (within1 0 1099511627776 a b w hc).mono fun e w' ⟨he, hw⟩ => ⟨by rw [he]; simp [timeB], hw⟩
  go_enter Try.func60, Try.ntmps60
  go_wp2_with (go_at_call 39; refine (h _ _ (by simp [go_sem])).mono ?_; rintro e w' ⟨rfl, rfl⟩)
  go_ret
  exact ⟨rfl, (G.refl _).alloc _⟩
theorem rTime_any (a : Int) (w : World) :
    Calls Try.prog 41 #[.int .i64 a] w fun e w' => e = .returned (.bool (timeB a)) ∧ w = w' := by
  by_cases hl : 0 ≤ a
  · by_cases hh : a ≤ 1099511627776
    all_goals
      have H := Lib.hid (show timeB a = _ from by simp only [timeB, hl, hh, decide_true, decide_false, Bool.and_true, Bool.and_false]; rfl)
      go_enter Try.func41, Try.ntmps41
      go_wp2_with fail
      go_ret
      exact ⟨by rw [H.out]; rfl, rfl⟩
  · have H := Lib.hid (show timeB a = false by simp [timeB, hl])
    go_enter Try.func41, Try.ntmps41
    go_wp2_with fail
    go_ret
    exact ⟨by rw [H.out]; rfl, rfl⟩
end Go.Proofs.Ythhmmjpgefinmaa
