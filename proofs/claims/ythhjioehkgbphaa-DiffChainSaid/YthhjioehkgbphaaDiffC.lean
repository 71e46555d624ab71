/- whether values are right -/
import Derived.Test.YthhjioehkgbphaaDiffB
namespace Go.Proofs.Ythhjioehkgbphaa
set_option linter.unusedVariables false
set_option linter.unusedSimpArgs false
open Go.RowKit Go.Shelf
attribute [local go_sem] Oper.semAt_some

def plainC (c : UInt8) : Bool := decide (32 ≤ c.toNat) && decide (c.toNat ≤ 126) && decide (c.toNat ≠ 34) && decide (c.toNat ≠ 92)
def plainB (s : ByteArray) : Bool := s.data.toList.all plainC
theorem plain_take_succ (s : ByteArray) (k : Nat) (h : k < s.size) : (s.data.toList.take (k + 1)).all plainC = ((s.data.toList.take k).all plainC && plainC (s[k]'h)) := by
  rw [List.take_succ_eq_append_getElem (by simpa using h), List.all_append]; simp; rfl
theorem plain_false_of (s : ByteArray) (k : Nat) (h : k < s.size) (hc : plainC (s[k]'h) = false) : plainB s = false := by
  unfold plainB
  rw [List.all_eq_false]; exact ⟨s[k]'h, by have : s[k]'h = s.data.toList[k]'(by simpa using h) := rfl
                                            rw [this]; exact List.getElem_mem _, by simp [hc]⟩
theorem plain_any (s : ByteArray) (w : World) (hs : s.size ≤ maxLen) : Calls Try.prog 26 #[.string s] w fun e w' => e = .returned (.bool (plainB s)) ∧ w = w' := by
  unfold maxLen at hs
  go_enter Try.func26, Try.ntmps26
  go_wp2
  go_loop [7] (fun i => ∃ k : Nat, k ≤ s.size ∧ i = .int .i64 k ∧ Hid ((s.data.toList.take k).all plainC = true)) (fun i => s.size - (intOf i).toNat)
  case atStart => exact ⟨0, by omega, rfl, (rfl : (s.data.toList.take 0).all plainC = true)⟩
  case round =>
    obtain ⟨k, hk, rfl, HA⟩ := hrel
    by_cases hp : k < s.size
    · have HS := Lib.hid (plain_take_succ s k hp)
      cases hsn : plainC (s[k]'hp)
      · have HV := Lib.hid (plain_false_of s k hp hsn)
        have HN := Lib.hid hsn
        clear hsn
        by_cases h1 : ((s[k]'hp).toNat : Int) < 32
        · go_wp2
          go_ret
          exact ⟨by rw [HV.out]; rfl, rfl⟩
        by_cases h2 : 126 < ((s[k]'hp).toNat : Int)
        · go_wp2
          go_ret
          exact ⟨by rw [HV.out]; rfl, rfl⟩
        by_cases h3 : ((s[k]'hp).toNat : Int) = 34
        · go_wp2
          go_ret
          exact ⟨by rw [HV.out]; rfl, rfl⟩
        by_cases h4 : ((s[k]'hp).toNat : Int) = 92
        · go_wp2
          go_ret
          exact ⟨by rw [HV.out]; rfl, rfl⟩
        exact absurd HN.out (by simp [plainC]; omega)
      · have HN := Lib.hid hsn
        have h1 : ¬ ((s[k]'hp).toNat : Int) < 32 := by simp [plainC] at hsn; omega
        have h2 : ¬ 126 < ((s[k]'hp).toNat : Int) := by simp [plainC] at hsn; omega
        have h3 : (((s[k]'hp).toNat : Int) == 34) = false := by simp [plainC] at hsn; simp; omega
        have h4 : (((s[k]'hp).toNat : Int) == 92) = false := by simp [plainC] at hsn; simp; omega
        clear hsn
        go_wp2
        go_round
        case rel => exact ⟨k + 1, by omega, by go_num, by show (s.data.toList.take (k + 1)).all plainC = true; rw [HS.out, HA.out, HN.out]; rfl⟩
        case measure => simp [intOf]; omega
    · have HV := Lib.hid (show plainB s = true by
        have := HA.out; rwa [List.take_of_length_le (by simp; omega)] at this)
      go_wp2
      go_ret
      exact ⟨by rw [HV.out]; rfl, rfl⟩
/-- is a value right? -/
def valR (x : Val) : Bool := if x.1 = 1 then (decide (x.2.2 = ⟨#[]⟩) && decide (-1099511627776 ≤ x.2.1) && decide (x.2.1 ≤ 1099511627776)) else if x.1 = 2 then (decide (x.2.1 = 0) && decide (x.2.2.size ≤ 40) && plainB x.2.2) else false
theorem valR_any (x : Val) (w : World) (hs : x.2.2.size ≤ maxLen) : Calls Try.prog 18 #[vv x] w fun e w' => e = .returned (.bool (valR x)) ∧ G w w' := by
  obtain ⟨k, n, t⟩ := x
  simp only at hs
  unfold vv
  by_cases h1 : k = 1
  · subst h1
    by_cases h2 : t = ⟨#[]⟩
    · subst h2
      by_cases h3 : -1099511627776 ≤ n
      · have HV := Lib.hid (show valR (1, n, ⟨#[]⟩) = decide (n ≤ 1099511627776) by simp [valR, h3])
        go_enter Try.func18, Try.ntmps18
        go_wp2_with (go_at_call 26; refine (plain_any _ _ hs).mono ?_; rintro e w' ⟨rfl, rfl⟩)
        go_ret
        exact ⟨by rw [HV.out]; rfl, (G.refl w).alloc _⟩
      · have HV := Lib.hid (show valR (1, n, ⟨#[]⟩) = false by simp [valR, h3])
        go_enter Try.func18, Try.ntmps18
        go_wp2_with (go_at_call 26; refine (plain_any _ _ hs).mono ?_; rintro e w' ⟨rfl, rfl⟩)
        go_ret
        exact ⟨by rw [HV.out]; rfl, (G.refl w).alloc _⟩
    · have HV := Lib.hid (show valR (1, n, t) = false by simp [valR, h2])
      have h3 : t.toList.isEmpty = false := by
        cases hh : t.toList with
        | nil =>
          refine absurd ?_ h2
          have h := str_beq t ⟨#[]⟩
          rw [hh, show (([] : List UInt8) == (⟨#[]⟩ : ByteArray).toList) = true from by decide +kernel] at h
          exact of_decide_eq_true h.symm
        | cons a l => rfl
      clear h2
      go_enter Try.func18, Try.ntmps18
      go_wp2_with (go_at_call 26; refine (plain_any _ _ hs).mono ?_; rintro e w' ⟨rfl, rfl⟩)
      go_ret
      exact ⟨by rw [HV.out]; rfl, (G.refl w).alloc _⟩
  · by_cases h2 : k = 2
    · subst h2
      by_cases h3 : n = 0
      · subst h3
        by_cases h4 : t.size ≤ 40
        · have HV := Lib.hid (show valR (2, 0, t) = plainB t by simp [valR, h4])
          go_enter Try.func18, Try.ntmps18
          go_wp2_with (go_at_call 26; refine (plain_any _ _ hs).mono ?_; rintro e w' ⟨rfl, rfl⟩)
          go_ret
          exact ⟨by rw [HV.out]; rfl, (G.refl w).alloc _⟩
        · have HV := Lib.hid (show valR (2, 0, t) = false by simp [valR, h4])
          go_enter Try.func18, Try.ntmps18
          go_wp2_with (go_at_call 26; refine (plain_any _ _ hs).mono ?_; rintro e w' ⟨rfl, rfl⟩)
          go_ret
          exact ⟨by rw [HV.out]; rfl, (G.refl w).alloc _⟩
      · have HV := Lib.hid (show valR (2, n, t) = false by simp [valR, h3])
        go_enter Try.func18, Try.ntmps18
        go_wp2_with (go_at_call 26; refine (plain_any _ _ hs).mono ?_; rintro e w' ⟨rfl, rfl⟩)
        go_ret
        exact ⟨by rw [HV.out]; rfl, (G.refl w).alloc _⟩
    · have HV := Lib.hid (show valR (k, n, t) = false by simp [valR, h1, h2])
      go_enter Try.func18, Try.ntmps18
      go_wp2_with (go_at_call 26; refine (plain_any _ _ hs).mono ?_; rintro e w' ⟨rfl, rfl⟩)
      go_ret
      exact ⟨by rw [HV.out]; rfl, (G.refl w).alloc _⟩
end Go.Proofs.Ythhjioehkgbphaa
