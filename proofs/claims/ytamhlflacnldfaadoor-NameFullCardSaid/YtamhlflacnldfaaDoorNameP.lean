/- NameFull: the plain part: numerals as texts -/
import Derived.Test.YtamhlflacnldfaaDoorNameH
import Derived.Lib.ItoaMem
import Derived.Lib.ItoaLen
namespace Go.Proofs.YtamhlflacnldfaaDoor
set_option linter.unusedVariables false
set_option linter.unusedSimpArgs false
open Go.RowKit Go.Shelf Go.Maps

/-- what a numeral stands for -/
def valD (l : List UInt8) : Nat := l.foldl (fun a c => a * 10 + (c.toNat - 48)) 0
theorem dig_nat {u : Nat} (h : u < 10) : (UInt8.ofNat (48 + u)).toNat - 48 = u := by
  have : (UInt8.ofNat (48 + u)).toNat = 48 + u := by simp; omega
  omega
theorem valD_dec : ∀ u : Nat, valD (Lib.decDigits u) = u := by
  intro u
  induction u using Nat.strongRecOn with
  | ind u ih =>
    by_cases h : u < 10
    · rw [Lib.decDigits, dif_pos h]
      simp only [valD, List.foldl_cons, List.foldl_nil, Nat.zero_mul, Nat.zero_add]
      exact dig_nat h
    · rw [Lib.decDigits, dif_neg h]
      have := ih (u / 10) (by omega)
      unfold valD at *
      rw [List.foldl_append, this]
      simp only [List.foldl_cons, List.foldl_nil]
      rw [dig_nat (by omega)]
      omega
/-- a number's text -/
def nt (i : Nat) : ByteArray := ⟨(Lib.decDigits i).toArray⟩
theorem nt_inj {i j : Nat} (h : nt i = nt j) : i = j := by
  have h1 : (Lib.decDigits i).toArray = (Lib.decDigits j).toArray := congrArg ByteArray.data h
  have h2 : Lib.decDigits i = Lib.decDigits j := by simpa using h1
  rw [← valD_dec i, h2, valD_dec]
theorem nt_size (i : Nat) (h : i < 100000) : (nt i).size ≤ maxLen := by
  have h1 : (nt i).size = (Lib.decDigits i).length := by show (Lib.decDigits i).toArray.size = _; simp
  have h2 : (Lib.itoa (i : Int)).length ≤ 21 := Lib.itoa_length_le i (by omega) (by omega)
  rw [Lib.itoa_nonneg] at h2
  rw [h1]; unfold maxLen; omega
/-- the texts of all numbers below n -/
def ntL (n : Nat) : List ByteArray := (List.range n).map nt
theorem ntL_len (n : Nat) : (ntL n).length = n := by simp [ntL]
theorem ntL_at {n i : Nat} (h : i < n) : (ntL n)[i]? = some (nt i) := by simp [ntL, h]
theorem ntL_succ (n : Nat) : ntL (n + 1) = ntL n ++ [nt n] := by simp [ntL, List.range_succ]
theorem ntL_nodup (n : Nat) : (ntL n).Nodup := by
  unfold ntL
  rw [List.nodup_iff_pairwise_ne, List.pairwise_map]
  exact (List.nodup_iff_pairwise_ne.1 List.nodup_range).imp (fun h e => h (nt_inj e))
theorem ntL_mem {n : Nat} {s : ByteArray} (h : s ∈ ntL n) : ∃ i, i < n ∧ s = nt i := by
  unfold ntL at h
  obtain ⟨i, hi, rfl⟩ := List.mem_map.1 h
  exact ⟨i, List.mem_range.1 hi, rfl⟩
/-- a letter is no number's text -/
theorem not_nt {s : ByteArray} (hs : Lib.decDigits (valD s.data.toList) ≠ s.data.toList) (n : Nat) : inL s (ntL n) = false := by
  rw [← Bool.not_eq_true, inL_iff]
  intro h
  obtain ⟨i, hi, rfl⟩ := ntL_mem h
  apply hs
  show Lib.decDigits (valD (Lib.decDigits i).toArray.toList) = (Lib.decDigits i).toArray.toList
  simp only []
  rw [valD_dec]
theorem a_no (n : Nat) : inL ⟨#[97]⟩ (ntL n) = false := not_nt (by decide +kernel) n
theorem b_no (n : Nat) : inL ⟨#[98]⟩ (ntL n) = false := not_nt (by decide +kernel) n
theorem c_no (n : Nat) : inL ⟨#[99]⟩ (ntL n) = false := not_nt (by decide +kernel) n
theorem d_no (n : Nat) : inL ⟨#[100]⟩ (ntL n) = false := not_nt (by decide +kernel) n
theorem nt7 : nt 7 = ⟨#[55]⟩ := by unfold nt; rw [Lib.decDigits_one (by omega)]; rfl
theorem nt0 : nt 0 = ⟨#[48]⟩ := by unfold nt; rw [Lib.decDigits_one (by omega)]; rfl
theorem fr_self (L : List ByteArray) : ∀ (pre ss : List ByteArray), ss.Nodup → (∀ s ∈ ss, inL s L = false ∧ inL s pre = false) → fr L pre ss = ss
  | pre, [], _, _ => rfl
  | pre, s :: ss, hn, h => by
    have h1 := h s (List.mem_cons_self ..)
    have h2 := List.nodup_cons.1 hn
    rw [fr, if_neg (by simp [h1.1, h1.2]), fr_self L (pre ++ [s]) ss h2.2 (fun x hx => ⟨(h x (List.mem_cons_of_mem _ hx)).1, by
      rw [inL_append, (h x (List.mem_cons_of_mem _ hx)).2]
      simp only [Bool.false_or, decide_eq_false_iff_not]
      rintro rfl
      exact h2.1 hx⟩)]
theorem fresh_ntL (n : Nat) : fresh [] (ntL n) = ntL n := fr_self [] [] (ntL n) (ntL_nodup n) (fun s _ => ⟨rfl, rfl⟩)
/-- .. of letters that are not there -/
theorem fresh_abac (n : Nat) : fresh (ntL n) [⟨#[97]⟩, ⟨#[98]⟩, ⟨#[97]⟩, ⟨#[99]⟩] = [⟨#[97]⟩, ⟨#[98]⟩, ⟨#[99]⟩] := by
  simp only [fresh, fr, a_no, b_no, c_no, Bool.false_or, List.nil_append, List.cons_append]
  decide +kernel
theorem seven_in {n : Nat} (h : 7 < n) : inL ⟨#[55]⟩ (ntL n) = true := by
  rw [inL_iff, ← nt7]; exact List.mem_of_getElem? (ntL_at h)
theorem zero_in {n : Nat} (h : 0 < n) : inL ⟨#[48]⟩ (ntL n) = true := by
  rw [inL_iff, ← nt0]; exact List.mem_of_getElem? (ntL_at h)
theorem fresh_a7ab {n : Nat} (h : 7 < n) : fresh (ntL n) [⟨#[97]⟩, ⟨#[55]⟩, ⟨#[97]⟩, ⟨#[98]⟩] = [⟨#[97]⟩, ⟨#[98]⟩] := by
  simp only [fresh, fr, a_no, b_no, seven_in h, Bool.true_or, if_true, Bool.false_or, List.nil_append, List.cons_append]
  decide +kernel
/-- the full book -/
def fullL (n : Nat) : List ByteArray := ntL n ++ [⟨#[97]⟩, ⟨#[98]⟩]
theorem fullL_len (n : Nat) : (fullL n).length = n + 2 := by simp [fullL, ntL_len]
theorem inL_app (s : ByteArray) (A B : List ByteArray) : inL s (A ++ B) = (inL s A || inL s B) := by simp [inL]
theorem num_app {A B : List ByteArray} {s : ByteArray} (h : inL s A = false) (h2 : inL s B = true) : num (A ++ B) s = A.length + num B s := by
  have hn : ∀ x ∈ A, decide (x = s) = false := fun x hx => by
    have := List.any_eq_false.1 h x hx
    simpa using this
  unfold num
  rw [inL_app, h2, Bool.or_true, if_pos rfl, if_pos rfl, List.findIdx_append, if_neg]
  · omega
  · rw [List.findIdx_lt_length]
    rintro ⟨x, hx, hd⟩
    rw [hn x hx] at hd; cases hd
theorem num_a (n : Nat) : num (fullL n) ⟨#[97]⟩ = n := by
  unfold fullL
  rw [num_app (a_no n) (by decide +kernel), ntL_len, show num [⟨#[97]⟩, ⟨#[98]⟩] ⟨#[97]⟩ = 0 from by decide +kernel]; omega
theorem num_b (n : Nat) : num (fullL n) ⟨#[98]⟩ = n + 1 := by
  unfold fullL
  rw [num_app (b_no n) (by decide +kernel), ntL_len, show num [⟨#[97]⟩, ⟨#[98]⟩] ⟨#[98]⟩ = 1 from by decide +kernel]
theorem num_nt {n i : Nat} (h : i < n) : num (fullL n) (nt i) = i := by
  refine num_at (k := i) ?_ (fun j hj e => ?_)
  · unfold fullL; rw [List.getElem?_append_left (by rw [ntL_len]; exact h), ntL_at h]
  · unfold fullL at e
    rw [List.getElem?_append_left (by rw [ntL_len]; omega), ntL_at (by omega)] at e
    have := nt_inj (Option.some.inj e)
    omega
theorem nums_a7ab {n : Nat} (h : 7 < n) : nums (ntL n) [⟨#[97]⟩, ⟨#[55]⟩, ⟨#[97]⟩, ⟨#[98]⟩] = [(n : Int), 7, n, n + 1] := by
  unfold nums
  rw [fresh_a7ab h]
  have h7 := num_nt (n := n) (i := 7) h
  rw [nt7] at h7
  show [num (fullL n) _, num (fullL n) _, num (fullL n) _, num (fullL n) _] = _
  rw [num_a, h7, num_b]; rfl
theorem fresh_ad (n : Nat) : fresh (fullL n) [⟨#[97]⟩, ⟨#[100]⟩] = [⟨#[100]⟩] := by
  have ha : inL ⟨#[97]⟩ (fullL n) = true := by unfold fullL; rw [inL_app]; simp [inL]
  have hd : inL ⟨#[100]⟩ (fullL n) = false := by unfold fullL; rw [inL_app, d_no]; decide +kernel
  simp only [fresh, fr, ha, hd, Bool.true_or, if_true, Bool.false_or, List.nil_append]
  decide +kernel
theorem fresh_b0 {n : Nat} (h : 0 < n) : fresh (fullL n) [⟨#[98]⟩, ⟨#[48]⟩] = [] := by
  have hb : inL ⟨#[98]⟩ (fullL n) = true := by unfold fullL; rw [inL_app]; simp [inL]
  have h0 : inL ⟨#[48]⟩ (fullL n) = true := by unfold fullL; rw [inL_app, zero_in h]; rfl
  simp only [fresh, fr, hb, h0, Bool.true_or, if_true]
theorem nums_b0 {n : Nat} (h : 0 < n) : nums (fullL n) [⟨#[98]⟩, ⟨#[48]⟩] = [(n : Int) + 1, 0] := by
  unfold nums
  rw [fresh_b0 h, List.append_nil]
  have h0 := num_nt (n := n) (i := 0) h
  rw [nt0] at h0
  show [num (fullL n) _, num (fullL n) _] = _
  rw [num_b, h0]; rfl
end Go.Proofs.YtamhlflacnldfaaDoor
