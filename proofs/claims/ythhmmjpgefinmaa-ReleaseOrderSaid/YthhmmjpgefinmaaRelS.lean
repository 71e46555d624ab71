/- laid together: RelC RelP RelR RelS -/
import Derived.Test.YthhmmjpgefinmaaGB
import Derived.BigQuiet
import Derived.Deep.CutBlock
import Derived.Test.YthhmmjpgefinmaaHeapC
set_option maxRecDepth 10000
namespace Go.Proofs.Ythhmmjpgefinmaa
set_option linter.unusedVariables false
set_option linter.unusedSimpArgs false
open Go.RowKit Go.Shelf
attribute [local go_sem] Oper.semAt_some

def mkB (a : Int) : Bool := decide (-1 ≤ a ∧ a ≤ 1099511627776)
def tm (a : Int) : Bool := decide (0 ≤ a ∧ a ≤ 1099511627776)
def wn (a : Int) : Bool := decide (1 ≤ a ∧ a ≤ 1048576)
def sm (a b : Int) : Bool := decide (-1099511627776 ≤ a ∧ a ≤ 1099511627776 ∧ -1099511627776 ≤ b ∧ b ≤ 1099511627776)
theorem mk_iff {a : Int} : mkB a = true ↔ -1 ≤ a ∧ a ≤ 1099511627776 := by simp [mkB]
theorem tm_iff {a : Int} : tm a = true ↔ 0 ≤ a ∧ a ≤ 1099511627776 := by simp [tm]
theorem wn_iff {a : Int} : wn a = true ↔ 1 ≤ a ∧ a ≤ 1048576 := by simp [wn]
def past (w s : Int) : Int := max w 0 / s
theorem past_bd {w s : Int} (h1 : 1 ≤ s) (hw : w ≤ 1099511627776) : 0 ≤ past w s ∧ past w s ≤ 1099511627776 := by
  unfold past
  have h0 : 0 ≤ max w 0 := by omega
  refine ⟨Int.ediv_nonneg h0 (by omega), ?_⟩
  have := Int.ediv_le_self s h0
  omega
def countN (a b s : Int) : Int := max (past b s - past a s) 0
theorem withinC (lo hi a : Int) (b : Nat) (w : World) (hc : w.cell? ⟨b, 0, none⟩ = some (.int .i64 a)) :
    Calls Try.prog 39 #[.int .i64 lo, .int .i64 hi, .slice (some ⟨b, 0, none⟩) 1 1] w fun e w' => e = .returned (.bool (decide (lo ≤ a ∧ a ≤ hi))) ∧ w = w' := by
  go_enter Try.func39, Try.ntmps39
  go_wp2
  go_rounds 3
  all_goals go_returns
  all_goals (simp; omega)
theorem win_any (a : Int) (b : Nat) (w : World) (hc : w.cell? ⟨b, 0, none⟩ = some (.int .i64 a)) :
    Calls Try.prog 39 #[.int .i64 1, .int .i64 1048576, .slice (some ⟨b, 0, none⟩) 1 1] w fun e w' => e = .returned (.bool (wn a)) ∧ w = w' := withinC 1 1048576 a b w hc
theorem mark_any (a : Int) (w : World) :
    Calls Try.prog 24 #[.int .i64 a] w fun e w' => e = .returned (.bool (mkB a)) ∧ G w w' := by
  have h : ∀ (b : Nat) (w : World) (hc : w.cell? ⟨b, 0, none⟩ = some (.int .i64 a)),
    Calls Try.prog 39 #[.int .i64 (-1), .int .i64 1099511627776, .slice (some ⟨b, 0, none⟩) 1 1] w fun e w' => e = .returned (.bool (mkB a)) ∧ w = w' := fun b w hc => withinC (-1) 1099511627776 a b w hc
  go_enter Try.func24, Try.ntmps24
  go_wp2_with (go_at_call 39; refine (h _ _ (by simp [go_sem])).mono ?_; rintro e w' ⟨rfl, rfl⟩)
  go_ret
  exact ⟨rfl, (G.refl _).alloc _⟩
theorem past_any (a s : Int) (w : World) (h1 : 1 ≤ s) (ha : a ≤ 1099511627776) :
    Calls Try.prog 40 #[.int .i64 a, .int .i64 s] w fun e w' => e = .returned (.int .i64 (past a s)) ∧ w = w' := by
  have p1 : a < 0 → past a s = 0 := fun h => by unfold past; rw [show max a 0 = 0 by omega]; simp
  have p2 : 0 ≤ a → past a s = a / s := fun h => by unfold past; rw [show max a 0 = a by omega]
  have P1 := Lib.hid p1
  have P2 := Lib.hid p2
  clear p1 p2
  go_enter Try.func40, Try.ntmps40
  go_wp2
  · go_ret
    exact ⟨by rw [P1.out (by assumption)]; rfl, rfl⟩
  · go_ret
    exact ⟨by rw [P2.out (by assumption)]; rfl, rfl⟩
theorem count_no (a b s : Int) (w : World) (h : (mkB a && mkB b && wn s) = false) :
    Calls Try.prog 25 #[.int .i64 a, .int .i64 b, .int .i64 s] w fun e w' => e = .returned (.tuple #[.int .i64 0, .int .i64 2]) ∧ G w w' := by
  by_cases ha : mkB a = true
  · by_cases hb : mkB b = true
    · have hs : wn s = false := by simpa [ha, hb] using h
      clear h
      go_enter Try.func25, Try.ntmps25
      go_wp2_with (first | (go_at_call 24; refine (mark_any _ _).mono ?_; rintro e w' ⟨rfl, hbel⟩) | (go_at_call 39; refine (win_any s _ _ (by simp [go_sem])).mono ?_; rintro e w' ⟨rfl, rfl⟩))
      go_ret2
      exact ⟨rfl, by repeat (first | exact G.refl _ | assumption | apply G.alloc | refine G.trans ?_ (by assumption))⟩
    · simp only [Bool.not_eq_true] at hb
      clear h
      go_enter Try.func25, Try.ntmps25
      go_wp2_with (first | (go_at_call 24; refine (mark_any _ _).mono ?_; rintro e w' ⟨rfl, hbel⟩) | (go_at_call 39; refine (win_any s _ _ (by simp [go_sem])).mono ?_; rintro e w' ⟨rfl, rfl⟩))
      go_ret2
      exact ⟨rfl, by repeat (first | exact G.refl _ | assumption | apply G.alloc | refine G.trans ?_ (by assumption))⟩
  · simp only [Bool.not_eq_true] at ha
    clear h
    go_enter Try.func25, Try.ntmps25
    go_wp2_with (first | (go_at_call 24; refine (mark_any _ _).mono ?_; rintro e w' ⟨rfl, hbel⟩) | (go_at_call 39; refine (win_any s _ _ (by simp [go_sem])).mono ?_; rintro e w' ⟨rfl, rfl⟩))
    go_ret2
    exact ⟨rfl, by repeat (first | exact G.refl _ | assumption | apply G.alloc | refine G.trans ?_ (by assumption))⟩
theorem count_yes (a b s : Int) (w : World) (ha : mkB a = true) (hb : mkB b = true) (hs : wn s = true) :
    Calls Try.prog 25 #[.int .i64 a, .int .i64 b, .int .i64 s] w fun e w' => e = .returned (.tuple #[.int .i64 (countN a b s), .int .i64 0]) ∧ G w w' := by
  obtain ⟨ha1, ha2⟩ := mk_iff.1 ha
  obtain ⟨hb1, hb2⟩ := mk_iff.1 hb
  obtain ⟨hs1, hs2⟩ := wn_iff.1 hs
  obtain ⟨q1, q2⟩ := past_bd hs1 ha2
  obtain ⟨q3, q4⟩ := past_bd hs1 hb2
  have p1 : past b s - past a s < 0 → countN a b s = 0 := fun h => by unfold countN; omega
  have p2 : 0 ≤ past b s - past a s → countN a b s = past b s - past a s := fun h => by unfold countN; omega
  have P1 := Lib.hid p1
  have P2 := Lib.hid p2
  clear p1 p2
  go_enter Try.func25, Try.ntmps25
  go_wp2_with (first | (go_at_call 24; refine (mark_any _ _).mono ?_; rintro e w' ⟨rfl, hbel⟩) | (go_at_call 39; refine (win_any s _ _ (by simp [go_sem])).mono ?_; rintro e w' ⟨rfl, rfl⟩) | (go_at_call 40; refine (past_any _ _ _ hs1 (by assumption)).mono ?_; rintro e w' ⟨rfl, rfl⟩))
  · go_ret2
    exact ⟨by rw [P1.out (by assumption)]; rfl, by repeat (first | exact G.refl _ | assumption | apply G.alloc | refine G.trans ?_ (by assumption))⟩
  · go_ret2
    exact ⟨by rw [P2.out (by assumption)]; rfl, by repeat (first | exact G.refl _ | assumption | apply G.alloc | refine G.trans ?_ (by assumption))⟩
/-- the closes: all of them -/
def closeAt (a s : Int) (i : Nat) : Int := past a s * s + (i + 1) * s
def closesL (a b s : Int) : List Int :=
  if (mkB a && mkB b && wn s) = true then (List.range (countN a b s).toNat).map (closeAt a s) else []
theorem past_mul {w s : Int} (h1 : 1 ≤ s) : past w s * s ≤ max w 0 := Int.ediv_mul_le _ (by omega)
theorem past_mul_lt {w s : Int} (h1 : 1 ≤ s) : max w 0 < past w s * s + s := by
  have := Int.lt_ediv_add_one_mul_self (max w 0) (show 0 < s by omega)
  unfold past; rw [Int.add_mul] at this; omega
theorem closeAt_eq (a s : Int) (i : Nat) : closeAt a s i = (past a s + (i + 1)) * s := by unfold closeAt; rw [Int.add_mul (past a s)]
theorem closeAt_le {a b s : Int} {i : Nat} (h1 : 1 ≤ s) (hi : (i : Int) < countN a b s) : closeAt a s i ≤ max b 0 := by
  have h : past a s + (i + 1) ≤ past b s := by unfold countN at hi; omega
  rw [closeAt_eq]
  exact Int.le_trans (Int.mul_le_mul_of_nonneg_right h (by omega)) (past_mul h1)
theorem closeAt_lo {a s : Int} {i : Nat} (h1 : 1 ≤ s) (hp : 0 ≤ past a s) : s ≤ closeAt a s i := by
  rw [closeAt_eq]
  have := Int.mul_le_mul_of_nonneg_right (show (1 : Int) ≤ past a s + (i + 1) by omega) (show 0 ≤ s by omega)
  omega
theorem closeAt_succ (a s : Int) (i : Nat) : closeAt a s (i + 1) = closeAt a s i + s := by
  unfold closeAt; rw [show ((i + 1 : Nat) : Int) + 1 = ((i : Int) + 1) + 1 by omega, Int.add_mul ((i : Int) + 1) 1 s]; omega
theorem range_map_succ {α : Type} (f : Nat → α) (k : Nat) : (List.range (k + 1)).map f = (List.range k).map f ++ [f k] := by simp [List.range_succ]
theorem range_map_prefix {α : Type} (f : Nat → α) {k n : Nat} (h : k ≤ n) : (List.range k).map f <+: (List.range n).map f := by
  obtain ⟨m, rfl⟩ : ∃ m, n = k + m := ⟨n - k, by omega⟩
  rw [List.range_add, List.map_append]; exact List.prefix_append _ _
theorem closes_seq (a b s : Int) (ba bb bs : Nat) (w : World) (ca : w.cell? ⟨ba, 0, none⟩ = some (.int .i64 a)) (cb : w.cell? ⟨bb, 0, none⟩ = some (.int .i64 b)) (cs : w.cell? ⟨bs, 0, none⟩ = some (.int .i64 s)) :
    Seq Try.prog 70 #[.pointer (some ⟨ba, 0, none⟩), .pointer (some ⟨bb, 0, none⟩), .pointer (some ⟨bs, 0, none⟩)] (fun x : Int => #[.int .i64 x])
      (fun k => k = ba ∨ k = bb ∨ k = bs) (fun _ => False) (fun xs _ _ => xs = closesL a b s) (fun pre _ _ => pre <+: closesL a b s) (fun pre x => pre ++ [x] <+: closesL a b s) w := by
  intro l J Jx W hW hJ hJx hY h0
  replace ca := hW.cell ca
  replace cb := hW.cell cb
  replace cs := hW.cell cs
  have HY := Lib.hid hY
  have HJ := Lib.hid hJ
  have HJx := Lib.hid hJx
  have H0 := Lib.hid h0
  clear hY hJ hJx h0
  show Calls Try.prog 70 #[.func (.yield l) #[] #[], .pointer (some ⟨ba, 0, none⟩), .pointer (some ⟨bb, 0, none⟩), .pointer (some ⟨bs, 0, none⟩)] W _
  by_cases hok : (mkB a && mkB b && wn s) = true
  · have hok' := hok
    simp only [Bool.and_eq_true] at hok'
    obtain ⟨⟨ha, hb⟩, hs⟩ := hok'
    obtain ⟨ha1, ha2⟩ := mk_iff.1 ha
    obtain ⟨hb1, hb2⟩ := mk_iff.1 hb
    obtain ⟨hs1, hs2⟩ := wn_iff.1 hs
    obtain ⟨q1, q2⟩ := past_bd hs1 ha2
    obtain ⟨q3, q4⟩ := past_bd hs1 hb2
    have hc : closesL a b s = (List.range (countN a b s).toNat).map (closeAt a s) := by simp only [closesL, hok, if_true]
    have hn0 : 0 ≤ countN a b s := by unfold countN; omega
    have hn1 : countN a b s ≤ 1099511627776 := by unfold countN; omega
    have hm := past_mul (w := a) hs1
    have hm0 : 0 ≤ past a s * s := Int.mul_nonneg q1 (by omega)
    have HC := Lib.hid hc
    have HA := Lib.hid ha
    have HB := Lib.hid hb
    have HS := Lib.hid hs
    clear hok hc ha hb hs
    go_enter Try.func70, Try.ntmps70
    go_wp2_with fail
    refine (count_yes _ _ _ _ HA.out HB.out HS.out).mono ?_
    rintro e w' ⟨rfl, hg⟩
    have ca1 := hg.cell ca
    have cs1 := hg.cell cs
    go_wp2_with fail
    go_quiet ((go_at_call 40; exact Calls.quiet_of_same ((past_any _ _ _ hs1 ha2).mono fun _ _ ⟨h, e⟩ => ⟨h, e.symm⟩)))
    go_wp2_with fail
    have h1 := (HJ.out []).g H0.out (hg.drewN nq)
    have h2 := (hg.drewN nq).size
    have h3 : (w'.drewN nq).cell? ⟨bs, 0, none⟩ = some (.int .i64 s) := cs1
    go_loopw [7, 23] (fun c i wr => ∃ (k : Nat) (cv : Int), (k : Int) ≤ countN a b s ∧ i = .int .i64 k ∧ c = .int .i64 cv ∧ 0 ≤ cv ∧ Hid (cv = past a s * s + k * s) ∧ wr.cell? ⟨bs, 0, none⟩ = some (.int .i64 s) ∧
      J ((List.range k).map (closeAt a s)) (fun _ => False) wr ∧ W.heap.size ≤ wr.heap.size) (fun _ i _ => (countN a b s).toNat - (intOf i).toNat)
    case atStart => exact ⟨0, past a s * s, by omega, rfl, rfl, hm0, (by simp : past a s * s = past a s * s + ((0 : Nat) : Int) * s), h3, h1, h2⟩
    case round =>
      clear h1 h2 h3 ca1 cs1
      obtain ⟨k, cv, hk, rfl, rfl, hcv, hcve, hcs, hj, hsz⟩ := hrel
      by_cases hlt : (k : Int) < countN a b s
      · have hcl := closeAt_le hs1 hlt
        have hcx : cv + s = closeAt a s k := by rw [hcve.out]; unfold closeAt; rw [Int.add_mul]; omega
        have hcb : cv + s ≤ 1099511627776 := by rw [hcx]; omega
        have hpre : (List.range k).map (closeAt a s) ++ [cv + s] <+: closesL a b s := by
          rw [HC.out, hcx, ← range_map_succ]; exact range_map_prefix _ (by omega)
        have hy := HY.out _ (cv + s) (fun _ => False) wr (fun _ h => h.elim) (fun _ h => h.elim) hsz hj hpre
        have HX := Lib.hid hcx
        have HJ' := Lib.hid hj
        have HP := Lib.hid hpre
        have Hy := Lib.hid hy
        clear hcl hcx hj hpre hy
        go_upto_region 6 with fail
        obtain ⟨fn, tmps, assign, body, hy, hR⟩ := Hy.out
        refine (wpIn_wide (n := 3)).1 ?_
        gi_wp2
        refine hR.mono ?_
        rintro e W3 hrp
        rcases hrp.elim with ⟨rfl, hfr, hj3⟩ | ⟨rfl, hfr, hj3⟩
        · have hcs3 := hfr.cell (fun h => h (.inr (.inr (.inr rfl)))) hcs
          have hsz3 := hfr.size
          have HJ3 := Lib.hid hj3
          clear hj3 hfr hrp
          gi_wp2
          go_wp2_with fail
          go_roundw
          case rel => exact ⟨k + 1, cv + s, by omega, by go_num, rfl, by omega, (show cv + s = past a s * s + ((k + 1 : Nat) : Int) * s by rw [HX.out]; unfold closeAt; rfl), hcs3, by rw [range_map_succ, ← HX.out]; exact HJ3.out, by omega⟩
          case measure => simp [intOf]; omega
        · have HJ3 := Lib.hid hj3
          clear hj3 hfr hrp
          gi_wp2
          go_wp2_with fail
          go_returns
          exact ⟨⟨_, rfl⟩, fun _ => False, fun _ h => h, fun _ h => h.elim, .inr ⟨_, HJ3.out, HP.out⟩⟩
      · go_wp2_with fail
        go_returns
        have : k = (countN a b s).toNat := by omega
        subst this
        exact ⟨⟨_, rfl⟩, fun _ => False, fun _ h => h, fun _ h => h.elim, .inl ⟨_, hj, HC.out.symm⟩⟩
  · simp only [Bool.not_eq_true] at hok
    have hnil : closesL a b s = [] := by simp [closesL, hok]
    have H := Lib.hid hok
    clear hok
    have HN := Lib.hid hnil
    clear hnil
    go_enter Try.func70, Try.ntmps70
    go_wp2_with fail
    refine (count_no _ _ _ _ H.out).mono ?_
    rintro e w' ⟨rfl, hg⟩
    go_wp2_with fail
    go_returns
    exact ⟨⟨_, rfl⟩, fun _ => False, fun _ h => h, fun _ h => h.elim, .inl ⟨[], (HJ.out []).g H0.out hg, HN.out.symm⟩⟩
theorem closes_any (a b s : Int) (w : World) : Calls Try.prog 56 #[.int .i64 a, .int .i64 b, .int .i64 s] w fun e w' => ∃ ba bb bs : Nat,
    e = .returned (.func (.func 70) #[] #[.pointer (some ⟨ba, 0, none⟩), .pointer (some ⟨bb, 0, none⟩), .pointer (some ⟨bs, 0, none⟩)]) ∧
    Boxed w' ba 3 (.int .i64 a) ∧ Boxed w' bb 3 (.int .i64 b) ∧ Boxed w' bs 3 (.int .i64 s) ∧ w.heap.size ≤ ba ∧ w.heap.size ≤ bb ∧ w.heap.size ≤ bs ∧ G w w' := by
  go_enter Try.func56, Try.ntmps56
  go_wp2
  go_ret
  refine ⟨_, _, _, rfl, ((Boxed.new w 3 _).alloc _).alloc _, ?_, ?_, by omega, by omega, by omega, (((G.refl _).alloc _).alloc _).alloc _⟩
  · have := (Boxed.new (w.alloc (.cells #[.int .i64 a] 3)) 3 (.int .i64 b)).alloc (.cells #[.int .i64 s] 3)
    simpa using this
  · have := Boxed.new ((w.alloc (.cells #[.int .i64 a] 3)).alloc (.cells #[.int .i64 b] 3)) 3 (.int .i64 s)
    simpa using this
theorem closesL_zero {a s : Int} (ha : mkB a = true) (hs : wn s = true) : (closesL a 1099511627776 s = [] ∧ ¬ closeAt a s 0 ≤ 1099511627776) ∨ (∃ t, closesL a 1099511627776 s = closeAt a s 0 :: t ∧ closeAt a s 0 ≤ 1099511627776) := by
  obtain ⟨ha1, ha2⟩ := mk_iff.1 ha
  obtain ⟨hs1, hs2⟩ := wn_iff.1 hs
  have hM : mkB 1099511627776 = true := by decide
  have hc : closesL a 1099511627776 s = (List.range (countN a 1099511627776 s).toNat).map (closeAt a s) := by simp only [closesL, ha, hM, hs, Bool.and_true, if_true]
  by_cases h : 0 < countN a 1099511627776 s
  · right
    obtain ⟨n, hn⟩ : ∃ n, (countN a 1099511627776 s).toNat = n + 1 := ⟨(countN a 1099511627776 s).toNat - 1, by omega⟩
    refine ⟨(List.range n).map (fun i => closeAt a s (i + 1)), ?_, ?_⟩
    · rw [hc, hn, List.range_succ_eq_map]; simp
    · have := closeAt_le (a := a) (b := 1099511627776) (i := 0) hs1 (by simpa using h); omega
  · left
    refine ⟨by rw [hc, show (countN a 1099511627776 s).toNat = 0 by omega]; rfl, fun hle => ?_⟩
    have h0 : past 1099511627776 s ≤ past a s := by unfold countN at h; omega
    have h1 := past_mul_lt (w := 1099511627776) hs1
    have h2 := Int.mul_le_mul_of_nonneg_right h0 (show 0 ≤ s by omega)
    unfold closeAt at hle
    simp at hle
    omega
def nextV (a s : Int) : Value := if closeAt a s 0 ≤ 1099511627776 then .tuple #[.int .i64 (closeAt a s 0), .int .i64 0] else .tuple #[.int .i64 0, .int .i64 6]
theorem next_yes (a s : Int) (w : World) (ha : mkB a = true) (hs : wn s = true) :
    Calls Try.prog 45 #[.int .i64 a, .int .i64 s] w fun e w' => e = .returned (nextV a s) ∧ G w w' := by
  refine calls_of_marks Try.func45 rfl ?_
  simp only [Try.ntmps45, List.size_toArray, List.length_cons, List.length_nil, Nat.reduceAdd, Nat.reduceSub, Array.replicate_succ, Array.replicate_zero, List.push_toArray, List.append_toArray, List.nil_append, List.cons_append]
  have hb0 := ((Boxed.new w 3 (.int .i64 0)).alloc (.cells #[.int .i64 0] 24))
  have hb1 := (Boxed.new (w.alloc (.cells #[.int .i64 0] 3)) 24 (.int .i64 0))
  have hg0 : G w ((w.alloc (.cells #[.int .i64 0] 3)).alloc (.cells #[.int .i64 0] 24)) := ((G.refl w).alloc _).alloc _
  rw [World.size_alloc] at hb1
  go_wp2_with (first | (go_at_call 24; refine (mark_any _ _).mono ?_; rintro e w1 ⟨rfl, hbel⟩) | (go_at_call 39; refine (win_any s _ _ (by simp [go_sem])).mono ?_; rintro e w2 ⟨rfl, rfl⟩))
  have hsz1 := hbel.size
  have hg1 := hbel.alloc (.cells #[.int .i64 s] 3)
  refine (closes_any _ _ _ _).mono ?_
  rintro e w2 ⟨ba, bb, bs, rfl, h1, h2, h3, h4, h5, h6, h7⟩
  replace hb0 := (hg1.trans h7).boxed hb0
  replace hb1 := (hg1.trans h7).boxed hb1
  have hgw := hg0.trans (hg1.trans h7)
  have hsz := (hg1.trans h7).size
  simp only [World.size_alloc] at hsz hsz1 h4 h5 h6
  clear hg1 h7 hbel hg0
  go_wp2_with fail
  refine range_wp (gf := 70) (lb := #[.pointer (some ⟨ba, 0, none⟩), .pointer (some ⟨bb, 0, none⟩), .pointer (some ⟨bs, 0, none⟩)]) rfl (enters_of Try.func70 (by kernel_rfl) rfl)
    (closes_seq a 1099511627776 s ba bb bs w2 h1.cell h2.cell h3.cell) (G.refl _) (fun _ h => h.elim) (fun k hk => by rcases hk with rfl | rfl | rfl <;> first | exact h1.lt | exact h2.lt | exact h3.lt) (fun _ => rfl)
    (fun pre Fo W => pre = [] ∧ FBox w.heap.size 3 (.int .i64 0) Fo W ∧ FBox (w.heap.size + 1) 24 (.int .i64 0) Fo W ∧ FG w Fo W)
    (fun c pre Fo W => c = .ret ∧ ∃ x, pre = [x] ∧ FBox w.heap.size 3 (.int .i64 x) Fo W ∧ FBox (w.heap.size + 1) 24 (.int .i64 0) Fo W ∧ FG w Fo W)
    (fun p => (Stable.pure _).and ((Stable.box _ _ _).and ((Stable.box _ _ _).and (Stable.fg _))))
    (fun c p => (Stable.pure _).and (Stable.ex fun x => (Stable.pure _).and ((Stable.box _ _ _).and ((Stable.box _ _ _).and (Stable.fg _)))))
    ⟨rfl, ⟨id, hb0⟩, ⟨id, hb1⟩, fun _ h => h.elim, hgw⟩
    ?a1 ?assign ?body ?done ?stop
  case assign =>
    intro l x W K hK
    gi_wp2
    exact hK
  case body =>
    rintro l pre x Fo W hfo hfl hsz2 ⟨rfl, ⟨hn0, hx0⟩, ⟨hn1, hx1⟩, hfg, hg⟩ hpre
    have hc0 := hx0.cell
    have hf0 := hx0.frozen
    have hc1 := hx1.cell
    have hf1 := hx1.frozen
    gi_wp2
    have n1 : ¬ (w.heap.size = ba ∨ w.heap.size = bb ∨ w.heap.size = bs) := by omega
    have n2 : ¬ (w.heap.size + 1 = ba ∨ w.heap.size + 1 = bb ∨ w.heap.size + 1 = bs) := by omega
    refine ⟨((Fr.refl _ W).setCell (p := ⟨w.heap.size, 0, none⟩) (.inl (fun h => h.elim hn0 n1)) _).setCell (p := ⟨w.heap.size + 1, 0, none⟩) (.inl (fun h => h.elim hn1 n2)) _, rfl, x, rfl, ?_, ?_, ?_⟩
    · exact (FBox.set _ ⟨hn0, hx0⟩).other _ (by omega)
    · exact (FBox.other (v := .int .i64 0) _ ⟨hn1, hx1⟩ (by omega)).set _
    · exact (FG.setCell (p := ⟨w.heap.size, 0, none⟩) ⟨hfg, hg⟩ (Nat.le_refl _) _).setCell (p := ⟨w.heap.size + 1, 0, none⟩) (by simp) _
  case done =>
    rintro D xs It Fo W W3 hD hDl hIF hFD hIt hFo hdone hfr ⟨rfl, ⟨hn0, hx0⟩, ⟨hn1, hx1⟩, hfg, hg⟩ hK
    have hc0 := hx0.cell
    have hf0 := hx0.frozen
    have hc1 := hx1.cell
    have hf1 := hx1.frozen
    go_wp2_with fail
    have b0 := boxed_putObj (o := .deferred none) (boxed_other (v' := .int .i64 6) (hx0.set (.int .i64 0)) (show w.heap.size ≠ w.heap.size + 1 by omega)) (show w.heap.size ≠ D by omega)
    have b1 := boxed_putObj (o := .deferred none) ((boxed_other (v' := .int .i64 0) hx1 (show w.heap.size + 1 ≠ w.heap.size by omega)).set (.int .i64 6)) (show w.heap.size + 1 ≠ D by omega)
    refine leave_mark (D := D) ?_ (leave_nil (v := .tuple #[.int .i64 0, .int .i64 6]) (by simp [results, Try.results45, go_sem, b0.cell, b1.cell]) ⟨?_, ?_⟩)
    · rw [Below.heap_setCell _ _ _ _ (by simp; omega), Below.heap_setCell _ _ _ _ (by simp; omega)]; exact hK
    · rcases closesL_zero ha hs with ⟨_, h⟩ | ⟨t, h, _⟩
      · rw [nextV, if_neg h]
      · rw [h] at hdone; cases hdone
    · exact ((hg.setCell (p := ⟨w.heap.size, 0, none⟩) (Nat.le_refl _) _).setCell (p := ⟨w.heap.size + 1, 0, none⟩) (by simp) _).putObj (by omega) _
  case stop =>
    rintro D c pre It Fo W W3 hD hDl hIF hFD hIt hFo hpart hfr ⟨rfl, x, rfl, ⟨hn0, hx0⟩, ⟨hn1, hx1⟩, hfg, hg⟩ hK
    have hc0 := hx0.cell
    have hf0 := hx0.frozen
    have hc1 := hx1.cell
    have hf1 := hx1.frozen
    go_wp2_with fail
    have b0 := boxed_putObj (o := .deferred none) hx0 (show w.heap.size ≠ D by omega)
    have b1 := boxed_putObj (o := .deferred none) hx1 (show w.heap.size + 1 ≠ D by omega)
    refine leave_mark (D := D) hK (leave_nil (v := .tuple #[.int .i64 x, .int .i64 0]) (by simp [results, Try.results45, go_sem, b0.cell, b1.cell]) ⟨?_, hg.putObj (by omega) _⟩)
    rcases closesL_zero ha hs with ⟨h, _⟩ | ⟨t, h, h'⟩
    · rw [h] at hpart; simp at hpart
    · rw [h] at hpart
      obtain ⟨r, hr⟩ := hpart
      simp at hr
      rw [nextV, if_pos h', hr.1]
theorem rIs_any (a : Int) (w : World) : Calls Try.prog 41 #[.int .i64 a] w fun e w' => e = .returned (.bool (tm a)) ∧ w = w' := by
  by_cases h0 : 0 ≤ a
  · by_cases h1 : a ≤ 1099511627776
    · have hv : tm a = true := by simp [tm, h0, h1]
      have HV := Lib.hid hv
      clear hv
      go_enter Try.func41, Try.ntmps41
      go_wp2
      go_ret
      exact ⟨by rw [HV.out]; rfl, rfl⟩
    · have hv : tm a = false := by simp [tm, h1]
      have HV := Lib.hid hv
      clear hv
      go_enter Try.func41, Try.ntmps41
      go_wp2
      go_ret
      exact ⟨by rw [HV.out]; rfl, rfl⟩
  · have hv : tm a = false := by simp [tm, h0]
    have HV := Lib.hid hv
    clear hv
    go_enter Try.func41, Try.ntmps41
    go_wp2
    go_ret
    exact ⟨by rw [HV.out]; rfl, rfl⟩
theorem rWin_any (a : Int) (w : World) : Calls Try.prog 42 #[.int .i64 a] w fun e w' => e = .returned (.bool (wn a)) ∧ w = w' := by
  by_cases h0 : 1 ≤ a
  · by_cases h1 : a ≤ 1048576
    · have hv : wn a = true := by simp [wn, h0, h1]
      have HV := Lib.hid hv
      clear hv
      go_enter Try.func42, Try.ntmps42
      go_wp2
      go_ret
      exact ⟨by rw [HV.out]; rfl, rfl⟩
    · have hv : wn a = false := by simp [wn, h1]
      have HV := Lib.hid hv
      clear hv
      go_enter Try.func42, Try.ntmps42
      go_wp2
      go_ret
      exact ⟨by rw [HV.out]; rfl, rfl⟩
  · have hv : wn a = false := by simp [wn, h0]
    have HV := Lib.hid hv
    clear hv
    go_enter Try.func42, Try.ntmps42
    go_wp2
    go_ret
    exact ⟨by rw [HV.out]; rfl, rfl⟩
theorem rMark_any (a : Int) (w : World) : Calls Try.prog 26 #[.int .i64 a] w fun e w' => e = .returned (.bool (mkB a)) ∧ w = w' := by
  cases h0 : (a == -1)
  · have hv : mkB a = tm a := by
      have : a ≠ -1 := by simpa using h0
      rw [Bool.eq_iff_iff, mk_iff, tm_iff]; omega
    have HV := Lib.hid hv
    clear hv
    go_enter Try.func26, Try.ntmps26
    go_wp2_with (go_at_call 41; refine (rIs_any _ _).mono ?_; rintro e w' ⟨rfl, rfl⟩)
    go_ret
    exact ⟨by rw [HV.out]; rfl, rfl⟩
  · have hv : mkB a = true := by
      have : a = -1 := by simpa using h0
      subst this; rfl
    have HV := Lib.hid hv
    clear hv
    go_enter Try.func26, Try.ntmps26
    go_wp2
    go_ret
    exact ⟨by rw [HV.out]; rfl, rfl⟩
theorem down_any (a s : Int) (w : World) (h1 : 1 ≤ s) (ha : a ≤ 1099511627776) : Calls Try.prog 43 #[.int .i64 a, .int .i64 s] w fun e w' => e = .returned (.int .i64 (past a s)) ∧ w = w' := by
  have p1 : a < 0 → past a s = 0 := fun h => by unfold past; rw [show max a 0 = 0 by omega]; simp
  have p2 : 0 ≤ a → past a s = a / s := fun h => by unfold past; rw [show max a 0 = a by omega]
  have P1 := Lib.hid p1
  have P2 := Lib.hid p2
  clear p1 p2
  by_cases h0 : a < 0
  · go_enter Try.func43, Try.ntmps43
    go_wp2
    go_ret
    exact ⟨by rw [P1.out (by assumption)]; rfl, rfl⟩
  · go_enter Try.func43, Try.ntmps43
    go_wp2
    go_ret
    exact ⟨by rw [P2.out (by omega)]; rfl, rfl⟩
def nextR (a s : Int) : Value := if (mkB a && wn s) = true then nextV a s else .tuple #[.int .i64 0, .int .i64 2]
theorem next_any (a s : Int) (w : World) : Calls Try.prog 45 #[.int .i64 a, .int .i64 s] w fun e w' => e = .returned (nextR a s) ∧ G w w' := by
  cases h1 : mkB a
  · have HV := Lib.hid (show nextR a s = .tuple #[.int .i64 0, .int .i64 2] by simp [nextR, h1])
    refine calls_of_marks Try.func45 rfl ?_
    simp only [Try.ntmps45, List.size_toArray, List.length_cons, List.length_nil, Nat.reduceAdd, Nat.reduceSub, Array.replicate_succ, Array.replicate_zero, List.push_toArray, List.append_toArray, List.nil_append, List.cons_append]
    have hb0 := ((Boxed.new w 3 (.int .i64 0)).alloc (.cells #[.int .i64 0] 24))
    have hb1 := (Boxed.new (w.alloc (.cells #[.int .i64 0] 3)) 24 (.int .i64 0))
    have hg0 : G w ((w.alloc (.cells #[.int .i64 0] 3)).alloc (.cells #[.int .i64 0] 24)) := ((G.refl w).alloc _).alloc _
    rw [World.size_alloc] at hb1
    go_wp2_with fail
    refine (mark_any _ _).mono ?_; rintro e w1 ⟨rfl, hbel⟩
    have c0 := (hbel.boxed hb0).cell
    have f0 := (hbel.boxed hb0).frozen
    have c1 := (hbel.boxed hb1).cell
    have f1 := (hbel.boxed hb1).frozen
    go_wp2_with fail
    have b0 := boxed_other (v' := .int .i64 2) ((hbel.boxed hb0).set (.int .i64 0)) (show w.heap.size ≠ w.heap.size + 1 by omega)
    have b1 := (boxed_other (v' := .int .i64 0) (hbel.boxed hb1) (show w.heap.size + 1 ≠ w.heap.size by omega)).set (.int .i64 2)
    refine leave_nil (v := .tuple #[.int .i64 0, .int .i64 2]) (by simp [results, Try.results45, go_sem, b0.cell, b1.cell]) ⟨by rw [HV.out], ?_⟩
    exact ((hg0.trans hbel).setCell (p := ⟨w.heap.size, 0, none⟩) (Nat.le_refl _) _).setCell (p := ⟨w.heap.size + 1, 0, none⟩) (by simp) _
  · cases h2 : wn s
    · have HV := Lib.hid (show nextR a s = .tuple #[.int .i64 0, .int .i64 2] by simp [nextR, h2])
      refine calls_of_marks Try.func45 rfl ?_
      simp only [Try.ntmps45, List.size_toArray, List.length_cons, List.length_nil, Nat.reduceAdd, Nat.reduceSub, Array.replicate_succ, Array.replicate_zero, List.push_toArray, List.append_toArray, List.nil_append, List.cons_append]
      have hb0 := ((Boxed.new w 3 (.int .i64 0)).alloc (.cells #[.int .i64 0] 24))
      have hb1 := (Boxed.new (w.alloc (.cells #[.int .i64 0] 3)) 24 (.int .i64 0))
      have hg0 : G w ((w.alloc (.cells #[.int .i64 0] 3)).alloc (.cells #[.int .i64 0] 24)) := ((G.refl w).alloc _).alloc _
      rw [World.size_alloc] at hb1
      go_wp2_with fail
      refine (mark_any _ _).mono ?_; rintro e w1 ⟨rfl, hbel⟩
      go_wp2_with fail
      refine (win_any s _ _ (by simp [go_sem])).mono ?_; rintro e w2 ⟨rfl, rfl⟩
      have hb0' := (hbel.boxed hb0).alloc (.cells #[.int .i64 s] 3)
      have hb1' := (hbel.boxed hb1).alloc (.cells #[.int .i64 s] 3)
      have c0 := hb0'.cell
      have f0 := hb0'.frozen
      have c1 := hb1'.cell
      have f1 := hb1'.frozen
      go_wp2_with fail
      have b0 := boxed_other (v' := .int .i64 2) (hb0'.set (.int .i64 0)) (show w.heap.size ≠ w.heap.size + 1 by omega)
      have b1 := (boxed_other (v' := .int .i64 0) hb1' (show w.heap.size + 1 ≠ w.heap.size by omega)).set (.int .i64 2)
      refine leave_nil (v := .tuple #[.int .i64 0, .int .i64 2]) (by simp [results, Try.results45, go_sem, b0.cell, b1.cell]) ⟨by rw [HV.out], ?_⟩
      exact (((hg0.trans hbel).alloc _).setCell (p := ⟨w.heap.size, 0, none⟩) (Nat.le_refl _) _).setCell (p := ⟨w.heap.size + 1, 0, none⟩) (by simp) _
    · exact (next_yes a s w h1 h2).mono fun e w' ⟨h, g⟩ => ⟨by rw [h]; simp [nextR, h1, h2], g⟩
def countV (a b s : Int) : Value := if (mkB a && mkB b && wn s) = true then .tuple #[.int .i64 (countN a b s), .int .i64 0] else .tuple #[.int .i64 0, .int .i64 2]
theorem count_any (a b s : Int) (w : World) : Calls Try.prog 25 #[.int .i64 a, .int .i64 b, .int .i64 s] w fun e w' => e = .returned (countV a b s) ∧ G w w' := by
  cases h : (mkB a && mkB b && wn s)
  · exact (count_no a b s w h).mono fun e w' ⟨h1, g⟩ => ⟨by rw [h1]; simp [countV, h], g⟩
  · have h' := h
    simp only [Bool.and_eq_true] at h'
    exact (count_yes a b s w h'.1.1 h'.1.2 h'.2).mono fun e w' ⟨h1, g⟩ => ⟨by rw [h1]; simp only [countV, h, if_true], g⟩
theorem rCount_any (a b s : Int) (w : World) : Calls Try.prog 27 #[.int .i64 a, .int .i64 b, .int .i64 s] w fun e w' => e = .returned (countV a b s) ∧ w = w' := by
  cases h1 : mkB a
  · have HV := Lib.hid (show countV a b s = .tuple #[.int .i64 0, .int .i64 2] by simp [countV, h1])
    go_enter Try.func27, Try.ntmps27
    go_wp2_with (first | (go_at_call 26; refine (rMark_any _ _).mono ?_; rintro e w' ⟨rfl, rfl⟩) | (go_at_call 42; refine (rWin_any _ _).mono ?_; rintro e w' ⟨rfl, rfl⟩))
    go_ret2
    exact ⟨by rw [HV.out]; first | rfl | (simp; omega), rfl⟩
  · cases h2 : mkB b
    · have HV := Lib.hid (show countV a b s = .tuple #[.int .i64 0, .int .i64 2] by simp [countV, h2])
      go_enter Try.func27, Try.ntmps27
      go_wp2_with (first | (go_at_call 26; refine (rMark_any _ _).mono ?_; rintro e w' ⟨rfl, rfl⟩) | (go_at_call 42; refine (rWin_any _ _).mono ?_; rintro e w' ⟨rfl, rfl⟩))
      go_ret2
      exact ⟨by rw [HV.out]; first | rfl | (simp; omega), rfl⟩
    · cases h3 : wn s
      · have HV := Lib.hid (show countV a b s = .tuple #[.int .i64 0, .int .i64 2] by simp [countV, h3])
        go_enter Try.func27, Try.ntmps27
        go_wp2_with (first | (go_at_call 26; refine (rMark_any _ _).mono ?_; rintro e w' ⟨rfl, rfl⟩) | (go_at_call 42; refine (rWin_any _ _).mono ?_; rintro e w' ⟨rfl, rfl⟩))
        go_ret2
        exact ⟨by rw [HV.out]; first | rfl | (simp; omega), rfl⟩
      · obtain ⟨ha1, ha2⟩ := mk_iff.1 h1
        obtain ⟨hb1, hb2⟩ := mk_iff.1 h2
        obtain ⟨hs1, hs2⟩ := wn_iff.1 h3
        obtain ⟨q1, q2⟩ := past_bd hs1 ha2
        obtain ⟨q3, q4⟩ := past_bd hs1 hb2
        have p1 : past b s - past a s < 0 → countV a b s = .tuple #[.int .i64 0, .int .i64 0] := fun h => by simp only [countV, h1, h2, h3, Bool.and_true, if_true]; rw [show countN a b s = 0 by unfold countN; omega]
        have p2 : 0 ≤ past b s - past a s → countV a b s = .tuple #[.int .i64 (past b s - past a s), .int .i64 0] := fun h => by simp only [countV, h1, h2, h3, Bool.and_true, if_true]; rw [show countN a b s = past b s - past a s by unfold countN; omega]
        have P1 := Lib.hid p1
        have P2 := Lib.hid p2
        clear p1 p2
        go_enter Try.func27, Try.ntmps27
        go_wp2_with (first | (go_at_call 26; refine (rMark_any _ _).mono ?_; rintro e w' ⟨rfl, rfl⟩) | (go_at_call 42; refine (rWin_any _ _).mono ?_; rintro e w' ⟨rfl, rfl⟩) | (go_at_call 43; refine (down_any _ _ _ hs1 (by assumption)).mono ?_; rintro e w' ⟨rfl, rfl⟩))
        · go_ret2
          exact ⟨by rw [P1.out (by assumption)]; rfl, rfl⟩
        · go_ret2
          exact ⟨by rw [P2.out (by assumption)]; rfl, rfl⟩
end Go.Proofs.Ythhmmjpgefinmaa

set_option maxRecDepth 10000
namespace Go.Proofs.Ythhmmjpgefinmaa
set_option linter.unusedVariables false
set_option linter.unusedSimpArgs false
/-- a slot: query, slide -/
abbrev Slt := Int × Int
def rightA (last : Int) : List Slt → Bool
  | [] => true
  | s :: l => decide (last < s.1) && (decide (0 < s.2) && (decide (s.2 ≤ 1048576) && rightA s.1 l))
def rightL (l : List Slt) : Bool := rightA 0 l
def cntA (a b : Int) (n : Int) : List Slt → Option Int
  | [] => some n
  | s :: l => if n + countN a b s.2 > 4096 then none else cntA a b (n + countN a b s.2) l
def okL (a b : Int) (l : List Slt) : Bool := rightL l && (mkB a && mkB b)
def cntV (a b : Int) (l : List Slt) : Int × Int := if okL a b l = true then (match cntA a b 0 l with | some n => (n, 0) | none => (0, 17)) else (0, 2)
def dv (t : Int) (s : Slt) : Bool := decide (t % s.2 = 0)
def rowC (t : Int) (l : List Slt) : List (Int × Int) := (l.filter (dv t)).map (fun s => (t, s.1))
def ticks (a b : Int) : List Int := (List.range (b - max a 0).toNat).map (fun i : Nat => max a 0 + 1 + (i : Int))
def closesD (a b : Int) (l : List Slt) : List (Int × Int) := (ticks a b).flatMap (fun t => rowC t l)
def nxt (a s : Int) : Int := (max a 0 / s + 1) * s
theorem nxt_at (a s : Int) : nxt a s = closeAt a s 0 := by unfold nxt closeAt past; rw [Int.add_mul]; simp
theorem nxt_dv (a s : Int) : nxt a s % s = 0 := Int.mul_emod_left ..
theorem nxt_gt {a s : Int} (h : 1 ≤ s) : max a 0 < nxt a s := Int.lt_ediv_add_one_mul_self (max a 0) (by omega)
theorem nxt_le {a s t : Int} (h : 1 ≤ s) (ht : max a 0 < t) (hd : t % s = 0) : nxt a s ≤ t := by
  obtain ⟨q, rfl⟩ := Int.dvd_of_emod_eq_zero hd
  unfold nxt
  rw [Int.mul_comm s q]
  refine Int.mul_le_mul_of_nonneg_right ?_ (by omega)
  have : max a 0 / s < q := Int.ediv_lt_of_lt_mul (by omega) (by rw [Int.mul_comm] at ht; exact ht)
  omega
theorem rightA_mem : ∀ {l : List Slt} {z : Int}, rightA z l = true → ∀ s ∈ l, z < s.1 ∧ 1 ≤ s.2 ∧ s.2 ≤ 1048576
  | [], _, _, _, h => by cases h
  | x :: l, z, h, s, hs => by
    simp only [rightA, Bool.and_eq_true, decide_eq_true_eq] at h
    rcases List.mem_cons.1 hs with rfl | e
    · exact ⟨h.1, by omega, h.2.2.1⟩
    · have := rightA_mem h.2.2.2 s e
      exact ⟨by omega, this.2⟩
theorem rightA_lt : ∀ {l : List Slt} {z : Int}, rightA z l = true → l.Pairwise (fun a b => a.1 < b.1)
  | [], _, _ => List.Pairwise.nil
  | x :: l, z, h => by
    simp only [rightA, Bool.and_eq_true, decide_eq_true_eq] at h
    exact List.Pairwise.cons (fun s hs => (rightA_mem h.2.2.2 s hs).1) (rightA_lt h.2.2.2)
theorem ticks_mem {a b t : Int} : t ∈ ticks a b ↔ max a 0 < t ∧ t ≤ b := by
  unfold ticks
  simp only [List.mem_map, List.mem_range]
  constructor
  · rintro ⟨i, hi, rfl⟩; omega
  · rintro ⟨h1, h2⟩; exact ⟨(t - max a 0 - 1).toNat, by omega, by omega⟩
theorem ticks_split {a m b : Int} (h1 : max a 0 ≤ max m 0) (h2 : max m 0 ≤ max b 0) : ticks a b = ticks a m ++ ticks m b := by
  by_cases hm : 0 ≤ m
  · unfold ticks
    rw [show (b - max a 0).toNat = (m - max a 0).toNat + (b - max m 0).toNat by omega, List.range_add, List.map_append, List.map_map]
    congr 1
    refine List.map_congr_left fun i _ => ?_
    simp only [Function.comp]
    omega
  · have e : max a 0 = max m 0 := by omega
    have e2 : ticks a m = [] := by unfold ticks; rw [show (m - max a 0).toNat = 0 by omega]; rfl
    rw [e2, List.nil_append]
    unfold ticks
    rw [e]
theorem ticks_nil {a b : Int} (h : b ≤ max a 0) : ticks a b = [] := by unfold ticks; rw [show (b - max a 0).toNat = 0 by omega]; rfl
theorem ticks_one {t b : Int} (h0 : 0 < t) (h : t ≤ b) : ticks (t - 1) b = t :: ticks t b := by
  unfold ticks
  rw [show (b - max (t - 1) 0).toNat = (b - max t 0).toNat + 1 by omega, List.range_succ_eq_map, List.map_cons, List.map_map]
  congr 1
  · omega
  · refine List.map_congr_left fun i _ => ?_
    simp only [Function.comp]
    omega
theorem closesD_split {a m b : Int} {l : List Slt} (h1 : max a 0 ≤ max m 0) (h2 : max m 0 ≤ max b 0) : closesD a b l = closesD a m l ++ closesD m b l := by
  unfold closesD; rw [ticks_split h1 h2, List.flatMap_append]
theorem row_nil {t : Int} {l : List Slt} (h : ∀ s ∈ l, dv t s = false) : rowC t l = [] := by
  unfold rowC
  rw [List.filter_eq_nil_iff.2 (fun s hs => by rw [h s hs]; simp)]; rfl
theorem closesD_none {a b : Int} {l : List Slt} (h : ∀ t, max a 0 < t → t ≤ b → ∀ s ∈ l, dv t s = false) : closesD a b l = [] := by
  unfold closesD
  rw [List.flatMap_eq_nil_iff]
  intro t ht
  obtain ⟨h1, h2⟩ := ticks_mem.1 ht
  exact row_nil (h t h1 h2)
theorem closesD_skip {a T b : Int} {l : List Slt} (h : ∀ t, max a 0 < t → t < T → ∀ s ∈ l, dv t s = false) (h1 : max a 0 < T) (h2 : T ≤ b) : closesD a b l = rowC T l ++ closesD T b l := by
  rw [closesD_split (m := T - 1) (by omega) (by omega), closesD_none (fun t ht1 ht2 => h t ht1 (by omega)), List.nil_append]
  unfold closesD
  rw [ticks_one (by omega) h2]; rfl
/-- the soonest close -/
def soonV (a : Int) (f : Int) (l : List Slt) : Int := l.foldl (fun f s => if nxt a s.2 ≤ 1099511627776 then min f (nxt a s.2) else f) f
theorem soonV_le : ∀ {l : List Slt} {a f : Int}, soonV a f l ≤ f
  | [], _, _ => Int.le_refl _
  | s :: l, a, f => by
    have := soonV_le (l := l) (a := a) (f := if nxt a s.2 ≤ 1099511627776 then min f (nxt a s.2) else f)
    unfold soonV at this ⊢
    rw [List.foldl_cons]
    refine Int.le_trans this ?_
    split <;> omega
theorem soonV_lb : ∀ {l : List Slt} {a f : Int} {s : Slt}, s ∈ l → nxt a s.2 ≤ 1099511627776 → soonV a f l ≤ nxt a s.2
  | x :: l, a, f, s, hs, h => by
    unfold soonV
    rw [List.foldl_cons]
    rcases List.mem_cons.1 hs with rfl | e
    · have := soonV_le (l := l) (a := a) (f := if nxt a s.2 ≤ 1099511627776 then min f (nxt a s.2) else f)
      unfold soonV at this
      rw [if_pos h] at this ⊢
      omega
    · exact soonV_lb (l := l) e h
theorem soonV_is : ∀ {l : List Slt} {a f : Int}, soonV a f l = f ∨ ∃ s ∈ l, soonV a f l = nxt a s.2
  | [], _, _ => .inl rfl
  | x :: l, a, f => by
    have := soonV_is (l := l) (a := a) (f := if nxt a x.2 ≤ 1099511627776 then min f (nxt a x.2) else f)
    unfold soonV at this ⊢
    rw [List.foldl_cons]
    rcases this with e | ⟨s, hs, e⟩
    · rw [e]
      by_cases h : nxt a x.2 ≤ 1099511627776
      · rw [if_pos h]
        by_cases h2 : f ≤ nxt a x.2
        · exact .inl (by omega)
        · exact .inr ⟨x, List.mem_cons_self .., by omega⟩
      · rw [if_neg h]; exact .inl rfl
    · exact .inr ⟨s, List.mem_cons_of_mem _ hs, e⟩
theorem soon_step {a b : Int} {l : List Slt} (hl : ∀ s ∈ l, 1 ≤ s.2) (hb : b ≤ 1099511627776) :
    (soonV a (b + 1) l ≤ b → max a 0 < soonV a (b + 1) l ∧ closesD a b l = rowC (soonV a (b + 1) l) l ++ closesD (soonV a (b + 1) l) b l) ∧ (¬ soonV a (b + 1) l ≤ b → closesD a b l = []) := by
  have key : ∀ t, max a 0 < t → t ≤ b → t < soonV a (b + 1) l → ∀ s ∈ l, dv t s = false := fun t h1 h2 h3 s hs => by
    by_cases hd : t % s.2 = 0
    · have := nxt_le (hl s hs) h1 hd
      have := soonV_lb (f := b + 1) hs (a := a) (by omega)
      omega
    · simp [dv, hd]
  constructor
  · intro h
    have hg : max a 0 < soonV a (b + 1) l := by
      rcases soonV_is (l := l) (a := a) (f := b + 1) with e | ⟨s, hs, e⟩
      · omega
      · rw [e]; exact nxt_gt (hl s hs)
    exact ⟨hg, closesD_skip (fun t h1 h2 => key t h1 (by omega) h2) hg h⟩
  · intro h
    exact closesD_none (fun t h1 h2 => key t h1 h2 (by omega))
/-- how many there are -/
theorem div_succ {x s : Int} (hs : 1 ≤ s) : (x + 1) / s = x / s + (if (x + 1) % s = 0 then 1 else 0) := by
  have h1 := Int.mul_ediv_add_emod (x + 1) s
  have h2 := Int.emod_nonneg (x + 1) (show s ≠ 0 by omega)
  have h3 := Int.emod_lt_of_pos (x + 1) (show 0 < s by omega)
  generalize hq : (x + 1) / s = q at h1
  generalize hr : (x + 1) % s = r at h1 h2 h3
  split
  · rename_i h
    have : x = s - 1 + s * (q - 1) := by rw [Int.mul_sub]; omega
    rw [this, Int.add_mul_ediv_left _ _ (by omega), Int.ediv_eq_zero_of_lt (by omega) (by omega)]; omega
  · have : x = r - 1 + s * q := by omega
    rw [this, Int.add_mul_ediv_left _ _ (by omega), Int.ediv_eq_zero_of_lt (by omega) (by omega)]; omega
theorem count_ticks {A : Int} {s : Slt} (hs : 1 ≤ s.2) : ∀ n : Nat, ((((List.range n).map (fun i : Nat => A + 1 + (i : Int))).countP (fun t => dv t s) : Nat) : Int) = (A + n) / s.2 - A / s.2
  | 0 => by simp
  | n + 1 => by
    rw [List.range_succ, List.map_append, List.countP_append]
    have h := count_ticks hs n (A := A)
    have h2 := div_succ (x := A + n) hs
    simp only [List.map_cons, List.map_nil, List.countP_cons, List.countP_nil, Nat.zero_add]
    rw [show A + ((n + 1 : Nat) : Int) = A + n + 1 by omega, h2]
    rw [show A + 1 + (n : Int) = A + n + 1 by omega]
    by_cases hd : (A + n + 1) % s.2 = 0
    · rw [if_pos hd, if_pos (by simpa [dv] using hd)]; omega
    · rw [if_neg hd, if_neg (by simpa [dv] using hd)]; omega
theorem count_one {a b : Int} {s : Slt} (hs : 1 ≤ s.2) : (((ticks a b).countP (fun t => dv t s) : Nat) : Int) = countN a b s.2 := by
  unfold ticks
  rw [count_ticks hs]
  unfold countN past
  by_cases h : max a 0 ≤ b
  · rw [show max a 0 + ((b - max a 0).toNat : Int) = max b 0 by omega]
    have := Int.ediv_le_ediv (show 0 < s.2 by omega) (show max a 0 ≤ max b 0 by omega)
    omega
  · rw [show (b - max a 0).toNat = 0 by omega]
    have := Int.ediv_le_ediv (show 0 < s.2 by omega) (show max b 0 ≤ max a 0 by omega)
    simp only [Int.natCast_zero, Int.add_zero]
    omega
def sumC (a b : Int) (l : List Slt) : Int := (l.map (fun s => countN a b s.2)).sum
theorem row_len (t : Int) (l : List Slt) : (rowC t l).length = l.countP (dv t) := by unfold rowC; rw [List.length_map, List.countP_eq_length_filter]
theorem flat_count (ts : List Int) : ∀ l : List Slt, ((ts.flatMap (fun t => rowC t l)).length : Int) = (l.map (fun s => ((ts.countP (fun t => dv t s) : Nat) : Int))).sum
  | [] => by
    have : ts.flatMap (fun t => rowC t []) = [] := List.flatMap_eq_nil_iff.2 (fun _ _ => rfl)
    rw [this]; rfl
  | s :: l => by
    have ih := flat_count ts l
    rw [List.map_cons, List.sum_cons, ← ih]
    clear ih
    induction ts with
    | nil => rfl
    | cons t ts ih =>
      rw [List.flatMap_cons, List.flatMap_cons, List.length_append, List.length_append, List.countP_cons, row_len, row_len, List.countP_cons]
      by_cases hd : dv t s = true
      · rw [if_pos hd]; omega
      · rw [if_neg hd]; omega
theorem closes_len {a b : Int} {l : List Slt} (hl : ∀ s ∈ l, 1 ≤ s.2) : ((closesD a b l).length : Int) = sumC a b l := by
  unfold closesD sumC
  rw [flat_count]
  congr 1
  exact List.map_congr_left fun s hs => count_one (hl s hs)
theorem countN_nn (a b s : Int) : 0 ≤ countN a b s := by unfold countN; omega
theorem cntA_some : ∀ {l : List Slt} {a b n m : Int}, cntA a b n l = some m → m = n + sumC a b l ∧ (l ≠ [] → m ≤ 4096)
  | [], _, _, _, _, h => by cases h; exact ⟨by simp [sumC], fun h => absurd rfl h⟩
  | s :: l, a, b, n, m, h => by
    unfold cntA at h
    split at h
    · cases h
    · rename_i h0
      obtain ⟨h1, h2⟩ := cntA_some h
      refine ⟨by rw [h1]; simp [sumC]; omega, fun _ => ?_⟩
      by_cases hl : l = []
      · subst hl; cases h; omega
      · exact h2 hl
theorem cntV_ok {a b n : Int} {l : List Slt} (h : cntV a b l = (n, 0)) : okL a b l = true ∧ n = ((closesD a b l).length : Int) ∧ n ≤ 4096 := by
  unfold cntV at h
  split at h
  · rename_i hok
    refine ⟨hok, ?_⟩
    split at h
    · rename_i m hm
      cases h
      obtain ⟨h1, h2⟩ := cntA_some hm
      have hr : rightL l = true := by unfold okL at hok; simp only [Bool.and_eq_true] at hok; exact hok.1
      rw [closes_len (fun s hs => (rightA_mem hr s hs).2.1)]
      refine ⟨by omega, ?_⟩
      by_cases hl : l = []
      · subst hl; rw [h1]; simp [sumC]
      · exact h2 hl
    · cases h
  · cases h
theorem cntV_no {a b n e : Int} {l : List Slt} (h : cntV a b l = (n, e)) (he : e ≠ 0) : n = 0 := by
  unfold cntV at h
  split at h
  · split at h
    · cases h; exact absurd rfl he
    · cases h; rfl
  · cases h; rfl
end Go.Proofs.Ythhmmjpgefinmaa

set_option maxRecDepth 10000
namespace Go.Proofs.Ythhmmjpgefinmaa
set_option linter.unusedVariables false
set_option linter.unusedSimpArgs false
open Go.RowKit Go.Shelf
attribute [local go_sem] Oper.semAt_some

/-- may a slot stand behind a query? -/
def mayB (z : Int) (s : Slt) : Bool := decide (z < s.1) && (decide (0 < s.2) && decide (s.2 ≤ 1048576))
theorem right_cons (z : Int) (s : Slt) (l : List Slt) : rightA z (s :: l) = (mayB z s && rightA s.1 l) := by
  simp [rightA, mayB, Bool.and_assoc]
theorem odd_any (z q s : Int) (b : Nat) (w : World) (hb : Boxed w b 3 (.int .i64 z)) :
    Calls Try.prog 28 #[.agg #[.int .i64 q, .int .i64 s], .pointer (some ⟨b, 0, none⟩)] w fun e w' => e = .returned (.bool (!mayB z (q, s))) ∧ Boxed w' b 3 (.int .i64 q) ∧ Fr (fun k => k = b) w w' := by
  have hlt := hb.lt
  have hcc := hb.cell
  have hfz := hb.frozen
  have hne : b ≠ w.heap.size := by omega
  have HB := Lib.hid hb
  have HV1 := Lib.hid (fun (h : q ≤ z) => show mayB z (q, s) = false by unfold mayB; rw [show decide (z < q) = false by simpa using h]; rfl)
  have HV2 := Lib.hid (fun (h : ¬ q ≤ z) (h2 : s ≤ 0) => show mayB z (q, s) = false by unfold mayB; rw [show decide (0 < s) = false by simpa using h2]; simp)
  have HV3 := Lib.hid (fun (h : ¬ q ≤ z) (h2 : ¬ s ≤ 0) (h3 : 1048576 < s) => show mayB z (q, s) = false by unfold mayB; rw [show decide (s ≤ 1048576) = false by simpa using h3]; simp)
  have HV4 := Lib.hid (fun (h : ¬ q ≤ z) (h2 : ¬ s ≤ 0) (h3 : ¬ 1048576 < s) => show mayB z (q, s) = true by unfold mayB; simp; omega)
  have HF : ∀ (v : Value), Boxed ((w.setCell ⟨b, 0, none⟩ (.int .i64 q)).alloc (.cells #[.int .i64 q, .int .i64 s] 55)) b 3 (.int .i64 q) ∧ Fr (fun k => k = b) w ((w.setCell ⟨b, 0, none⟩ (.int .i64 q)).alloc (.cells #[.int .i64 q, .int .i64 s] 55)) := fun v =>
    ⟨(HB.out.set _).alloc _, ((Fr.refl (fun k => k = b) w).setCell (p := ⟨b, 0, none⟩) (.inl rfl) _).alloc _⟩
  have HF := Lib.hid HF
  clear hb
  by_cases h1 : q ≤ z
  · go_enter Try.func28, Try.ntmps28
    go_wp2
    go_ret
    exact ⟨by rw [HV1.out h1]; rfl, HF.out undef⟩
  · by_cases h2 : s ≤ 0
    · go_enter Try.func28, Try.ntmps28
      go_wp2
      go_ret
      exact ⟨by rw [HV2.out h1 h2]; rfl, HF.out undef⟩
    · by_cases h3 : 1048576 < s
      · go_enter Try.func28, Try.ntmps28
        go_wp2
        go_ret
        exact ⟨by rw [HV3.out h1 h2 h3]; rfl, HF.out undef⟩
      · go_enter Try.func28, Try.ntmps28
        go_wp2
        go_ret
        exact ⟨by rw [HV4.out h1 h2 h3]; rfl, HF.out undef⟩
/-- slots are read -/
def RdrS (W : World) (v : Value) (l : List Slt) : Prop := Rdr W 2 v l.length (icells l)
theorem RdrS.g {W W' : World} {v : Value} {l : List Slt} (h : RdrS W v l) (hg : G W W') : RdrS W' v l := Rdr.g h hg
theorem RdrS.fr {S : Nat → Prop} {W W' : World} {v : Value} {l : List Slt} (h : RdrS W v l) (hf : Fr S W W') (hs : ∀ g, v.ownBlock = some g → ¬ S g) : RdrS W' v l := Rdr.fr h hf hs
theorem RdrS.frn {S : Nat → Prop} {W W' : World} {v : Value} {l : List Slt} (h : RdrS W v l) (hf : Fr S W W') (hs : 0 < l.length → ∀ g, v.ownBlock = some g → ¬ S g) : RdrS W' v l := by
  rcases Nat.eq_zero_or_pos l.length with h0 | h0
  · obtain ⟨h1, p, c, h2, -⟩ := h
    exact ⟨h1, p, c, h2, fun h3 => by omega⟩
  · exact h.fr hf (hs h0)
theorem RdrS.shape {W : World} {v : Value} {l : List Slt} (h : RdrS W v l) : ∃ p c, v = .slice p l.length c := by
  obtain ⟨-, p, c, h, -⟩ := h; exact ⟨p, c, h⟩
theorem RdrS.at {W : World} {p : Option Addr} {n c : Nat} {l : List Slt} (h : Rdr W 2 (.slice p n c) n (icells l)) (hn : n = l.length) {k : Nat} (hk : k < n) : ∃ b o q s, l[k]? = some (q, s) ∧ p = some ⟨b, o, none⟩ ∧ W.cell? ⟨b, o + k * 2, none⟩ = some (.int .i64 q) ∧ W.cell? ⟨b, o + k * 2 + 1, none⟩ = some (.int .i64 s) := by
  obtain ⟨b, o, hp, hc⟩ := h.one (by omega)
  have hx : l[k]? = some (l[k]'(by omega)) := List.getElem?_eq_getElem _
  obtain ⟨a0, a1⟩ := icells_get hx
  exact ⟨b, o, _, _, hx, hp, hc _ _ a0, by rw [Nat.add_assoc]; exact hc _ _ a1⟩
set_option maxHeartbeats 1000000 in
theorem slotIx_any (l : List Slt) (v : Value) (b : Nat) (w : World) (h : RdrS w v l) (hb : Boxed w b 3 (.int .i64 0)) (hv : 0 < l.length → ∀ g, v.ownBlock = some g → g ≠ b) (hn : l.length ≤ 4611686018427387904) :
    Calls Try.prog 44 #[v, .func (.func 28) #[] #[.pointer (some ⟨b, 0, none⟩)]] w fun e w' => (∃ i : Int, e = .returned (.int .i64 i) ∧ decide (0 ≤ i) = !rightL l) ∧ Fr (fun k => k = b) w w' := by
  obtain ⟨p, c, rfl⟩ := h.shape
  obtain ⟨m, hm⟩ : ∃ m, m = l.length := ⟨_, rfl⟩
  have HR : Hid (Rdr w 2 (.slice p m c) m (icells l)) := Lib.hid (by rw [hm]; exact h)
  have HV : Hid (0 < m → ∀ g, (Value.slice p m c).ownBlock = some g → g ≠ b) := Lib.hid (by rw [hm]; exact hv)
  rw [← hm] at hn ⊢
  have HM := Lib.hid hm
  have HB := Lib.hid hb
  clear hm h hv hb
  go_enter Try.func44, Try.ntmps44
  go_wp2_with fail
  go_loopw [8] (fun i wr => ∃ (k : Nat) (z : Int), k ≤ m ∧ i = .int .i64 k ∧ Hid (Boxed wr b 3 (.int .i64 z)) ∧ Hid (rightL l = rightA z (l.drop k)) ∧ Hid (Fr (fun q => q = b) w wr)) (fun i _ => m - (intOf i).toNat)
  case atStart => exact ⟨0, 0, by omega, rfl, HB, Lib.hid rfl, Lib.hid (Fr.refl _ _)⟩
  case round =>
    obtain ⟨k, z, hk, rfl, HZ, HE, HF⟩ := hrel
    by_cases hlt : k < m
    · have hkI : (k : Int) < (m : Int) := by omega
      have hr : Rdr wr 2 (.slice p m c) m (icells l) := HR.out.fr HF.out (fun g hg e => HV.out (by omega) g hg e)
      obtain ⟨bb, o, q, s, hx, rfl, c0, c1⟩ := RdrS.at hr HM.out hlt
      have HD : Hid (l.drop k = (q, s) :: l.drop (k + 1)) := Lib.hid (by
        rw [List.drop_eq_getElem_cons (by have := HM.out; omega)]
        have := (List.getElem?_eq_some_iff.1 hx)
        obtain ⟨h1, h2⟩ := this
        rw [h2])
      have HO := Lib.hid (odd_any z q s b wr HZ.out)
      clear hx hr
      go_wp2_with fail
      refine HO.out.mono ?_
      rintro e w2 ⟨rfl, hb2, hf2⟩
      have HF2 := Lib.hid (HF.out.trans hf2 (fun _ _ e => e))
      have HB2 := Lib.hid hb2
      cases hmb : mayB z (q, s)
      · have HFF : Hid (rightL l = false) := Lib.hid (by rw [HE.out, HD.out, right_cons, hmb]; rfl)
        clear hmb hb2 hf2
        go_wp2_with fail
        go_ret
        refine ⟨⟨_, rfl, ?_⟩, HF2.out⟩
        rw [HFF.out]; simp
      · have HE2 : Hid (rightL l = rightA q (l.drop (k + 1))) := Lib.hid (by rw [HE.out, HD.out, right_cons, hmb]; rfl)
        clear hmb hb2 hf2
        go_wp2_with fail
        go_roundw
        case rel => exact ⟨k + 1, q, by omega, by go_num, HB2, HE2, HF2⟩
        case measure => simp [intOf]; omega
    · have HT : Hid (rightL l = true) := Lib.hid (by rw [HE.out, List.drop_of_length_le (by have := HM.out; omega)]; rfl)
      go_wp2_with fail
      go_ret
      exact ⟨⟨_, rfl, by rw [HT.out]; rfl⟩, HF.out⟩
theorem slots_any (l : List Slt) (v : Value) (w : World) (h : RdrS w v l) (hn : l.length ≤ 4611686018427387904) :
    Calls Try.prog 10 #[v] w fun e w' => e = .returned (.bool (rightL l)) ∧ G w w' := by
  have hga : G w (w.alloc (.cells #[.int .i64 0] 3)) := (G.refl w).alloc _
  have HI := Lib.hid (slotIx_any l v w.heap.size (w.alloc (.cells #[.int .i64 0] 3)) (h.g hga) (Boxed.new w _ _) (fun h0 g hg e => by have := h.lt h0 (by omega) g hg; omega) hn)
  obtain ⟨p, c, rfl⟩ := h.shape
  obtain ⟨m, hm⟩ : ∃ m, m = l.length := ⟨_, rfl⟩
  rw [← hm] at HI ⊢
  have HC : Hid (Calls Try.prog 29 #[.slice p m c, .func (.func 28) #[] #[.pointer (some ⟨w.heap.size, 0, none⟩)]] (w.alloc (.cells #[.int .i64 0] 3)) fun e w' => e = .returned (.bool (!rightL l)) ∧ Fr (fun k => k = w.heap.size) (w.alloc (.cells #[.int .i64 0] 3)) w') := Lib.hid (by
    generalize w.alloc (.cells #[.int .i64 0] 3) = w1 at HI
    generalize w.heap.size = b at HI
    clear h hn hm hga
    go_enter Try.func29, Try.ntmps29
    go_wp2_with fail
    refine HI.out.mono ?_
    rintro e w2 ⟨⟨i, rfl, hi⟩, hf⟩
    go_wp2_with fail
    go_ret
    exact ⟨by rw [← hi]; rfl, hf⟩)
  clear h hn hm HI
  go_enter Try.func10, Try.ntmps10
  go_wp2_with fail
  refine HC.out.mono ?_
  rintro e w2 ⟨rfl, hf⟩
  have hgE := ((hga.fr (fun k => k = w.heap.size)).trans hf (fun _ _ e => e)).g (fun i e => by omega)
  clear hga hf HC
  go_wp2_with fail
  go_ret
  exact ⟨by simp, hgE⟩
end Go.Proofs.Ythhmmjpgefinmaa

set_option maxRecDepth 10000
namespace Go.Proofs.Ythhmmjpgefinmaa
set_option linter.unusedVariables false
set_option linter.unusedSimpArgs false
open Go.RowKit Go.Shelf
attribute [local go_sem] Oper.semAt_some

def cntT (a b : Int) (l : List Slt) : Value := .tuple #[.int .i64 (cntV a b l).1, .int .i64 (cntV a b l).2]
theorem drop_get {α : Type} {l : List α} {k : Nat} {x : α} (h : l[k]? = some x) : l.drop k = x :: l.drop (k + 1) := by
  obtain ⟨h1, h2⟩ := List.getElem?_eq_some_iff.1 h
  rw [List.drop_eq_getElem_cons h1, h2]
theorem right_at {l : List Slt} (h : rightL l = true) {k : Nat} {q s : Int} (hx : l[k]? = some (q, s)) : 0 < q ∧ 1 ≤ s ∧ s ≤ 1048576 := rightA_mem h (q, s) (List.mem_of_getElem? hx)
set_option maxHeartbeats 4000000 in
theorem rcount_any (a b : Int) (l : List Slt) (v : Value) (w : World) (h : RdrS w v l) (hn : l.length ≤ 4611686018427387904) :
    Calls Try.prog 7 #[.int .i64 a, .int .i64 b, v] w fun e w' => e = .returned (cntT a b l) ∧ G w w' := by
  have HRT := Lib.hid (slots_any l v w h hn)
  obtain ⟨p, c, rfl⟩ := h.shape
  obtain ⟨m, hm⟩ : ∃ m, m = l.length := ⟨_, rfl⟩
  have HR : Hid (Rdr w 2 (.slice p m c) m (icells l)) := Lib.hid (by rw [hm]; exact h)
  rw [← hm] at HRT hn ⊢
  have HM := Lib.hid hm
  clear hm h
  by_cases h1 : rightL l = true
  · by_cases h2 : mkB a = true
    · by_cases h3 : mkB b = true
      · have hok : okL a b l = true := by simp [okL, h1, h2, h3]
        have HV : Hid (cntT a b l = match cntA a b 0 l with | some n => .tuple #[.int .i64 n, .int .i64 0] | none => .tuple #[.int .i64 0, .int .i64 17]) := Lib.hid (by unfold cntT cntV; rw [if_pos hok]; cases cntA a b 0 l <;> rfl)
        rw [h1] at HRT
        have H1 := Lib.hid h1
        have H2 := Lib.hid h2
        have H3 := Lib.hid h3
        clear hok h1 h2 h3
        go_enter Try.func7, Try.ntmps7
        go_wp2_with fail
        refine HRT.out.mono ?_
        rintro e w1 ⟨rfl, hg1⟩
        go_wp2_with fail
        refine (mark_any a w1).mono ?_
        rintro e w2 ⟨rfl, hg2⟩
        have hg2 := hg1.trans hg2
        rw [H2.out]
        go_wp2_with fail
        refine (mark_any b w2).mono ?_
        rintro e w3 ⟨rfl, hg3⟩
        have HG3 := Lib.hid (hg2.trans hg3)
        rw [H3.out]
        clear hg1 hg2 hg3 HRT
        go_wp2_with fail
        go_loopw [6, 27] (fun nv i wr => ∃ (k : Nat) (n : Int), k ≤ m ∧ i = .int .i64 k ∧ nv = .int .i64 n ∧ 0 ≤ n ∧ n ≤ 4096 ∧ Hid (cntA a b 0 l = cntA a b n (l.drop k)) ∧ Hid (G w wr)) (fun _ i _ => m - (intOf i).toNat)
        case atStart => exact ⟨0, 0, by omega, rfl, rfl, by omega, by omega, Lib.hid rfl, HG3⟩
        case round =>
          clear HG3
          obtain ⟨k, n, hk, rfl, rfl, hn0, hn1, HC, HG⟩ := hrel
          by_cases hlt : k < m
          · have hkI : (k : Int) < (m : Int) := by omega
            obtain ⟨bb, o, q, s, hx, rfl, c0, c1⟩ := RdrS.at (HR.out.g HG.out) HM.out hlt
            obtain ⟨hq, hs1, hs2⟩ := right_at H1.out hx
            have HST : Hid (cntA a b 0 l = if n + countN a b s > 4096 then none else cntA a b (n + countN a b s) (l.drop (k + 1))) := Lib.hid (by rw [HC.out, drop_get hx]; rfl)
            have HCT := Lib.hid (fun X => count_yes a b s X H2.out H3.out (wn_iff.2 ⟨hs1, hs2⟩))
            have hga : G wr (wr.alloc (.cells #[.int .i64 q, .int .i64 s] 55)) := (G.refl wr).alloc _
            have hc0 := countN_nn a b s
            generalize countN a b s = C at HST HCT hc0
            clear hx hq
            by_cases hb : C ≤ 4097
            · by_cases hsum : n + C > 4096
              · have HN : Hid (cntT a b l = .tuple #[.int .i64 0, .int .i64 17]) := Lib.hid (by rw [HV.out, HST.out, if_pos hsum])
                have hsd : decide (4096 < n + C) = true := by simpa using hsum
                go_wp2_with fail
                refine (HCT.out _).mono ?_
                rintro e w2 ⟨rfl, hg2⟩
                have hgE := (HG.out.trans hga).trans hg2
                clear hga hg2 c0 c1
                go_wp2_with fail
                go_ret2
                exact ⟨by rw [HN.out]; rfl, hgE⟩
              · have HN : Hid (cntA a b 0 l = cntA a b (n + C) (l.drop (k + 1))) := Lib.hid (by rw [HST.out, if_neg hsum])
                have hsd : decide (4096 < n + C) = false := by simpa using hsum
                have hsum2 : n + C ≤ 4096 := by omega
                go_wp2_with fail
                refine (HCT.out _).mono ?_
                rintro e w2 ⟨rfl, hg2⟩
                have HGE := Lib.hid ((HG.out.trans hga).trans hg2)
                clear hga hg2 c0 c1
                go_wp2_with fail
                go_roundw
                case rel => exact ⟨k + 1, n + C, by omega, by go_num, by first | rfl | go_num, by omega, by omega, HN, HGE⟩
                case measure => simp [intOf]; omega
            · have HN : Hid (cntT a b l = .tuple #[.int .i64 0, .int .i64 17]) := Lib.hid (by rw [HV.out, HST.out, if_pos (by omega)])
              have hsd : decide (4096 < n + 4097) = true := by simp; omega
              have hb2 : 4097 < C := by omega
              go_wp2_with fail
              refine (HCT.out _).mono ?_
              rintro e w2 ⟨rfl, hg2⟩
              have hgE := (HG.out.trans hga).trans hg2
              clear hga hg2 c0 c1
              go_wp2_with fail
              go_ret2
              exact ⟨by rw [HN.out]; rfl, hgE⟩
          · have HN : Hid (cntT a b l = .tuple #[.int .i64 n, .int .i64 0]) := Lib.hid (by rw [HV.out, HC.out, List.drop_of_length_le (by have := HM.out; omega)]; rfl)
            have hgE := HG.out
            go_wp2_with fail
            go_ret2
            exact ⟨by rw [HN.out]; rfl, hgE⟩
      · have HN : Hid (cntT a b l = .tuple #[.int .i64 0, .int .i64 2]) := Lib.hid (by unfold cntT cntV; rw [if_neg (by simp [okL, h3])])
        simp only [Bool.not_eq_true] at h3
        rw [h1] at HRT
        have H2 := Lib.hid h2
        have H3 := Lib.hid h3
        clear h1 h2 h3
        go_enter Try.func7, Try.ntmps7
        go_wp2_with fail
        refine HRT.out.mono ?_
        rintro e w1 ⟨rfl, hg1⟩
        go_wp2_with fail
        refine (mark_any a w1).mono ?_
        rintro e w2 ⟨rfl, hg2⟩
        have hg2 := hg1.trans hg2
        rw [H2.out]
        go_wp2_with fail
        refine (mark_any b w2).mono ?_
        rintro e w3 ⟨rfl, hg3⟩
        rw [H3.out]
        go_wp2_with fail
        go_ret2
        exact ⟨by rw [HN.out]; rfl, hg2.trans hg3⟩
    · have HN : Hid (cntT a b l = .tuple #[.int .i64 0, .int .i64 2]) := Lib.hid (by unfold cntT cntV; rw [if_neg (by simp [okL, h2])])
      simp only [Bool.not_eq_true] at h2
      rw [h1] at HRT
      have H2 := Lib.hid h2
      clear h1 h2
      go_enter Try.func7, Try.ntmps7
      go_wp2_with fail
      refine HRT.out.mono ?_
      rintro e w1 ⟨rfl, hg1⟩
      go_wp2_with fail
      refine (mark_any a w1).mono ?_
      rintro e w2 ⟨rfl, hg2⟩
      have hg2 := hg1.trans hg2
      rw [H2.out]
      go_wp2_with fail
      go_ret2
      exact ⟨by rw [HN.out]; rfl, hg2⟩
  · have HN : Hid (cntT a b l = .tuple #[.int .i64 0, .int .i64 2]) := Lib.hid (by unfold cntT cntV; rw [if_neg (by simp [okL, h1])])
    simp only [Bool.not_eq_true] at h1
    rw [h1] at HRT
    clear h1
    go_enter Try.func7, Try.ntmps7
    go_wp2_with fail
    refine HRT.out.mono ?_
    rintro e w1 ⟨rfl, hg1⟩
    go_wp2_with fail
    go_ret2
    exact ⟨by rw [HN.out]; rfl, hg1⟩
set_option maxHeartbeats 4000000 in
theorem soon_any (a b : Int) (l : List Slt) (v : Value) (w : World) (h : RdrS w v l) (hn : l.length ≤ 4611686018427387904) (ha : mkB a = true) (hb : mkB b = true) (hr : rightL l = true) :
    Calls Try.prog 31 #[.int .i64 a, .int .i64 b, v] w fun e w' => e = .returned (.tuple #[.int .i64 (soonV a (b + 1) l), .bool (decide (soonV a (b + 1) l ≤ b))]) ∧ G w w' := by
  obtain ⟨p, c, rfl⟩ := h.shape
  obtain ⟨m, hm⟩ : ∃ m, m = l.length := ⟨_, rfl⟩
  have HR : Hid (Rdr w 2 (.slice p m c) m (icells l)) := Lib.hid (by rw [hm]; exact h)
  rw [← hm] at hn ⊢
  have HM := Lib.hid hm
  have H1 := Lib.hid hr
  have H2 := Lib.hid ha
  obtain ⟨hb1, hb2⟩ := mk_iff.1 hb
  clear hm h ha hb hr
  obtain ⟨SV, hsv⟩ : ∃ SV, SV = soonV a (b + 1) l := ⟨_, rfl⟩
  rw [← hsv]
  have HSV := Lib.hid hsv
  clear hsv
  go_enter Try.func31, Try.ntmps31
  go_wp2_with fail
  go_loopw [6, 16] (fun fv i wr => ∃ (k : Nat) (f : Int), k ≤ m ∧ i = .int .i64 k ∧ fv = .int .i64 f ∧ -2 ≤ f ∧ f ≤ 1099511627777 ∧ Hid (SV = soonV a f (l.drop k)) ∧ Hid (G w wr)) (fun _ i _ => m - (intOf i).toNat)
  case atStart => exact ⟨0, b + 1, by omega, rfl, rfl, by omega, by omega, HSV, Lib.hid (G.refl _)⟩
  case round =>
    obtain ⟨k, f, hk, rfl, rfl, hf0, hf1, HC, HG⟩ := hrel
    by_cases hlt : k < m
    · have hkI : (k : Int) < (m : Int) := by omega
      obtain ⟨bb, o, q, s, hx, rfl, c0, c1⟩ := RdrS.at (HR.out.g HG.out) HM.out hlt
      obtain ⟨hq, hs1, hs2⟩ := right_at H1.out hx
      have HNX := Lib.hid (fun X => next_yes a s X H2.out (wn_iff.2 ⟨hs1, hs2⟩))
      have HST : Hid (SV = soonV a (if nxt a s ≤ 1099511627776 then min f (nxt a s) else f) (l.drop (k + 1))) := Lib.hid (by rw [HC.out, drop_get hx]; rfl)
      have hga : G wr (wr.alloc (.cells #[.int .i64 q, .int .i64 s] 55)) := (G.refl wr).alloc _
      have hnx := nxt_gt (a := a) hs1
      unfold nextV at HNX
      rw [← nxt_at] at HNX
      generalize nxt a s = C at HST HNX hnx
      clear hx hq
      by_cases hb : C ≤ 1099511627776
      · rw [if_pos hb] at HNX HST
        by_cases hc : f ≤ C
        · have HST2 : Hid (SV = soonV a f (l.drop (k + 1))) := Lib.hid (by rw [HST.out, show min f C = f by omega])
          go_wp2_with fail
          refine (HNX.out _).mono ?_
          rintro e w2 ⟨rfl, hg2⟩
          have HGE := Lib.hid ((HG.out.trans hga).trans hg2)
          clear hga hg2 c0 c1
          go_wp2_with fail
          go_roundw
          case rel => exact ⟨k + 1, f, by omega, by go_num, by first | rfl | go_num, by omega, by omega, HST2, HGE⟩
          case measure => simp [intOf]; omega
        · have HST2 : Hid (SV = soonV a C (l.drop (k + 1))) := Lib.hid (by rw [HST.out, show min f C = C by omega])
          have hc2 : C < f := by omega
          go_wp2_with fail
          refine (HNX.out _).mono ?_
          rintro e w2 ⟨rfl, hg2⟩
          have HGE := Lib.hid ((HG.out.trans hga).trans hg2)
          clear hga hg2 c0 c1
          go_wp2_with fail
          go_roundw
          case rel => exact ⟨k + 1, C, by omega, by go_num, by first | rfl | go_num, by omega, by omega, HST2, HGE⟩
          case measure => simp [intOf]; omega
      · rw [if_neg hb] at HNX HST
        go_wp2_with fail
        refine (HNX.out _).mono ?_
        rintro e w2 ⟨rfl, hg2⟩
        have HGE := Lib.hid ((HG.out.trans hga).trans hg2)
        clear hga hg2 c0 c1
        go_wp2_with fail
        go_roundw
        case rel => exact ⟨k + 1, f, by omega, by go_num, by first | rfl | go_num, by omega, by omega, HST, HGE⟩
        case measure => simp [intOf]; omega
    · have hfe : f = SV := by rw [HC.out, List.drop_of_length_le (by have := HM.out; omega)]; rfl
      subst hfe
      have hgE := HG.out
      go_wp2_with fail
      go_ret2
      exact ⟨rfl, hgE⟩
end Go.Proofs.Ythhmmjpgefinmaa
