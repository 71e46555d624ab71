/- values: how they compare, whether they are right -/
import Derived.Test.YthhjioehkgbphaaRd
import Derived.Test.YthhjioehkgbphaaReg
import Derived.Lib.Small
import Derived.Lib.Bytealg
import Derived.Sort.QuietIn
import Derived.StillTailTactics
import Derived.Sort.Walk0
import Derived.Deep.RegionHeld3
import Derived.Deep.CutBlock
import Derived.BigQuiet
import Derived.Deep.AppendLies
namespace Go.Proofs.Ythhjioehkgbphaa
set_option linter.unusedVariables false
set_option linter.unusedSimpArgs false
open Go.RowKit Go.Shelf
attribute [local go_sem] Oper.semAt_some

theorem nanI_any (x : Int) (w : World) : Calls Try.prog 34 #[.int .i64 x] w fun e w' => e = .returned (.bool false) ∧ w = w' := by
  go_enter Try.func34, Try.ntmps34
  go_wp2
  go_ret
  exact ⟨by simp, rfl⟩
theorem nanK_any (x : Int) (w : World) : Calls Try.prog 33 #[.int .i64 x] w fun e w' => e = .returned (.bool false) ∧ w = w' := by
  go_enter Try.func33, Try.ntmps33
  go_wp2
  go_ret
  exact ⟨by simp, rfl⟩
theorem nanS_any (x : ByteArray) (w : World) : Calls Try.prog 35 #[.string x] w fun e w' => e = .returned (.bool false) ∧ w = w' := by
  go_enter Try.func35, Try.ntmps35
  go_wp2
  go_ret
  exact ⟨by simp, rfl⟩
theorem cmpI_any (x y : Int) (w : World) : Calls Try.prog 30 #[.int .i64 x, .int .i64 y] w fun e w' => e = .returned (.int .i64 (Lib.compareInt x y)) ∧ w = w' := by
  by_cases h1 : x < y
  · have H := Lib.hid (show Lib.compareInt x y = -1 by simp [Lib.compareInt, h1])
    go_enter Try.func30, Try.ntmps30
    go_wp2_with (go_at_call 34; refine (nanI_any _ _).mono ?_; rintro e w' ⟨rfl, rfl⟩)
    go_ret
    exact ⟨by rw [H.out]; rfl, rfl⟩
  · by_cases h2 : y < x
    · have H := Lib.hid (show Lib.compareInt x y = 1 by simp [Lib.compareInt, h1, h2])
      go_enter Try.func30, Try.ntmps30
      go_wp2_with (go_at_call 34; refine (nanI_any _ _).mono ?_; rintro e w' ⟨rfl, rfl⟩)
      go_ret
      exact ⟨by rw [H.out]; rfl, rfl⟩
    · have H := Lib.hid (show Lib.compareInt x y = 0 by simp [Lib.compareInt, h1, h2])
      go_enter Try.func30, Try.ntmps30
      go_wp2_with (go_at_call 34; refine (nanI_any _ _).mono ?_; rintro e w' ⟨rfl, rfl⟩)
      go_ret
      exact ⟨by rw [H.out]; rfl, rfl⟩
theorem cmpK_any (x y : Int) (w : World) : Calls Try.prog 29 #[.int .i64 x, .int .i64 y] w fun e w' => e = .returned (.int .i64 (Lib.compareInt x y)) ∧ w = w' := by
  by_cases h1 : x < y
  · have H := Lib.hid (show Lib.compareInt x y = -1 by simp [Lib.compareInt, h1])
    go_enter Try.func29, Try.ntmps29
    go_wp2_with (go_at_call 33; refine (nanK_any _ _).mono ?_; rintro e w' ⟨rfl, rfl⟩)
    go_ret
    exact ⟨by rw [H.out]; rfl, rfl⟩
  · by_cases h2 : y < x
    · have H := Lib.hid (show Lib.compareInt x y = 1 by simp [Lib.compareInt, h1, h2])
      go_enter Try.func29, Try.ntmps29
      go_wp2_with (go_at_call 33; refine (nanK_any _ _).mono ?_; rintro e w' ⟨rfl, rfl⟩)
      go_ret
      exact ⟨by rw [H.out]; rfl, rfl⟩
    · have H := Lib.hid (show Lib.compareInt x y = 0 by simp [Lib.compareInt, h1, h2])
      go_enter Try.func29, Try.ntmps29
      go_wp2_with (go_at_call 33; refine (nanK_any _ _).mono ?_; rintro e w' ⟨rfl, rfl⟩)
      go_ret
      exact ⟨by rw [H.out]; rfl, rfl⟩
theorem str_beq (s x : ByteArray) : (s.toList == x.toList) = decide (s = x) := by
  rw [Bool.eq_iff_iff]
  simp only [beq_iff_eq, decide_eq_true_eq, ByteArray.toList_eq]
  exact ⟨fun h => by cases s; cases x; congr 1; exact Array.ext' h, fun h => by rw [h]⟩
/-- how two texts stand -/
def cmpB (x y : ByteArray) : Int := if Op.bytesLess x.toList y.toList = true then -1 else if x = y then 0 else 1
theorem cmpS_any (x y : ByteArray) (w : World) : Calls Try.prog 31 #[.string x, .string y] w fun e w' => e = .returned (.int .i64 (cmpB x y)) ∧ w = w' := by
  cases h1 : Op.bytesLess x.toList y.toList
  · by_cases h2 : x = y
    · have H := Lib.hid (show cmpB x y = 0 by rw [cmpB, h1]; simp [h2])
      have h3 : (x.toList == y.toList) = true := by rw [str_beq]; simpa using h2
      clear h2
      go_enter Try.func31, Try.ntmps31
      go_wp2_with (go_at_call 35; refine (nanS_any _ _).mono ?_; rintro e w' ⟨rfl, rfl⟩)
      go_ret
      exact ⟨by rw [H.out]; rfl, rfl⟩
    · have H := Lib.hid (show cmpB x y = 1 by simp [cmpB, h1, h2])
      have h3 : (x.toList == y.toList) = false := by rw [str_beq]; simpa using h2
      clear h2
      go_enter Try.func31, Try.ntmps31
      go_wp2_with (go_at_call 35; refine (nanS_any _ _).mono ?_; rintro e w' ⟨rfl, rfl⟩)
      go_ret
      exact ⟨by rw [H.out]; rfl, rfl⟩
  · have H := Lib.hid (show cmpB x y = -1 by simp [cmpB, h1])
    go_enter Try.func31, Try.ntmps31
    go_wp2_with (go_at_call 35; refine (nanS_any _ _).mono ?_; rintro e w' ⟨rfl, rfl⟩)
    go_ret
    exact ⟨by rw [H.out]; rfl, rfl⟩
def ints (l : List Int) : List Value := l.map (Value.int .i64)
theorem ints_get {ss : List Int} {k : Nat} {s : Int} (h : ss[k]? = some s) : (ints ss)[k]? = some (.int .i64 s) := by simp [ints, h]
/-- the first that is not 0 -/
def orL : List Int → Int
  | [] => 0
  | x :: xs => if x = 0 then orL xs else x
theorem or_any (xs : List Int) (v : Value) (w : World) (hv : Rdr w 1 v xs.length (ints xs)) (hn : xs.length ≤ 1000000) : Calls Try.prog 28 #[v] w fun e w' => e = .returned (.int .i64 (orL xs)) ∧ w = w' := by
  obtain ⟨p, c, rfl, -, hpc⟩ := hv.at
  obtain ⟨n, hnn⟩ : ∃ n, n = xs.length := ⟨_, rfl⟩
  rw [← hnn] at hn hpc
  simp only [← hnn]
  have HN := Lib.hid hnn
  have HC := Lib.hid hpc
  clear hnn hpc hv
  go_enter Try.func28, Try.ntmps28
  go_wp2_with fail
  go_loop [8] (fun i => ∃ k : Nat, k ≤ n ∧ i = .int .i64 k ∧ Hid (orL xs = orL (xs.drop k))) (fun i => n - (intOf i).toNat)
  case atStart => exact ⟨0, by omega, rfl, (rfl : orL xs = orL (xs.drop 0))⟩
  case round =>
    obtain ⟨k, hk, rfl, HO⟩ := hrel
    by_cases hlt : k < n
    · obtain ⟨b, o, rfl, hcell⟩ := HC.out (by omega)
      obtain ⟨x, hx⟩ : ∃ x, xs[k]? = some x := ⟨xs[k]'(by have := HN.out; omega), List.getElem?_eq_getElem _⟩
      have c1 := hcell k _ (ints_get hx)
      have HD := Lib.hid (show xs.drop k = x :: xs.drop (k + 1) by
        obtain ⟨h1, h2⟩ := List.getElem?_eq_some_iff.1 hx
        rw [← h2]; exact List.drop_eq_getElem_cons h1)
      clear hcell hx
      by_cases h0 : x = 0
      · have H1 := Lib.hid (show orL xs = orL (xs.drop (k + 1)) by rw [HO.out, HD.out, orL, if_pos h0])
        subst h0
        go_wp2_with fail
        go_round
        case rel => exact ⟨k + 1, by omega, by go_num, H1⟩
        case measure => simp [intOf]; omega
      · have H1 := Lib.hid (show orL xs = x by rw [HO.out, HD.out, orL, if_neg h0])
        go_wp2_with fail
        go_ret
        exact ⟨by rw [H1.out]; rfl, rfl⟩
    · have H1 := Lib.hid (show orL xs = 0 by rw [HO.out, List.drop_of_length_le (by have := HN.out; omega)]; rfl)
      go_wp2_with fail
      go_ret
      exact ⟨by rw [H1.out]; rfl, rfl⟩
/-- a value: its kind, its number, its text -/
abbrev Val := Int × Int × ByteArray
def vv (x : Val) : Value := .agg #[.int .i64 x.1, .int .i64 x.2.1, .string x.2.2]
/-- how two values stand -/
def vcmp (a b : Val) : Int := orL [Lib.compareInt a.1 b.1, Lib.compareInt a.2.1 b.2.1, cmpB a.2.2 b.2.2]
theorem vcmp_any (a b : Val) (w : World) : Calls Try.prog 21 #[vv a, vv b] w fun e w' => e = .returned (.int .i64 (vcmp a b)) ∧ G w w' := by
  obtain ⟨ak, an, av⟩ := a
  obtain ⟨bk, bn, bs⟩ := b
  have H := Lib.hid (show vcmp (ak, an, av) (bk, bn, bs) = orL [Lib.compareInt ak bk, Lib.compareInt an bn, cmpB av bs] from rfl)
  unfold vv
  go_enter Try.func21, Try.ntmps21
  go_upto_region 1 with fail
  have hg0 : G w ((w.alloc (.cells #[.int .i64 ak, .int .i64 an, .string av] 46)).alloc (.cells #[.int .i64 bk, .int .i64 bn, .string bs] 46)) := ((G.refl w).alloc _).alloc _
  have hA := alloc_new w (.cells #[.int .i64 ak, .int .i64 an, .string av] 46)
  have hB := alloc_new (w.alloc (.cells #[.int .i64 ak, .int .i64 an, .string av] 46)) (.cells #[.int .i64 bk, .int .i64 bn, .string bs] 46)
  have hA' := (((G.refl (w.alloc (.cells #[.int .i64 ak, .int .i64 an, .string av] 46))).alloc (.cells #[.int .i64 bk, .int .i64 bn, .string bs] 46)).block (k := w.heap.size) (by simp)).trans hA
  simp only [World.size_alloc] at hB ⊢
  generalize ((w.alloc (.cells #[.int .i64 ak, .int .i64 an, .string av] 46)).alloc (.cells #[.int .i64 bk, .int .i64 bn, .string bs] 46)) = W at hg0 hA' hB ⊢
  have ca0 : W.cell? ⟨w.heap.size, 0, none⟩ = some (.int .i64 ak) := by simp [World.cell?, hA']
  have ca1 : W.cell? ⟨w.heap.size, 1, none⟩ = some (.int .i64 an) := by simp [World.cell?, hA']
  have ca2 : W.cell? ⟨w.heap.size, 2, none⟩ = some (.string av) := by simp [World.cell?, hA']
  have cb0 : W.cell? ⟨w.heap.size + 1, 0, none⟩ = some (.int .i64 bk) := by simp [World.cell?, hB]
  have cb1 : W.cell? ⟨w.heap.size + 1, 1, none⟩ = some (.int .i64 bn) := by simp [World.cell?, hB]
  have cb2 : W.cell? ⟨w.heap.size + 1, 2, none⟩ = some (.string bs) := by simp [World.cell?, hB]
  clear hA hA' hB
  refine region_hl (fun w' => G W w') 99 18 (by kernel_rfl) rfl ?_
  simp only [List.replicate_succ, List.replicate_zero]
  have hs0 : (fun w' => G W w') W.drew := (G.refl W).drew
  refine hl_take_np 0 (by kernel_rfl) (by kernel_rfl) rfl (by kernel_rfl) hs0 (v := ?_) ?_ ?_
  rotate_left
  · (rintro x hx; have k1 := hx.cell ca0; have k2 := hx.cell ca1; have k3 := hx.cell ca2; have k4 := hx.cell cb0; have k5 := hx.cell cb1; have k6 := hx.cell cb2; clear hx; go_simp; try rfl)
  simp only [Act.put, List.setIfInBounds_toArray, List.set_cons_zero, List.set_cons_succ]
  refine hl_take_np 1 (by kernel_rfl) (by kernel_rfl) rfl (by kernel_rfl) hs0 (v := ?_) ?_ ?_
  rotate_left
  · (rintro x hx; have k1 := hx.cell ca0; have k2 := hx.cell ca1; have k3 := hx.cell ca2; have k4 := hx.cell cb0; have k5 := hx.cell cb1; have k6 := hx.cell cb2; clear hx; go_simp; try rfl)
  simp only [Act.put, List.setIfInBounds_toArray, List.set_cons_zero, List.set_cons_succ]
  refine hl_take_np 2 (by kernel_rfl) (by kernel_rfl) rfl (by kernel_rfl) hs0 (v := ?_) ?_ ?_
  rotate_left
  · (rintro x hx; have k1 := hx.cell ca0; have k2 := hx.cell ca1; have k3 := hx.cell ca2; have k4 := hx.cell cb0; have k5 := hx.cell cb1; have k6 := hx.cell cb2; clear hx; go_simp; try rfl)
  simp only [Act.put, List.setIfInBounds_toArray, List.set_cons_zero, List.set_cons_succ]
  refine hl_take_np 3 (by kernel_rfl) (by kernel_rfl) rfl (by kernel_rfl) hs0 (v := ?_) ?_ ?_
  rotate_left
  · (rintro x hx; have k1 := hx.cell ca0; have k2 := hx.cell ca1; have k3 := hx.cell ca2; have k4 := hx.cell cb0; have k5 := hx.cell cb1; have k6 := hx.cell cb2; clear hx; go_simp; try rfl)
  simp only [Act.put, List.setIfInBounds_toArray, List.set_cons_zero, List.set_cons_succ]
  refine hl_take_np 5 (by kernel_rfl) (by kernel_rfl) rfl (by kernel_rfl) hs0 (v := ?_) ?_ ?_
  rotate_left
  · (rintro x hx; have k1 := hx.cell ca0; have k2 := hx.cell ca1; have k3 := hx.cell ca2; have k4 := hx.cell cb0; have k5 := hx.cell cb1; have k6 := hx.cell cb2; clear hx; go_simp; try rfl)
  simp only [Act.put, List.setIfInBounds_toArray, List.set_cons_zero, List.set_cons_succ]
  refine hl_take_np 6 (by kernel_rfl) (by kernel_rfl) rfl (by kernel_rfl) hs0 (v := ?_) ?_ ?_
  rotate_left
  · (rintro x hx; have k1 := hx.cell ca0; have k2 := hx.cell ca1; have k3 := hx.cell ca2; have k4 := hx.cell cb0; have k5 := hx.cell cb1; have k6 := hx.cell cb2; clear hx; go_simp; try rfl)
  simp only [Act.put, List.setIfInBounds_toArray, List.set_cons_zero, List.set_cons_succ]
  refine hl_take_np 7 (by kernel_rfl) (by kernel_rfl) rfl (by kernel_rfl) hs0 (v := ?_) ?_ ?_
  rotate_left
  · (rintro x hx; have k1 := hx.cell ca0; have k2 := hx.cell ca1; have k3 := hx.cell ca2; have k4 := hx.cell cb0; have k5 := hx.cell cb1; have k6 := hx.cell cb2; clear hx; go_simp; try rfl)
  simp only [Act.put, List.setIfInBounds_toArray, List.set_cons_zero, List.set_cons_succ]
  refine hl_take_np 8 (by kernel_rfl) (by kernel_rfl) rfl (by kernel_rfl) hs0 (v := ?_) ?_ ?_
  rotate_left
  · (rintro x hx; have k1 := hx.cell ca0; have k2 := hx.cell ca1; have k3 := hx.cell ca2; have k4 := hx.cell cb0; have k5 := hx.cell cb1; have k6 := hx.cell cb2; clear hx; go_simp; try rfl)
  simp only [Act.put, List.setIfInBounds_toArray, List.set_cons_zero, List.set_cons_succ]
  refine hl_take_np 10 (by kernel_rfl) (by kernel_rfl) rfl (by kernel_rfl) hs0 (v := ?_) ?_ ?_
  rotate_left
  · (rintro x hx; have k1 := hx.cell ca0; have k2 := hx.cell ca1; have k3 := hx.cell ca2; have k4 := hx.cell cb0; have k5 := hx.cell cb1; have k6 := hx.cell cb2; clear hx; go_simp; try rfl)
  simp only [Act.put, List.setIfInBounds_toArray, List.set_cons_zero, List.set_cons_succ]
  refine hl_take_np 11 (by kernel_rfl) (by kernel_rfl) rfl (by kernel_rfl) hs0 (v := ?_) ?_ ?_
  rotate_left
  · (rintro x hx; have k1 := hx.cell ca0; have k2 := hx.cell ca1; have k3 := hx.cell ca2; have k4 := hx.cell cb0; have k5 := hx.cell cb1; have k6 := hx.cell cb2; clear hx; go_simp; try rfl)
  simp only [Act.put, List.setIfInBounds_toArray, List.set_cons_zero, List.set_cons_succ]
  refine hl_take_np 12 (by kernel_rfl) (by kernel_rfl) rfl (by kernel_rfl) hs0 (v := ?_) ?_ ?_
  rotate_left
  · (rintro x hx; have k1 := hx.cell ca0; have k2 := hx.cell ca1; have k3 := hx.cell ca2; have k4 := hx.cell cb0; have k5 := hx.cell cb1; have k6 := hx.cell cb2; clear hx; go_simp; try rfl)
  simp only [Act.put, List.setIfInBounds_toArray, List.set_cons_zero, List.set_cons_succ]
  refine hl_take_np 13 (by kernel_rfl) (by kernel_rfl) rfl (by kernel_rfl) hs0 (v := ?_) ?_ ?_
  rotate_left
  · (rintro x hx; have k1 := hx.cell ca0; have k2 := hx.cell ca1; have k3 := hx.cell ca2; have k4 := hx.cell cb0; have k5 := hx.cell cb1; have k6 := hx.cell cb2; clear hx; go_simp; try rfl)
  simp only [Act.put, List.setIfInBounds_toArray, List.set_cons_zero, List.set_cons_succ]
  refine hl_stepW 4 (by kernel_rfl) rfl (by kernel_rfl) ?_
  intro K hK
  go_simp
  refine (cmpK_any ak bk _).mono ?_
  rintro e w' ⟨rfl, rfl⟩
  refine hK _ _ (fun _ => hs0) ?_
  clear hK
  simp only [Act.put, List.setIfInBounds_toArray, List.set_cons_zero, List.set_cons_succ]
  refine hl_stepW 9 (by kernel_rfl) rfl (by kernel_rfl) ?_
  intro K hK
  go_simp
  refine (cmpI_any an bn _).mono ?_
  rintro e w' ⟨rfl, rfl⟩
  refine hK _ _ (fun _ => hs0) ?_
  clear hK
  simp only [Act.put, List.setIfInBounds_toArray, List.set_cons_zero, List.set_cons_succ]
  refine hl_stepW 14 (by kernel_rfl) rfl (by kernel_rfl) ?_
  intro K hK
  go_simp
  refine (cmpS_any av bs _).mono ?_
  rintro e w' ⟨rfl, rfl⟩
  refine hK _ _ (fun _ => hs0) ?_
  clear hK
  simp only [Act.put, List.setIfInBounds_toArray, List.set_cons_zero, List.set_cons_succ]
  refine hl_step 15 (by kernel_rfl) rfl ?_
  go_wp2_with fail
  show _ ∧ _
  have hs1 : G W (W.alloc (.cells #[.int .i64 (Lib.compareInt ak bk), .int .i64 (Lib.compareInt an bn), .int .i64 (cmpB av bs)] 3)).drew := ((G.refl W).alloc _).drew
  refine ⟨(by first | exact hs1 | exact fun _ => hs1), ?_⟩
  refine hl_stepW 16 (by kernel_rfl) rfl (by kernel_rfl) ?_
  intro K hK
  go_simp
  refine (or_any [Lib.compareInt ak bk, Lib.compareInt an bn, cmpB av bs] _ _ ((rdr_alloc W (ints [Lib.compareInt ak bk, Lib.compareInt an bn, cmpB av bs]) 3 (0, 0) 1 3 3 rfl).g ((G.refl _).drew)) (by simp)).mono ?_
  rintro e w' ⟨rfl, rfl⟩
  refine hK _ _ (fun _ => hs1) ?_
  clear hK
  simp only [Act.put, List.setIfInBounds_toArray, List.set_cons_zero, List.set_cons_succ]
  refine hl_take_np 17 (by kernel_rfl) (by kernel_rfl) rfl (by kernel_rfl) hs1 (v := ?_) ?_ ?_
  rotate_left
  · (rintro x hx; have k1 := hx.cell ca0; have k2 := hx.cell ca1; have k3 := hx.cell ca2; have k4 := hx.cell cb0; have k5 := hx.cell cb1; have k6 := hx.cell cb2; clear hx; go_simp; try rfl)
  simp only [Act.put, List.setIfInBounds_toArray, List.set_cons_zero, List.set_cons_succ]
  refine hl_done (by kernel_rfl) ?_ _
  refine NoPanic.normal ?_
  go_wp2_with fail
  go_ret
  exact ⟨by rw [H.out]; rfl, hg0.trans hs1⟩
end Go.Proofs.Ythhjioehkgbphaa
