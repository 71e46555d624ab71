/- the same rows; numbers as rows -/
import Derived.Test.YthhjioehkgbphaaDiffE
namespace Go.Proofs.Ythhjioehkgbphaa
set_option linter.unusedVariables false
set_option linter.unusedSimpArgs false
open Go.RowKit Go.Shelf
attribute [local go_sem] Oper.semAt_some

theorem rows_step {xs ys : List (List Val)} {k : Nat} {x : List Val} (h : xs.take k = ys.take k) (hx : xs[k]? = some x) (hy : ys[k]? = some x) : xs.take (k + 1) = ys.take (k + 1) := by
  rw [List.take_add_one, List.take_add_one, h, hx, hy]
set_option maxHeartbeats 400000 in
theorem sameVR_any (xs ys : List (List Val)) (va vb : Value) (w : World) (ha : RdrRV w va xs) (hb : RdrRV w vb ys) (hx : xs.length ≤ 1099511627776) (hlx : ∀ l ∈ xs, l.length ≤ 1099511627776) (hly : ∀ l ∈ ys, l.length ≤ 1099511627776) :
    Calls Try.prog 13 #[va, vb] w fun e w' => e = .returned (.bool (decide (xs = ys))) ∧ G w w' := by
  obtain ⟨p, c, rfl⟩ := ha.shape
  obtain ⟨q, d, rfl⟩ := hb.shape
  by_cases hl : xs.length = ys.length
  · obtain ⟨n, hnx⟩ : ∃ n, n = xs.length := ⟨_, rfl⟩
    have hny : n = ys.length := by omega
    rw [← hnx] at hx
    simp only [← hl, ← hnx]
    have HA := Lib.hid ha
    have HB := Lib.hid hb
    have HNX := Lib.hid hnx
    have HNY := Lib.hid hny
    have HLX := Lib.hid hlx
    have HLY := Lib.hid hly
    clear ha hb hnx hny hl hlx hly
    go_enter Try.func13, Try.ntmps13
    go_wp2_with fail
    go_loopw [5] (fun i wr => ∃ k : Nat, k ≤ n ∧ i = .int .i64 k ∧ Hid (xs.take k = ys.take k) ∧ G w wr) (fun i _ => n - (intOf i).toNat)
    case atStart => exact ⟨0, by omega, rfl, (rfl : xs.take 0 = ys.take 0), G.refl w⟩
    case round =>
      obtain ⟨k, hk, rfl, HE, hg⟩ := hrel
      by_cases hlt : k < n
      · obtain ⟨b, o, x, xq, xd, rfl, hxx, d1, hrx⟩ := HA.out.row (i := k) (by have := HNX.out; omega)
        obtain ⟨b', o', y, yq, yd, rfl, hyy, d4, hry⟩ := HB.out.row (i := k) (by have := HNY.out; omega)
        have c1 := hg.cell d1
        have c2 := hg.cell d4
        have HX := Lib.hid hxx
        have HY := Lib.hid hyy
        have HRX := Lib.hid (hrx.g hg)
        have HRY := Lib.hid (hry.g hg)
        clear d1 d4 hxx hyy hrx hry
        go_upto_region 6 with fail
        refine region_hl (fun w' => G wr w') 99 10 (by kernel_rfl) rfl ?_
        simp only [List.replicate_succ, List.replicate_zero]
        have hs0 : (fun w' => G wr w') wr.drew := (G.refl wr).drew
        refine hl_take_np 0 (by kernel_rfl) (by kernel_rfl) rfl (by kernel_rfl) hs0 (v := ?_) ?_ ?_
        rotate_left
        · (rintro x hx; have k1 := hx.cell c1; have k2 := hx.cell c2; clear hx; go_simp; try rfl)
        simp only [Act.put, List.setIfInBounds_toArray, List.set_cons_zero, List.set_cons_succ]
        refine hl_take_np 1 (by kernel_rfl) (by kernel_rfl) rfl (by kernel_rfl) hs0 (v := ?_) ?_ ?_
        rotate_left
        · (rintro x hx; have k1 := hx.cell c1; have k2 := hx.cell c2; clear hx; go_simp; try rfl)
        simp only [Act.put, List.setIfInBounds_toArray, List.set_cons_zero, List.set_cons_succ]
        refine hl_take_np 2 (by kernel_rfl) (by kernel_rfl) rfl (by kernel_rfl) hs0 (v := ?_) ?_ ?_
        rotate_left
        · (rintro x hx; have k1 := hx.cell c1; have k2 := hx.cell c2; clear hx; go_simp; try rfl)
        simp only [Act.put, List.setIfInBounds_toArray, List.set_cons_zero, List.set_cons_succ]
        refine hl_take_np 3 (by kernel_rfl) (by kernel_rfl) rfl (by kernel_rfl) hs0 (v := ?_) ?_ ?_
        rotate_left
        · (rintro x hx; have k1 := hx.cell c1; have k2 := hx.cell c2; clear hx; go_simp; try rfl)
        simp only [Act.put, List.setIfInBounds_toArray, List.set_cons_zero, List.set_cons_succ]
        refine hl_take_np 4 (by kernel_rfl) (by kernel_rfl) rfl (by kernel_rfl) hs0 (v := ?_) ?_ ?_
        rotate_left
        · (rintro x hx; have k1 := hx.cell c1; have k2 := hx.cell c2; clear hx; go_simp; try rfl)
        simp only [Act.put, List.setIfInBounds_toArray, List.set_cons_zero, List.set_cons_succ]
        refine hl_take_np 5 (by kernel_rfl) (by kernel_rfl) rfl (by kernel_rfl) hs0 (v := ?_) ?_ ?_
        rotate_left
        · (rintro x hx; have k1 := hx.cell c1; have k2 := hx.cell c2; clear hx; go_simp; try rfl)
        simp only [Act.put, List.setIfInBounds_toArray, List.set_cons_zero, List.set_cons_succ]
        refine hl_take_np 6 (by kernel_rfl) (by kernel_rfl) rfl (by kernel_rfl) hs0 (v := ?_) ?_ ?_
        rotate_left
        · (rintro x hx; have k1 := hx.cell c1; have k2 := hx.cell c2; clear hx; go_simp; try rfl)
        simp only [Act.put, List.setIfInBounds_toArray, List.set_cons_zero, List.set_cons_succ]
        refine hl_take_np 7 (by kernel_rfl) (by kernel_rfl) rfl (by kernel_rfl) hs0 (v := ?_) ?_ ?_
        rotate_left
        · (rintro x hx; have k1 := hx.cell c1; have k2 := hx.cell c2; clear hx; go_simp; try rfl)
        simp only [Act.put, List.setIfInBounds_toArray, List.set_cons_zero, List.set_cons_succ]
        refine hl_stepW 8 (by kernel_rfl) rfl (by kernel_rfl) ?_
        intro K hK
        go_simp
        refine (sameV_any x y _ _ _ (HRX.out.g hs0) (HRY.out.g hs0) (HLX.out x (List.mem_of_getElem? HX.out)) (HLY.out y (List.mem_of_getElem? HY.out))).mono ?_
        rintro e w2 ⟨rfl, hg2⟩
        have hs1 : G wr w2 := hs0.trans hg2
        refine hK _ _ (fun _ => hs1) ?_
        clear hK
        simp only [Act.put, List.setIfInBounds_toArray, List.set_cons_zero, List.set_cons_succ]
        by_cases hxy : x = y
        · rw [decide_eq_true hxy]
          have HE2 := Lib.hid (rows_step HE.out HX.out (by rw [hxy]; exact HY.out))
          clear hxy
          refine hl_take_np 9 (by kernel_rfl) (by kernel_rfl) rfl (by kernel_rfl) hs1 (v := ?_) ?_ ?_
          rotate_left
          · (rintro x hx; have k1 := hx.cell c1; have k2 := hx.cell c2; clear hx; go_simp; try rfl)
          simp only [Act.put, List.setIfInBounds_toArray, List.set_cons_zero, List.set_cons_succ]
          refine hl_done (by kernel_rfl) ?_ _
          refine NoPanic.normal ?_
          have hg3 := hg.trans hs1
          clear hs0 hs1
          go_wp2_with fail
          go_roundw
          case rel => exact ⟨k + 1, by omega, by go_num, HE2, hg3⟩
          case measure => simp [intOf]; omega
        · rw [decide_eq_false hxy]
          have HF := Lib.hid (show decide (xs = ys) = false by
            simp; intro h
            have h1 := HX.out
            rw [h, HY.out] at h1
            exact hxy (Option.some.inj h1).symm)
          clear hxy
          refine hl_take_np 9 (by kernel_rfl) (by kernel_rfl) rfl (by kernel_rfl) hs1 (v := ?_) ?_ ?_
          rotate_left
          · (rintro x hx; have k1 := hx.cell c1; have k2 := hx.cell c2; clear hx; go_simp; try rfl)
          simp only [Act.put, List.setIfInBounds_toArray, List.set_cons_zero, List.set_cons_succ]
          refine hl_done (by kernel_rfl) ?_ _
          refine NoPanic.normal ?_
          have hg3 := hg.trans hs1
          clear hs0 hs1
          go_wp2_with fail
          go_ret
          exact ⟨by rw [HF.out]; rfl, hg3⟩
      · have HT := Lib.hid (show decide (xs = ys) = true by
          have h := HE.out
          rw [List.take_of_length_le (by have := HNX.out; omega), List.take_of_length_le (by have := HNY.out; omega)] at h
          simpa using h)
        go_wp2_with fail
        go_ret
        exact ⟨by rw [HT.out]; rfl, hg⟩
  · have HF := Lib.hid (show decide (xs = ys) = false by simp; intro h; exact hl (by rw [h]))
    have hne : ((xs.length : Int) == (ys.length : Int)) = false := by simp; omega
    clear ha hb hlx hly
    go_enter Try.func13, Try.ntmps13
    go_wp2_with fail
    go_ret
    exact ⟨by rw [HF.out]; rfl, G.refl w⟩
end Go.Proofs.Ythhjioehkgbphaa
