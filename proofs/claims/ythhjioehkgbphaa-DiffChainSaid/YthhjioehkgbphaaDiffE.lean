/- the same values, rows; numbers as rows -/
import Derived.Test.YthhjioehkgbphaaDiffD
namespace Go.Proofs.Ythhjioehkgbphaa
set_option linter.unusedVariables false
set_option linter.unusedSimpArgs false
open Go.RowKit Go.Shelf
attribute [local go_sem] Oper.semAt_some

theorem val_if {α : Sort _} (x y : Val) (A B : α) : (if x.1 = y.1 then if x.2.1 = y.2.1 then if x.2.2.toList = y.2.2.toList then A else B else B else B) = if x = y then A else B := by
  obtain ⟨a, b, c⟩ := x
  obtain ⟨d, e, f⟩ := y
  by_cases h : (a, b, c) = (d, e, f)
  · cases h; simp
  · rw [if_neg h]
    split
    · split
      · split
        · rename_i h1 h2 h3
          exfalso
          simp only at h1 h2 h3
          have := str_beq c f
          rw [h3] at this
          simp at this
          exact h (by rw [h1, h2, this])
        · rfl
      · rfl
    · rfl
theorem take_step {xs ys : List Val} {k : Nat} {x : Val} (h : xs.take k = ys.take k) (hx : xs[k]? = some x) (hy : ys[k]? = some x) : xs.take (k + 1) = ys.take (k + 1) := by
  rw [List.take_add_one, List.take_add_one, h, hx, hy]
set_option maxHeartbeats 400000 in
theorem sameV_any (xs ys : List Val) (va vb : Value) (w : World) (ha : RdrV w va xs) (hb : RdrV w vb ys) (hx : xs.length ≤ 1099511627776) (hy : ys.length ≤ 1099511627776) :
    Calls Try.prog 9 #[va, vb] w fun e w' => e = .returned (.bool (decide (xs = ys))) ∧ G w w' := by
  obtain ⟨p, c, rfl⟩ := ha.shape
  obtain ⟨q, d, rfl⟩ := hb.shape
  by_cases hl : xs.length = ys.length
  · obtain ⟨n, hnx⟩ : ∃ n, n = xs.length := ⟨_, rfl⟩
    have hny : n = ys.length := by omega
    rw [← hnx] at hx
    simp only [← hl, ← hnx]
    have HA := Lib.hid ha
    have HB := Lib.hid hb
    have HNX := Lib.hid hnx
    have HNY := Lib.hid hny
    clear ha hb hnx hny hl hy
    go_enter Try.func9, Try.ntmps9
    go_wp2_with fail
    go_loopw [5] (fun i wr => ∃ k : Nat, k ≤ n ∧ i = .int .i64 k ∧ Hid (xs.take k = ys.take k) ∧ G w wr) (fun i _ => n - (intOf i).toNat)
    case atStart => exact ⟨0, by omega, rfl, (rfl : xs.take 0 = ys.take 0), G.refl w⟩
    case round =>
      obtain ⟨k, hk, rfl, HE, hg⟩ := hrel
      by_cases hlt : k < n
      · obtain ⟨b, o, x, rfl, hxx, d1, d2, d3⟩ := HA.out.cells (k := k) (by have := HNX.out; omega)
        obtain ⟨b', o', y, rfl, hyy, d4, d5, d6⟩ := HB.out.cells (k := k) (by have := HNY.out; omega)
        have c1 := hg.cell d1
        have c2 := hg.cell d2
        have c3 := hg.cell d3
        have c4 := hg.cell d4
        have c5 := hg.cell d5
        have c6 := hg.cell d6
        have HX := Lib.hid hxx
        have HY := Lib.hid hyy
        clear d1 d2 d3 d4 d5 d6 hxx hyy
        by_cases hxy : x = y
        · subst hxy
          go_upto_region 6 with fail
          refine region_hl (fun w' => G wr w') 99 9 (by kernel_rfl) rfl ?_
          simp only [List.replicate_succ, List.replicate_zero]
          have hs0 : (fun w' => G wr w') wr.drew := (G.refl wr).drew
          refine hl_take_np 0 (by kernel_rfl) (by kernel_rfl) rfl (by kernel_rfl) hs0 (v := ?_) ?_ ?_
          rotate_left
          · (rintro x hx; have k1 := hx.cell c1; have k2 := hx.cell c2; have k3 := hx.cell c3; have k4 := hx.cell c4; have k5 := hx.cell c5; have k6 := hx.cell c6; clear hx; go_simp; try rfl)
          simp only [Act.put, List.setIfInBounds_toArray, List.set_cons_zero, List.set_cons_succ]
          refine hl_take_np 1 (by kernel_rfl) (by kernel_rfl) rfl (by kernel_rfl) hs0 (v := ?_) ?_ ?_
          rotate_left
          · (rintro x hx; have k1 := hx.cell c1; have k2 := hx.cell c2; have k3 := hx.cell c3; have k4 := hx.cell c4; have k5 := hx.cell c5; have k6 := hx.cell c6; clear hx; go_simp; try rfl)
          simp only [Act.put, List.setIfInBounds_toArray, List.set_cons_zero, List.set_cons_succ]
          refine hl_take_np 2 (by kernel_rfl) (by kernel_rfl) rfl (by kernel_rfl) hs0 (v := ?_) ?_ ?_
          rotate_left
          · (rintro x hx; have k1 := hx.cell c1; have k2 := hx.cell c2; have k3 := hx.cell c3; have k4 := hx.cell c4; have k5 := hx.cell c5; have k6 := hx.cell c6; clear hx; go_simp; try rfl)
          simp only [Act.put, List.setIfInBounds_toArray, List.set_cons_zero, List.set_cons_succ]
          refine hl_take_np 3 (by kernel_rfl) (by kernel_rfl) rfl (by kernel_rfl) hs0 (v := ?_) ?_ ?_
          rotate_left
          · (rintro x hx; have k1 := hx.cell c1; have k2 := hx.cell c2; have k3 := hx.cell c3; have k4 := hx.cell c4; have k5 := hx.cell c5; have k6 := hx.cell c6; clear hx; go_simp; try rfl)
          simp only [Act.put, List.setIfInBounds_toArray, List.set_cons_zero, List.set_cons_succ]
          refine hl_take_np 4 (by kernel_rfl) (by kernel_rfl) rfl (by kernel_rfl) hs0 (v := ?_) ?_ ?_
          rotate_left
          · (rintro x hx; have k1 := hx.cell c1; have k2 := hx.cell c2; have k3 := hx.cell c3; have k4 := hx.cell c4; have k5 := hx.cell c5; have k6 := hx.cell c6; clear hx; go_simp; try rfl)
          simp only [Act.put, List.setIfInBounds_toArray, List.set_cons_zero, List.set_cons_succ]
          refine hl_take_np 5 (by kernel_rfl) (by kernel_rfl) rfl (by kernel_rfl) hs0 (v := ?_) ?_ ?_
          rotate_left
          · (rintro x hx; have k1 := hx.cell c1; have k2 := hx.cell c2; have k3 := hx.cell c3; have k4 := hx.cell c4; have k5 := hx.cell c5; have k6 := hx.cell c6; clear hx; go_simp; try rfl)
          simp only [Act.put, List.setIfInBounds_toArray, List.set_cons_zero, List.set_cons_succ]
          refine hl_take_np 6 (by kernel_rfl) (by kernel_rfl) rfl (by kernel_rfl) hs0 (v := ?_) ?_ ?_
          rotate_left
          · (rintro x hx; have k1 := hx.cell c1; have k2 := hx.cell c2; have k3 := hx.cell c3; have k4 := hx.cell c4; have k5 := hx.cell c5; have k6 := hx.cell c6; clear hx; go_simp; try rfl)
          simp only [Act.put, List.setIfInBounds_toArray, List.set_cons_zero, List.set_cons_succ]
          refine hl_take_np 7 (by kernel_rfl) (by kernel_rfl) rfl (by kernel_rfl) hs0 (v := ?_) ?_ ?_
          rotate_left
          · (rintro x hx; have k1 := hx.cell c1; have k2 := hx.cell c2; have k3 := hx.cell c3; have k4 := hx.cell c4; have k5 := hx.cell c5; have k6 := hx.cell c6; clear hx; go_simp; try rfl)
          simp only [Act.put, List.setIfInBounds_toArray, List.set_cons_zero, List.set_cons_succ]
          refine hl_take_np 8 (by kernel_rfl) (by kernel_rfl) rfl (by kernel_rfl) hs0 (v := ?_) ?_ ?_
          rotate_left
          · (rintro x hx; have k1 := hx.cell c1; have k2 := hx.cell c2; have k3 := hx.cell c3; have k4 := hx.cell c4; have k5 := hx.cell c5; have k6 := hx.cell c6; clear hx; go_simp; try rfl)
          simp only [Act.put, List.setIfInBounds_toArray, List.set_cons_zero, List.set_cons_succ]
          refine hl_done (by kernel_rfl) ?_ _
          refine NoPanic.normal ?_
          have hg2 := hg.trans hs0
          have HE2 := Lib.hid (take_step HE.out HX.out HY.out)
          clear hs0
          go_wp2_with fail
          go_roundw
          case rel => exact ⟨k + 1, by omega, by go_num, HE2, hg2⟩
          case measure => simp [intOf]; omega
        · have HNE := Lib.hid hxy
          clear hxy
          go_upto_region 6 with fail
          refine region_hl (fun w' => G wr w') 99 9 (by kernel_rfl) rfl ?_
          simp only [List.replicate_succ, List.replicate_zero]
          have hs0 : (fun w' => G wr w') wr.drew := (G.refl wr).drew
          refine hl_take_np 0 (by kernel_rfl) (by kernel_rfl) rfl (by kernel_rfl) hs0 (v := ?_) ?_ ?_
          rotate_left
          · (rintro x hx; have k1 := hx.cell c1; have k2 := hx.cell c2; have k3 := hx.cell c3; have k4 := hx.cell c4; have k5 := hx.cell c5; have k6 := hx.cell c6; clear hx; go_simp; try rfl)
          simp only [Act.put, List.setIfInBounds_toArray, List.set_cons_zero, List.set_cons_succ]
          refine hl_take_np 1 (by kernel_rfl) (by kernel_rfl) rfl (by kernel_rfl) hs0 (v := ?_) ?_ ?_
          rotate_left
          · (rintro x hx; have k1 := hx.cell c1; have k2 := hx.cell c2; have k3 := hx.cell c3; have k4 := hx.cell c4; have k5 := hx.cell c5; have k6 := hx.cell c6; clear hx; go_simp; try rfl)
          simp only [Act.put, List.setIfInBounds_toArray, List.set_cons_zero, List.set_cons_succ]
          refine hl_take_np 2 (by kernel_rfl) (by kernel_rfl) rfl (by kernel_rfl) hs0 (v := ?_) ?_ ?_
          rotate_left
          · (rintro x hx; have k1 := hx.cell c1; have k2 := hx.cell c2; have k3 := hx.cell c3; have k4 := hx.cell c4; have k5 := hx.cell c5; have k6 := hx.cell c6; clear hx; go_simp; try rfl)
          simp only [Act.put, List.setIfInBounds_toArray, List.set_cons_zero, List.set_cons_succ]
          refine hl_take_np 3 (by kernel_rfl) (by kernel_rfl) rfl (by kernel_rfl) hs0 (v := ?_) ?_ ?_
          rotate_left
          · (rintro x hx; have k1 := hx.cell c1; have k2 := hx.cell c2; have k3 := hx.cell c3; have k4 := hx.cell c4; have k5 := hx.cell c5; have k6 := hx.cell c6; clear hx; go_simp; try rfl)
          simp only [Act.put, List.setIfInBounds_toArray, List.set_cons_zero, List.set_cons_succ]
          refine hl_take_np 4 (by kernel_rfl) (by kernel_rfl) rfl (by kernel_rfl) hs0 (v := ?_) ?_ ?_
          rotate_left
          · (rintro x hx; have k1 := hx.cell c1; have k2 := hx.cell c2; have k3 := hx.cell c3; have k4 := hx.cell c4; have k5 := hx.cell c5; have k6 := hx.cell c6; clear hx; go_simp; try rfl)
          simp only [Act.put, List.setIfInBounds_toArray, List.set_cons_zero, List.set_cons_succ]
          refine hl_take_np 5 (by kernel_rfl) (by kernel_rfl) rfl (by kernel_rfl) hs0 (v := ?_) ?_ ?_
          rotate_left
          · (rintro x hx; have k1 := hx.cell c1; have k2 := hx.cell c2; have k3 := hx.cell c3; have k4 := hx.cell c4; have k5 := hx.cell c5; have k6 := hx.cell c6; clear hx; go_simp; try rfl)
          simp only [Act.put, List.setIfInBounds_toArray, List.set_cons_zero, List.set_cons_succ]
          refine hl_take_np 6 (by kernel_rfl) (by kernel_rfl) rfl (by kernel_rfl) hs0 (v := ?_) ?_ ?_
          rotate_left
          · (rintro x hx; have k1 := hx.cell c1; have k2 := hx.cell c2; have k3 := hx.cell c3; have k4 := hx.cell c4; have k5 := hx.cell c5; have k6 := hx.cell c6; clear hx; go_simp; try rfl)
          simp only [Act.put, List.setIfInBounds_toArray, List.set_cons_zero, List.set_cons_succ]
          refine hl_take_np 7 (by kernel_rfl) (by kernel_rfl) rfl (by kernel_rfl) hs0 (v := ?_) ?_ ?_
          rotate_left
          · (rintro x hx; have k1 := hx.cell c1; have k2 := hx.cell c2; have k3 := hx.cell c3; have k4 := hx.cell c4; have k5 := hx.cell c5; have k6 := hx.cell c6; clear hx; go_simp; try rfl)
          simp only [Act.put, List.setIfInBounds_toArray, List.set_cons_zero, List.set_cons_succ]
          refine hl_take_np 8 (by kernel_rfl) (by kernel_rfl) rfl (by kernel_rfl) hs0 (v := ?_) ?_ ?_
          rotate_left
          · (rintro x hx; have k1 := hx.cell c1; have k2 := hx.cell c2; have k3 := hx.cell c3; have k4 := hx.cell c4; have k5 := hx.cell c5; have k6 := hx.cell c6; clear hx; go_simp; rw [val_if, if_neg HNE.out])
          simp only [Act.put, List.setIfInBounds_toArray, List.set_cons_zero, List.set_cons_succ]
          refine hl_done (by kernel_rfl) ?_ _
          refine NoPanic.normal ?_
          have hg2 := hg.trans hs0
          have HF := Lib.hid (show decide (xs = ys) = false by
            simp; intro h
            have h1 := HX.out
            rw [h, HY.out] at h1
            exact HNE.out (Option.some.inj h1).symm)
          clear hs0
          go_wp2_with fail
          go_ret
          exact ⟨by rw [HF.out]; rfl, hg2⟩
      · have HT := Lib.hid (show decide (xs = ys) = true by
          have h := HE.out
          rw [List.take_of_length_le (by have := HNX.out; omega), List.take_of_length_le (by have := HNY.out; omega)] at h
          simpa using h)
        go_wp2_with fail
        go_ret
        exact ⟨by rw [HT.out]; rfl, hg⟩
  · have HF := Lib.hid (show decide (xs = ys) = false by simp; intro h; exact hl (by rw [h]))
    have hne : ((xs.length : Int) == (ys.length : Int)) = false := by simp; omega
    clear ha hb
    go_enter Try.func9, Try.ntmps9
    go_wp2_with fail
    go_ret
    exact ⟨by rw [HF.out]; rfl, G.refl w⟩
end Go.Proofs.Ythhjioehkgbphaa
