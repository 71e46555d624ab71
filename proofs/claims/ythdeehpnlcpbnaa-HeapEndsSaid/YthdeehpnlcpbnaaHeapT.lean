/- the law's own functions: rows are the same -/
import Derived.Test.YthdeehpnlcpbnaaHeapS
namespace Go.Proofs.Ythdeehpnlcpbnaa
set_option linter.unusedVariables false
set_option linter.unusedSimpArgs false
open Go.RowKit Go.Shelf
attribute [local go_sem] Oper.semAt_some

theorem same_any (xs : List Item) (u v : Value) (w : World) (hu : Rdr w 2 u xs.length (icells xs)) (hv : Rdr w 2 v xs.length (icells xs)) (hn : xs.length ≤ 1000000) :
    Calls Try.prog 16 #[u, v] w fun e w' => e = .returned (.bool true) ∧ G w w' := by
  obtain ⟨-, up, uc, rfl, -⟩ := id hu
  obtain ⟨-, vp, vc, rfl, -⟩ := id hv
  obtain ⟨n, hnn⟩ : ∃ n, n = xs.length := ⟨_, rfl⟩
  rw [← hnn] at hn hu hv ⊢
  have HN := Lib.hid hnn
  have HU := Lib.hid hu
  have HV := Lib.hid hv
  clear hnn hu hv
  go_enter Try.func16, Try.ntmps16
  go_wp2_with fail
  go_loopw [5] (fun i wr => ∃ (k : Nat), k ≤ n ∧ i = .int .i64 k ∧ G w wr) (fun i _ => n - (intOf i).toNat)
  case atStart => exact ⟨0, by omega, rfl, G.refl _⟩
  case round =>
    obtain ⟨k, hk, rfl, hg⟩ := hrel
    by_cases hlt : k < n
    · obtain ⟨x, hx⟩ : ∃ x, xs[k]? = some x := ⟨xs[k]'(by have := HN.out; omega), List.getElem?_eq_getElem _⟩
      obtain ⟨b, o, rfl, cx0, cx1⟩ := rdr_item HU.out hx
      obtain ⟨b', o', rfl, cy0, cy1⟩ := rdr_item HV.out hx
      have cx0 := hg.cell cx0
      have cx1 := hg.cell cx1
      have cy0 := hg.cell cy0
      have cy1 := hg.cell cy1
      obtain ⟨x0, x1⟩ := x
      simp only at cx0 cx1 cy0 cy1
      have hkn : (k : Int) < (n : Int) := by omega
      have hk0 : (0 : Int) ≤ (k : Int) := by omega
      clear hx
      go_upto_region 4 with fail
      refine region_hl (fun w' => G wr w') 99 24 (by kernel_rfl) rfl ?_
      simp only [List.replicate_succ, List.replicate_zero]
      have hs0 : (fun w' => G wr w') wr.drew := (G.refl wr).drew
      refine hl_take_np 0 (by kernel_rfl) (by kernel_rfl) rfl (by kernel_rfl) hs0 (v := ?_) ?_ ?_
      rotate_left
      · (rintro x hx; have k0 := hx.cell cx0; have k1 := hx.cell cx1; have k2 := hx.cell cy0; have k3 := hx.cell cy1; clear hx; go_simp; try rfl)
      simp only [Act.put, List.setIfInBounds_toArray, List.set_cons_zero, List.set_cons_succ]
      refine hl_take_np 1 (by kernel_rfl) (by kernel_rfl) rfl (by kernel_rfl) hs0 (v := ?_) ?_ ?_
      rotate_left
      · (rintro x hx; have k0 := hx.cell cx0; have k1 := hx.cell cx1; have k2 := hx.cell cy0; have k3 := hx.cell cy1; clear hx; go_simp; try rfl)
      simp only [Act.put, List.setIfInBounds_toArray, List.set_cons_zero, List.set_cons_succ]
      refine hl_take_np 2 (by kernel_rfl) (by kernel_rfl) rfl (by kernel_rfl) hs0 (v := ?_) ?_ ?_
      rotate_left
      · (rintro x hx; have k0 := hx.cell cx0; have k1 := hx.cell cx1; have k2 := hx.cell cy0; have k3 := hx.cell cy1; clear hx; go_simp; try rfl)
      simp only [Act.put, List.setIfInBounds_toArray, List.set_cons_zero, List.set_cons_succ]
      refine hl_take_np 3 (by kernel_rfl) (by kernel_rfl) rfl (by kernel_rfl) hs0 (v := ?_) ?_ ?_
      rotate_left
      · (rintro x hx; have k0 := hx.cell cx0; have k1 := hx.cell cx1; have k2 := hx.cell cy0; have k3 := hx.cell cy1; clear hx; go_simp; try rfl)
      simp only [Act.put, List.setIfInBounds_toArray, List.set_cons_zero, List.set_cons_succ]
      refine hl_take_np 4 (by kernel_rfl) (by kernel_rfl) rfl (by kernel_rfl) hs0 (v := ?_) ?_ ?_
      rotate_left
      · (rintro x hx; have k0 := hx.cell cx0; have k1 := hx.cell cx1; have k2 := hx.cell cy0; have k3 := hx.cell cy1; clear hx; go_simp; try rfl)
      simp only [Act.put, List.setIfInBounds_toArray, List.set_cons_zero, List.set_cons_succ]
      refine hl_take_np 5 (by kernel_rfl) (by kernel_rfl) rfl (by kernel_rfl) hs0 (v := ?_) ?_ ?_
      rotate_left
      · (rintro x hx; have k0 := hx.cell cx0; have k1 := hx.cell cx1; have k2 := hx.cell cy0; have k3 := hx.cell cy1; clear hx; go_simp; try rfl)
      simp only [Act.put, List.setIfInBounds_toArray, List.set_cons_zero, List.set_cons_succ]
      refine hl_take_np 6 (by kernel_rfl) (by kernel_rfl) rfl (by kernel_rfl) hs0 (v := ?_) ?_ ?_
      rotate_left
      · (rintro x hx; have k0 := hx.cell cx0; have k1 := hx.cell cx1; have k2 := hx.cell cy0; have k3 := hx.cell cy1; clear hx; go_simp; try rfl)
      simp only [Act.put, List.setIfInBounds_toArray, List.set_cons_zero, List.set_cons_succ]
      refine hl_take_np 7 (by kernel_rfl) (by kernel_rfl) rfl (by kernel_rfl) hs0 (v := ?_) ?_ ?_
      rotate_left
      · (rintro x hx; have k0 := hx.cell cx0; have k1 := hx.cell cx1; have k2 := hx.cell cy0; have k3 := hx.cell cy1; clear hx; go_simp; try rfl)
      simp only [Act.put, List.setIfInBounds_toArray, List.set_cons_zero, List.set_cons_succ]
      refine hl_take_np 8 (by kernel_rfl) (by kernel_rfl) rfl (by kernel_rfl) hs0 (v := ?_) ?_ ?_
      rotate_left
      · (rintro x hx; have k0 := hx.cell cx0; have k1 := hx.cell cx1; have k2 := hx.cell cy0; have k3 := hx.cell cy1; clear hx; go_simp; try rfl)
      simp only [Act.put, List.setIfInBounds_toArray, List.set_cons_zero, List.set_cons_succ]
      refine hl_take_np 9 (by kernel_rfl) (by kernel_rfl) rfl (by kernel_rfl) hs0 (v := ?_) ?_ ?_
      rotate_left
      · (rintro x hx; have k0 := hx.cell cx0; have k1 := hx.cell cx1; have k2 := hx.cell cy0; have k3 := hx.cell cy1; clear hx; go_simp; try rfl)
      simp only [Act.put, List.setIfInBounds_toArray, List.set_cons_zero, List.set_cons_succ]
      refine hl_take_np 10 (by kernel_rfl) (by kernel_rfl) rfl (by kernel_rfl) hs0 (v := ?_) ?_ ?_
      rotate_left
      · (rintro x hx; have k0 := hx.cell cx0; have k1 := hx.cell cx1; have k2 := hx.cell cy0; have k3 := hx.cell cy1; clear hx; go_simp; try rfl)
      simp only [Act.put, List.setIfInBounds_toArray, List.set_cons_zero, List.set_cons_succ]
      refine hl_take_np 11 (by kernel_rfl) (by kernel_rfl) rfl (by kernel_rfl) hs0 (v := ?_) ?_ ?_
      rotate_left
      · (rintro x hx; have k0 := hx.cell cx0; have k1 := hx.cell cx1; have k2 := hx.cell cy0; have k3 := hx.cell cy1; clear hx; go_simp; try rfl)
      simp only [Act.put, List.setIfInBounds_toArray, List.set_cons_zero, List.set_cons_succ]
      refine hl_take_np 12 (by kernel_rfl) (by kernel_rfl) rfl (by kernel_rfl) hs0 (v := ?_) ?_ ?_
      rotate_left
      · (rintro x hx; have k0 := hx.cell cx0; have k1 := hx.cell cx1; have k2 := hx.cell cy0; have k3 := hx.cell cy1; clear hx; go_simp; try rfl)
      simp only [Act.put, List.setIfInBounds_toArray, List.set_cons_zero, List.set_cons_succ]
      refine hl_take_np 13 (by kernel_rfl) (by kernel_rfl) rfl (by kernel_rfl) hs0 (v := ?_) ?_ ?_
      rotate_left
      · (rintro x hx; have k0 := hx.cell cx0; have k1 := hx.cell cx1; have k2 := hx.cell cy0; have k3 := hx.cell cy1; clear hx; go_simp; try rfl)
      simp only [Act.put, List.setIfInBounds_toArray, List.set_cons_zero, List.set_cons_succ]
      refine hl_take_np 14 (by kernel_rfl) (by kernel_rfl) rfl (by kernel_rfl) hs0 (v := ?_) ?_ ?_
      rotate_left
      · (rintro x hx; have k0 := hx.cell cx0; have k1 := hx.cell cx1; have k2 := hx.cell cy0; have k3 := hx.cell cy1; clear hx; go_simp; try rfl)
      simp only [Act.put, List.setIfInBounds_toArray, List.set_cons_zero, List.set_cons_succ]
      refine hl_take_np 15 (by kernel_rfl) (by kernel_rfl) rfl (by kernel_rfl) hs0 (v := ?_) ?_ ?_
      rotate_left
      · (rintro x hx; have k0 := hx.cell cx0; have k1 := hx.cell cx1; have k2 := hx.cell cy0; have k3 := hx.cell cy1; clear hx; go_simp; try rfl)
      simp only [Act.put, List.setIfInBounds_toArray, List.set_cons_zero, List.set_cons_succ]
      refine hl_take_np 16 (by kernel_rfl) (by kernel_rfl) rfl (by kernel_rfl) hs0 (v := ?_) ?_ ?_
      rotate_left
      · (rintro x hx; have k0 := hx.cell cx0; have k1 := hx.cell cx1; have k2 := hx.cell cy0; have k3 := hx.cell cy1; clear hx; go_simp; try rfl)
      simp only [Act.put, List.setIfInBounds_toArray, List.set_cons_zero, List.set_cons_succ]
      refine hl_take_np 17 (by kernel_rfl) (by kernel_rfl) rfl (by kernel_rfl) hs0 (v := ?_) ?_ ?_
      rotate_left
      · (rintro x hx; have k0 := hx.cell cx0; have k1 := hx.cell cx1; have k2 := hx.cell cy0; have k3 := hx.cell cy1; clear hx; go_simp; try rfl)
      simp only [Act.put, List.setIfInBounds_toArray, List.set_cons_zero, List.set_cons_succ]
      refine hl_take_np 18 (by kernel_rfl) (by kernel_rfl) rfl (by kernel_rfl) hs0 (v := ?_) ?_ ?_
      rotate_left
      · (rintro x hx; have k0 := hx.cell cx0; have k1 := hx.cell cx1; have k2 := hx.cell cy0; have k3 := hx.cell cy1; clear hx; go_simp; try rfl)
      simp only [Act.put, List.setIfInBounds_toArray, List.set_cons_zero, List.set_cons_succ]
      refine hl_take_np 19 (by kernel_rfl) (by kernel_rfl) rfl (by kernel_rfl) hs0 (v := ?_) ?_ ?_
      rotate_left
      · (rintro x hx; have k0 := hx.cell cx0; have k1 := hx.cell cx1; have k2 := hx.cell cy0; have k3 := hx.cell cy1; clear hx; go_simp; try rfl)
      simp only [Act.put, List.setIfInBounds_toArray, List.set_cons_zero, List.set_cons_succ]
      refine hl_take_np 20 (by kernel_rfl) (by kernel_rfl) rfl (by kernel_rfl) hs0 (v := ?_) ?_ ?_
      rotate_left
      · (rintro x hx; have k0 := hx.cell cx0; have k1 := hx.cell cx1; have k2 := hx.cell cy0; have k3 := hx.cell cy1; clear hx; go_simp; try rfl)
      simp only [Act.put, List.setIfInBounds_toArray, List.set_cons_zero, List.set_cons_succ]
      refine hl_take_np 21 (by kernel_rfl) (by kernel_rfl) rfl (by kernel_rfl) hs0 (v := ?_) ?_ ?_
      rotate_left
      · (rintro x hx; have k0 := hx.cell cx0; have k1 := hx.cell cx1; have k2 := hx.cell cy0; have k3 := hx.cell cy1; clear hx; go_simp; try rfl)
      simp only [Act.put, List.setIfInBounds_toArray, List.set_cons_zero, List.set_cons_succ]
      refine hl_take_np 22 (by kernel_rfl) (by kernel_rfl) rfl (by kernel_rfl) hs0 (v := ?_) ?_ ?_
      rotate_left
      · (rintro x hx; have k0 := hx.cell cx0; have k1 := hx.cell cx1; have k2 := hx.cell cy0; have k3 := hx.cell cy1; clear hx; go_simp; try rfl)
      simp only [Act.put, List.setIfInBounds_toArray, List.set_cons_zero, List.set_cons_succ]
      refine hl_take_np 23 (by kernel_rfl) (by kernel_rfl) rfl (by kernel_rfl) hs0 (v := ?_) ?_ ?_
      rotate_left
      · (rintro x hx; have k0 := hx.cell cx0; have k1 := hx.cell cx1; have k2 := hx.cell cy0; have k3 := hx.cell cy1; clear hx; go_simp; try rfl)
      simp only [Act.put, List.setIfInBounds_toArray, List.set_cons_zero, List.set_cons_succ]
      refine hl_done (by kernel_rfl) ?_ _
      refine NoPanic.normal ?_
      have hgd := hg.trans hs0
      clear cx0 cx1 cy0 cy1
      go_wp2_with fail
      go_roundw
      case rel => exact ⟨k + 1, by omega, by go_num, hgd⟩
      case measure => simp [intOf]; omega
    · have hkk : k = n := by omega
      subst hkk
      go_wp2_with fail
      go_ret
      exact ⟨rfl, hg⟩
end Go.Proofs.Ythdeehpnlcpbnaa
