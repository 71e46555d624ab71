/- the insertion sort of rows of edges -/
import Derived.Test.YtfdajignnnhnmaaSortM
namespace Go.Proofs.Ytfdajignnnhnmaa
set_option linter.unusedVariables false
set_option linter.unusedSimpArgs false
open Go.RowKit Go.Shelf
attribute [local go_sem] Oper.semAt_some

set_option maxRecDepth 10000 in
set_option maxHeartbeats 4000000 in
theorem insertion_any (L : List Edg) (g n c a b : Nat) (w : World) (h : In w g n c L) (hab : a ≤ b) (hbn : b ≤ n) (hn : n ≤ 1000000) :
    Calls Try.prog 87 #[.slice (some ⟨g, 0, none⟩) n c, .int .i64 a, .int .i64 b, CMPF] w fun e w' => (∃ u, e = .returned u) ∧ ∃ L', In w' g n c L' ∧ Stab a b L L' ∧ Srt a b L' ∧ Fr (fun q => q = g) w w' := by
  have HI0 := Lib.hid h
  clear h
  go_enter Try.func87, Try.ntmps87
  go_wp2_with fail
  go_loopw [8] (fun iv wr => ∃ (i : Nat) (M : List Edg), iv = .int .i64 i ∧ a + 1 ≤ i ∧ (i ≤ b ∨ i = a + 1) ∧ Hid (In wr g n c M ∧ Stab a b L M ∧ Srt a i M ∧ Fr (fun q => q = g) w wr)) (fun iv _ => b - (intOf iv).toNat)
  case atStart => exact ⟨a + 1, L, by go_num, by omega, .inr rfl, Lib.hid ⟨HI0.out, Stab.refl _ _ _, fun p q h1 h2 h3 => by omega, Fr.refl _ _⟩⟩
  case round =>
    obtain ⟨i, M, rfl, hi1, hi2, HM⟩ := hrel
    by_cases hlt : i < b
    · have hltI : (i : Int) < (b : Int) := by omega
      obtain ⟨WA, rfl⟩ : ∃ WA : World, WA = wr := ⟨_, rfl⟩
      go_wp2_with fail
      go_loopw [9] (fun jv wr => ∃ (j : Nat) (N : List Edg), jv = .int .i64 j ∧ a ≤ j ∧ j ≤ i ∧ Hid (In wr g n c N ∧ Stab a b L N ∧ Ins a i j N ∧ Fr (fun q => q = g) w wr)) (fun jv _ => (intOf jv).toNat)
      case atStart => exact ⟨i, M, rfl, by omega, by omega, Lib.hid ⟨HM.out.1, HM.out.2.1, Ins.start HM.out.2.2.1, HM.out.2.2.2⟩⟩
      case round =>
        obtain ⟨j, N, rfl, hj1, hj2, HN⟩ := hrel
        by_cases hja : a < j
        · have hjaI : (a : Int) < (j : Int) := by omega
          obtain ⟨u, hu⟩ : ∃ u, u = j - 1 := ⟨_, rfl⟩
          have huI : (j : Int) - 1 = (u : Int) := by omega
          have hwI : IntKind.i64.wrap (u : Int) = (u : Int) := IntWalk.i64_in _ (by omega)
          have hun : u < n := by omega
          have hjn : j < n := by omega
          have HU := Lib.hid hu
          obtain ⟨j0, j1, j2, j3, j4⟩ := HN.out.1.at hjn
          obtain ⟨u0, u1, u2, u3, u4⟩ := HN.out.1.at hun
          have HCMP := Lib.hid (fun X => ecmpV_any (eat N j) (eat N u) X (HN.out.1.eIs hjn) (HN.out.1.eIs hun))
          obtain ⟨px, nx, cx, hxv⟩ := HN.out.1.eIs hjn
          obtain ⟨py, ny, cy, hyv⟩ := HN.out.1.eIs hun
          have HCM2 : Hid (∀ X, Calls Try.prog 24 #[.agg #[.string (eat N j).f, .string (eat N j).t, .string (eat N j).l, .int .i64 (eat N j).tm, .slice px nx cx], .agg #[.string (eat N u).f, .string (eat N u).t, .string (eat N u).l, .int .i64 (eat N u).tm, .slice py ny cy]] X fun e w' => e = .returned (.int .i64 (ecmp (eat N j) (eat N u))) ∧ G X w') := Lib.hid (fun X => by
            obtain ⟨pa, na, ca, pb, nb, cb, h1, h2, h3⟩ := HCMP.out X
            rw [hxv] at h1; rw [hyv] at h2
            cases h1; cases h2
            exact h3)
          rw [hxv] at j4
          rw [hyv] at u4
          have HXV := Lib.hid hxv
          have HYV := Lib.hid hyv
          clear hu hxv hyv HCMP
          obtain ⟨x, hx⟩ : ∃ x, x = eat N j := ⟨_, rfl⟩
          obtain ⟨y, hy⟩ : ∃ y, y = eat N u := ⟨_, rfl⟩
          rw [← hx] at j0 j1 j2 j3 HCM2 HXV
          rw [← hy] at u0 u1 u2 u3 HCM2 HYV
          have HX := Lib.hid hx
          have HY := Lib.hid hy
          clear hx hy
          obtain ⟨xf, xt, xl, xm, xv, xp⟩ := x
          obtain ⟨yf, yt, yl, ym, yv, yp⟩ := y
          simp only at j0 j1 j2 j3 u0 u1 u2 u3 HCM2 HXV HYV
          obtain ⟨r, hr⟩ : ∃ r, r = ecmp ⟨xf, xt, xl, xm, xv, xp⟩ ⟨yf, yt, yl, ym, yv, yp⟩ := ⟨_, rfl⟩
          rw [← hr] at HCM2
          have HR := Lib.hid hr
          clear hr
          go_upto_region 4 with fail
          obtain ⟨WD, hWD⟩ : ∃ WD : World, WD = wr.drew := ⟨_, rfl⟩
          have hsD : G wr WD := by rw [hWD]; exact (G.refl wr).drew
          refine region_hlW (fun w' => G wr w') 99 17 (by kernel_rfl) rfl ?_
          intro Q0 HQ0
          simp only [List.replicate_succ, List.replicate_zero]
          rw [← hWD]
          clear hWD
          refine hl_take_np 0 (by kernel_rfl) (by kernel_rfl) rfl (by kernel_rfl) hsD (v := ?_) ?_ ?_
          rotate_left
          · (rintro x hx; have k0 := hx.cell j0; have l0 := hx.cell u0; have k1 := hx.cell j1; have l1 := hx.cell u1; have k2 := hx.cell j2; have l2 := hx.cell u2; have k3 := hx.cell j3; have l3 := hx.cell u3; have k4 := hx.cell j4; have l4 := hx.cell u4; clear hx; go_simp; try rfl)
          simp only [Act.put, List.setIfInBounds_toArray, List.set_cons_zero, List.set_cons_succ]
          refine hl_take_np 1 (by kernel_rfl) (by kernel_rfl) rfl (by kernel_rfl) hsD (v := ?_) ?_ ?_
          rotate_left
          · (rintro x hx; have k0 := hx.cell j0; have l0 := hx.cell u0; have k1 := hx.cell j1; have l1 := hx.cell u1; have k2 := hx.cell j2; have l2 := hx.cell u2; have k3 := hx.cell j3; have l3 := hx.cell u3; have k4 := hx.cell j4; have l4 := hx.cell u4; clear hx; go_simp; try rfl)
          simp only [Act.put, List.setIfInBounds_toArray, List.set_cons_zero, List.set_cons_succ]
          refine hl_take_np 2 (by kernel_rfl) (by kernel_rfl) rfl (by kernel_rfl) hsD (v := ?_) ?_ ?_
          rotate_left
          · (rintro x hx; have k0 := hx.cell j0; have l0 := hx.cell u0; have k1 := hx.cell j1; have l1 := hx.cell u1; have k2 := hx.cell j2; have l2 := hx.cell u2; have k3 := hx.cell j3; have l3 := hx.cell u3; have k4 := hx.cell j4; have l4 := hx.cell u4; clear hx; go_simp; try rfl)
          simp only [Act.put, List.setIfInBounds_toArray, List.set_cons_zero, List.set_cons_succ]
          refine hl_take_np 3 (by kernel_rfl) (by kernel_rfl) rfl (by kernel_rfl) hsD (v := ?_) ?_ ?_
          rotate_left
          · (rintro x hx; have k0 := hx.cell j0; have l0 := hx.cell u0; have k1 := hx.cell j1; have l1 := hx.cell u1; have k2 := hx.cell j2; have l2 := hx.cell u2; have k3 := hx.cell j3; have l3 := hx.cell u3; have k4 := hx.cell j4; have l4 := hx.cell u4; clear hx; go_simp; try rfl)
          simp only [Act.put, List.setIfInBounds_toArray, List.set_cons_zero, List.set_cons_succ]
          refine hl_take_np 4 (by kernel_rfl) (by kernel_rfl) rfl (by kernel_rfl) hsD (v := ?_) ?_ ?_
          rotate_left
          · (rintro x hx; have k0 := hx.cell j0; have l0 := hx.cell u0; have k1 := hx.cell j1; have l1 := hx.cell u1; have k2 := hx.cell j2; have l2 := hx.cell u2; have k3 := hx.cell j3; have l3 := hx.cell u3; have k4 := hx.cell j4; have l4 := hx.cell u4; clear hx; go_simp; try rfl)
          simp only [Act.put, List.setIfInBounds_toArray, List.set_cons_zero, List.set_cons_succ]
          refine hl_take_np 5 (by kernel_rfl) (by kernel_rfl) rfl (by kernel_rfl) hsD (v := ?_) ?_ ?_
          rotate_left
          · (rintro x hx; have k0 := hx.cell j0; have l0 := hx.cell u0; have k1 := hx.cell j1; have l1 := hx.cell u1; have k2 := hx.cell j2; have l2 := hx.cell u2; have k3 := hx.cell j3; have l3 := hx.cell u3; have k4 := hx.cell j4; have l4 := hx.cell u4; clear hx; go_simp; try rfl)
          simp only [Act.put, List.setIfInBounds_toArray, List.set_cons_zero, List.set_cons_succ]
          refine hl_take_np 6 (by kernel_rfl) (by kernel_rfl) rfl (by kernel_rfl) hsD (v := ?_) ?_ ?_
          rotate_left
          · (rintro x hx; have k0 := hx.cell j0; have l0 := hx.cell u0; have k1 := hx.cell j1; have l1 := hx.cell u1; have k2 := hx.cell j2; have l2 := hx.cell u2; have k3 := hx.cell j3; have l3 := hx.cell u3; have k4 := hx.cell j4; have l4 := hx.cell u4; clear hx; go_simp; try rfl)
          simp only [Act.put, List.setIfInBounds_toArray, List.set_cons_zero, List.set_cons_succ]
          refine hl_take_np 7 (by kernel_rfl) (by kernel_rfl) rfl (by kernel_rfl) hsD (v := ?_) ?_ ?_
          rotate_left
          · (rintro x hx; have k0 := hx.cell j0; have l0 := hx.cell u0; have k1 := hx.cell j1; have l1 := hx.cell u1; have k2 := hx.cell j2; have l2 := hx.cell u2; have k3 := hx.cell j3; have l3 := hx.cell u3; have k4 := hx.cell j4; have l4 := hx.cell u4; clear hx; go_simp; try rfl)
          simp only [Act.put, List.setIfInBounds_toArray, List.set_cons_zero, List.set_cons_succ]
          refine hl_take_np 8 (by kernel_rfl) (by kernel_rfl) rfl (by kernel_rfl) hsD (v := ?_) ?_ ?_
          rotate_left
          · (rintro x hx; have k0 := hx.cell j0; have l0 := hx.cell u0; have k1 := hx.cell j1; have l1 := hx.cell u1; have k2 := hx.cell j2; have l2 := hx.cell u2; have k3 := hx.cell j3; have l3 := hx.cell u3; have k4 := hx.cell j4; have l4 := hx.cell u4; clear hx; go_simp; try rfl)
          simp only [Act.put, List.setIfInBounds_toArray, List.set_cons_zero, List.set_cons_succ]
          refine hl_take_np 9 (by kernel_rfl) (by kernel_rfl) rfl (by kernel_rfl) hsD (v := ?_) ?_ ?_
          rotate_left
          · (rintro x hx; have k0 := hx.cell j0; have l0 := hx.cell u0; have k1 := hx.cell j1; have l1 := hx.cell u1; have k2 := hx.cell j2; have l2 := hx.cell u2; have k3 := hx.cell j3; have l3 := hx.cell u3; have k4 := hx.cell j4; have l4 := hx.cell u4; clear hx; go_simp; try rfl)
          simp only [Act.put, List.setIfInBounds_toArray, List.set_cons_zero, List.set_cons_succ]
          refine hl_take_np 10 (by kernel_rfl) (by kernel_rfl) rfl (by kernel_rfl) hsD (v := ?_) ?_ ?_
          rotate_left
          · (rintro x hx; have k0 := hx.cell j0; have l0 := hx.cell u0; have k1 := hx.cell j1; have l1 := hx.cell u1; have k2 := hx.cell j2; have l2 := hx.cell u2; have k3 := hx.cell j3; have l3 := hx.cell u3; have k4 := hx.cell j4; have l4 := hx.cell u4; clear hx; go_simp; try rfl)
          simp only [Act.put, List.setIfInBounds_toArray, List.set_cons_zero, List.set_cons_succ]
          refine hl_take_np 11 (by kernel_rfl) (by kernel_rfl) rfl (by kernel_rfl) hsD (v := ?_) ?_ ?_
          rotate_left
          · (rintro x hx; have k0 := hx.cell j0; have l0 := hx.cell u0; have k1 := hx.cell j1; have l1 := hx.cell u1; have k2 := hx.cell j2; have l2 := hx.cell u2; have k3 := hx.cell j3; have l3 := hx.cell u3; have k4 := hx.cell j4; have l4 := hx.cell u4; clear hx; go_simp; try rfl)
          simp only [Act.put, List.setIfInBounds_toArray, List.set_cons_zero, List.set_cons_succ]
          refine hl_take_np 12 (by kernel_rfl) (by kernel_rfl) rfl (by kernel_rfl) hsD (v := ?_) ?_ ?_
          rotate_left
          · (rintro x hx; have k0 := hx.cell j0; have l0 := hx.cell u0; have k1 := hx.cell j1; have l1 := hx.cell u1; have k2 := hx.cell j2; have l2 := hx.cell u2; have k3 := hx.cell j3; have l3 := hx.cell u3; have k4 := hx.cell j4; have l4 := hx.cell u4; clear hx; go_simp; try rfl)
          simp only [Act.put, List.setIfInBounds_toArray, List.set_cons_zero, List.set_cons_succ]
          refine hl_take_np 13 (by kernel_rfl) (by kernel_rfl) rfl (by kernel_rfl) hsD (v := ?_) ?_ ?_
          rotate_left
          · (rintro x hx; have k0 := hx.cell j0; have l0 := hx.cell u0; have k1 := hx.cell j1; have l1 := hx.cell u1; have k2 := hx.cell j2; have l2 := hx.cell u2; have k3 := hx.cell j3; have l3 := hx.cell u3; have k4 := hx.cell j4; have l4 := hx.cell u4; clear hx; go_simp; try rfl)
          simp only [Act.put, List.setIfInBounds_toArray, List.set_cons_zero, List.set_cons_succ]
          refine hl_stepW 14 (by kernel_rfl) rfl (by kernel_rfl) ?_
          intro K hK
          go_simp
          refine (HCM2.out WD).mono ?_
          rintro e W2 ⟨rfl, hga⟩
          have hs2 : G wr W2 := hsD.trans hga
          refine hK _ _ (fun _ => hs2) ?_
          clear hK K hga
          simp only [Act.put, List.setIfInBounds_toArray, List.set_cons_zero, List.set_cons_succ]
          by_cases hr0 : r < 0
          · have hrd : decide (r < 0) = true := by simpa using hr0
            refine hl_take_np 15 (by kernel_rfl) (by kernel_rfl) rfl (by kernel_rfl) hs2 (v := ?_) ?_ ?_
            rotate_left
            · (rintro x hx; clear hx; go_simp; try rfl)
            simp only [Act.put, List.setIfInBounds_toArray, List.set_cons_zero, List.set_cons_succ]
            refine hl_take_np 16 (by kernel_rfl) (by kernel_rfl) rfl (by kernel_rfl) hs2 (v := ?_) ?_ ?_
            rotate_left
            · (rintro x hx; clear hx; go_simp; try rfl)
            simp only [Act.put, List.setIfInBounds_toArray, List.set_cons_zero, List.set_cons_succ]
            refine hl_done (by kernel_rfl) ?_ _
            refine NoPanic.normal (HQ0.out _ _ ?_)
            clear HQ0
            have HI2 := Lib.hid (HN.out.1.g hs2)
            have HF2 := Lib.hid (HN.out.2.2.2.trans (hs2.fr (fun q => q = g)) (fun _ _ h => h))
            have hl2 : eLt (eat N j) (eat N u) := by unfold eLt; rw [← HX.out, ← HY.out, ← HR.out]; exact hr0
            have HLT := Lib.hid hl2
            have j0 := hs2.cell j0
            have j1 := hs2.cell j1
            have j2 := hs2.cell j2
            have j3 := hs2.cell j3
            have j4 := hs2.cell j4
            have u0 := hs2.cell u0
            have u1 := hs2.cell u1
            have u2 := hs2.cell u2
            have u3 := hs2.cell u3
            have u4 := hs2.cell u4
            have f0 := HI2.out.froz (j * 5)
            have f1 := HI2.out.froz (j * 5 + 1)
            have f2 := HI2.out.froz (j * 5 + 2)
            have f3 := HI2.out.froz (j * 5 + 3)
            have f4 := HI2.out.froz (j * 5 + 4)
            have g0 := HI2.out.froz (u * 5)
            have g1 := HI2.out.froz (u * 5 + 1)
            have g2 := HI2.out.froz (u * 5 + 2)
            have g3 := HI2.out.froz (u * 5 + 3)
            have g4 := HI2.out.froz (u * 5 + 4)
            have HS := Lib.hid (HI2.out.swap hjn hun)
            rw [← HX.out, ← HY.out, HXV.out, HYV.out] at HS
            have hst := HI2.out.len
            have HST := Lib.hid (show Stab a b L (eswp N j u) from HN.out.2.1.trans (((show Stab u (u + 2) N (eswp N (u + 1) u) from Stab.swap (by rw [hst]; omega) (fun e => eLt_key HLT.out (by rw [show j = u + 1 by omega]; exact e.symm)))).mono (a' := a) (b' := b) (by omega) (by omega) |> (fun h => by rw [show j = u + 1 by omega]; exact h)))
            have HNS := Lib.hid (show Ins a i u (eswp N j u) from by have := Ins.step HN.out.2.2.1 hja hj2 (by rw [hst]; omega) (by rw [show j - 1 = u by omega]; exact HLT.out); rwa [show j - 1 = u by omega] at this)
            have HFS := Lib.hid (HF2.out.trans (swap_fr W2 g j u ⟨yf, yt, yl, ym, .slice py ny cy, yp⟩ ⟨xf, xt, xl, xm, .slice px nx cx, xp⟩) (fun _ _ h => h))
            clear hl2 hs2 hsD hst
            go_wp2_with fail
            go_region
            go_wp2_with fail
            go_roundw
            case rel => exact ⟨u, eswp N j u, rfl, by omega, by omega, Lib.hid ⟨HS.out.g (G.drew (G.refl _)), HST.out, HNS.out, HFS.out.drew⟩⟩
            case measure => simp [intOf]; omega
          · have hrd : decide (r < 0) = false := by simpa using hr0
            refine hl_take_np 15 (by kernel_rfl) (by kernel_rfl) rfl (by kernel_rfl) hs2 (v := ?_) ?_ ?_
            rotate_left
            · (rintro x hx; clear hx; go_simp; try rfl)
            simp only [Act.put, List.setIfInBounds_toArray, List.set_cons_zero, List.set_cons_succ]
            refine hl_take_np 16 (by kernel_rfl) (by kernel_rfl) rfl (by kernel_rfl) hs2 (v := ?_) ?_ ?_
            rotate_left
            · (rintro x hx; clear hx; go_simp; try rfl)
            simp only [Act.put, List.setIfInBounds_toArray, List.set_cons_zero, List.set_cons_succ]
            refine hl_done (by kernel_rfl) ?_ _
            refine NoPanic.normal (HQ0.out _ _ ?_)
            clear HQ0
            have HSR := Lib.hid (show Srt a (i + 1) N from Ins.stop HN.out.2.2.1 hj1 hj2 (.inr (by rw [show j - 1 = u by omega]; unfold eLt; rw [← HX.out, ← HY.out, ← HR.out]; exact hr0)))
            have HI2 := Lib.hid (HN.out.1.g hs2)
            have HF2 := Lib.hid (HN.out.2.2.2.trans (hs2.fr (fun q => q = g)) (fun _ _ h => h))
            clear hs2 hsD j0 j1 j2 j3 j4 u0 u1 u2 u3 u4
            go_wp2_with fail
            go_roundw
            case rel => exact ⟨i + 1, N, by go_num, by omega, by omega, Lib.hid ⟨HI2.out, HN.out.2.1, HSR.out, HF2.out⟩⟩
            case measure => simp [intOf]; omega
        · have hjaI : ¬ (a : Int) < (j : Int) := by omega
          have hjd : decide (a < j) = false := by simpa using hja
          go_upto_region 4 with fail
          obtain ⟨WD, hWD⟩ : ∃ WD : World, WD = wr.drew := ⟨_, rfl⟩
          have hsD : G wr WD := by rw [hWD]; exact (G.refl wr).drew
          refine region_hlW (fun w' => G wr w') 99 17 (by kernel_rfl) rfl ?_
          intro Q0 HQ0
          simp only [List.replicate_succ, List.replicate_zero]
          rw [← hWD]
          clear hWD
          refine hl_take_np 0 (by kernel_rfl) (by kernel_rfl) rfl (by kernel_rfl) hsD (v := ?_) ?_ ?_
          rotate_left
          · (rintro x hx; clear hx; go_simp; try rfl)
          simp only [Act.put, List.setIfInBounds_toArray, List.set_cons_zero, List.set_cons_succ]
          refine hl_take_np 1 (by kernel_rfl) (by kernel_rfl) rfl (by kernel_rfl) hsD (v := ?_) ?_ ?_
          rotate_left
          · (rintro x hx; clear hx; go_simp; try rfl)
          simp only [Act.put, List.setIfInBounds_toArray, List.set_cons_zero, List.set_cons_succ]
          refine hl_take_np 2 (by kernel_rfl) (by kernel_rfl) rfl (by kernel_rfl) hsD (v := ?_) ?_ ?_
          rotate_left
          · (rintro x hx; clear hx; go_simp; try rfl)
          simp only [Act.put, List.setIfInBounds_toArray, List.set_cons_zero, List.set_cons_succ]
          refine hl_take_np 3 (by kernel_rfl) (by kernel_rfl) rfl (by kernel_rfl) hsD (v := ?_) ?_ ?_
          rotate_left
          · (rintro x hx; clear hx; go_simp; try rfl)
          simp only [Act.put, List.setIfInBounds_toArray, List.set_cons_zero, List.set_cons_succ]
          refine hl_skip_np 4 (by kernel_rfl) (by kernel_rfl) rfl (by kernel_rfl) hsD ?_
          simp only [Act.put, List.setIfInBounds_toArray, List.set_cons_zero, List.set_cons_succ]
          refine hl_skip_np 5 (by kernel_rfl) (by kernel_rfl) rfl (by kernel_rfl) hsD ?_
          simp only [Act.put, List.setIfInBounds_toArray, List.set_cons_zero, List.set_cons_succ]
          refine hl_skip_np 6 (by kernel_rfl) (by kernel_rfl) rfl (by kernel_rfl) hsD ?_
          simp only [Act.put, List.setIfInBounds_toArray, List.set_cons_zero, List.set_cons_succ]
          refine hl_skip_np 7 (by kernel_rfl) (by kernel_rfl) rfl (by kernel_rfl) hsD ?_
          simp only [Act.put, List.setIfInBounds_toArray, List.set_cons_zero, List.set_cons_succ]
          refine hl_skip_np 8 (by kernel_rfl) (by kernel_rfl) rfl (by kernel_rfl) hsD ?_
          simp only [Act.put, List.setIfInBounds_toArray, List.set_cons_zero, List.set_cons_succ]
          refine hl_skip_np 9 (by kernel_rfl) (by kernel_rfl) rfl (by kernel_rfl) hsD ?_
          simp only [Act.put, List.setIfInBounds_toArray, List.set_cons_zero, List.set_cons_succ]
          refine hl_skip_np 10 (by kernel_rfl) (by kernel_rfl) rfl (by kernel_rfl) hsD ?_
          simp only [Act.put, List.setIfInBounds_toArray, List.set_cons_zero, List.set_cons_succ]
          refine hl_skip_np 11 (by kernel_rfl) (by kernel_rfl) rfl (by kernel_rfl) hsD ?_
          simp only [Act.put, List.setIfInBounds_toArray, List.set_cons_zero, List.set_cons_succ]
          refine hl_skip_np 12 (by kernel_rfl) (by kernel_rfl) rfl (by kernel_rfl) hsD ?_
          simp only [Act.put, List.setIfInBounds_toArray, List.set_cons_zero, List.set_cons_succ]
          refine hl_skip_np 13 (by kernel_rfl) (by kernel_rfl) rfl (by kernel_rfl) hsD ?_
          simp only [Act.put, List.setIfInBounds_toArray, List.set_cons_zero, List.set_cons_succ]
          refine hl_skip_np 14 (by kernel_rfl) (by kernel_rfl) rfl (by kernel_rfl) hsD ?_
          simp only [Act.put, List.setIfInBounds_toArray, List.set_cons_zero, List.set_cons_succ]
          refine hl_skip_np 15 (by kernel_rfl) (by kernel_rfl) rfl (by kernel_rfl) hsD ?_
          simp only [Act.put, List.setIfInBounds_toArray, List.set_cons_zero, List.set_cons_succ]
          refine hl_take_np 16 (by kernel_rfl) (by kernel_rfl) rfl (by kernel_rfl) hsD (v := ?_) ?_ ?_
          rotate_left
          · (rintro x hx; clear hx; go_simp; try rfl)
          simp only [Act.put, List.setIfInBounds_toArray, List.set_cons_zero, List.set_cons_succ]
          refine hl_done (by kernel_rfl) ?_ _
          refine NoPanic.normal (HQ0.out _ _ ?_)
          clear HQ0
          have HSR := Lib.hid (show Srt a (i + 1) N from Ins.stop HN.out.2.2.1 hj1 hj2 (.inl (by omega)))
          have HI2 := Lib.hid (HN.out.1.g hsD)
          have HF2 := Lib.hid (HN.out.2.2.2.trans (hsD.fr (fun q => q = g)) (fun _ _ h => h))
          clear hsD
          go_wp2_with fail
          go_roundw
          case rel => exact ⟨i + 1, N, by go_num, by omega, by omega, Lib.hid ⟨HI2.out, HN.out.2.1, HSR.out, HF2.out⟩⟩
          case measure => simp [intOf]; omega
    · have hltI : ¬ (i : Int) < (b : Int) := by omega
      go_wp2_with fail
      go_returns
      exact ⟨⟨_, rfl⟩, M, HM.out.1, HM.out.2.1, fun p q h1 h2 h3 => HM.out.2.2.1 p q h1 h2 (by omega), HM.out.2.2.2⟩
end Go.Proofs.Ytfdajignnnhnmaa
