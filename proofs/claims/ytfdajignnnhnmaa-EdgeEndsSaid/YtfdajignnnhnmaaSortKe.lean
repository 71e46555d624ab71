/- rows of edges that are kept -/
import Derived.Test.YtfdajignnnhnmaaSortLe
namespace Go.Proofs.Ytfdajignnnhnmaa
set_option linter.unusedVariables false
set_option linter.unusedSimpArgs false
open Go.RowKit Go.Shelf
attribute [local go_sem] Oper.semAt_some

theorem LentEs.g {W W' : World} {base : Nat} {v : Value} {L : List Edg} (h : LentEs W base v L) (hg : G W W') : LentEs W' base v L := by
  obtain ⟨g, c, M, h1, h2, h3⟩ := h
  exact ⟨g, c, M, h1, hg.ownsRow h2, h3.g hg⟩
theorem medge_at (W : World) (k i : Int) : EdgAt W (medge k i) := ⟨Rdr.nil _ _ _ _, by show (0 : Nat) ≤ _; omega, (fun p hp => by cases hp), Nat.zero_le _, Nat.zero_le _, Nat.zero_le _⟩
set_option maxRecDepth 10000 in
set_option maxHeartbeats 4000000 in
theorem keptEs_yes (L : List Edg) (v u : Value) (base : Nat) (w : World) (hv : LentEs w base v L) (hu : RdrE w u L) (hn : L.length ≤ 1000000) (hp : ∀ E ∈ L, E.ps.length ≤ 1000000) :
    Calls Try.prog 33 #[v, u] w fun e w' => e = .returned (.bool true) ∧ G w w' := by
  obtain ⟨g, cap, M, rfl, hown, hLL⟩ := hv
  obtain ⟨p, c, rfl⟩ := hu.shape
  have hcap := ownsRow_cap hown
  have hmx : cap ≤ 9223372036854775807 := by
    rcases hown.2 with ⟨h, _⟩ | ⟨g', cap', cur, hv, h1, h2, h3, h4, h5, h6⟩
    · cases h
    · cases hv; unfold maxLen at h4; omega
  obtain ⟨n, hnn⟩ : ∃ n, n = L.length := ⟨_, rfl⟩
  have HN := Lib.hid hnn
  have HU := Lib.hid (show RdrE w (.slice p n c) L by rw [hnn]; exact hu)
  have HA := Lib.hid hown
  have HLL := Lib.hid hLL
  have HPP := Lib.hid hp
  rw [← hnn] at hn hcap HA ⊢
  clear hnn hown hu hLL hp
  go_enter Try.func33, Try.ntmps33
  go_wp2
  go_loopw [6] (fun i wr => ∃ j : Nat, j ≤ n + 12 ∧ i = .int .i64 j ∧ G w wr) (fun i _ => n + 12 - (intOf i).toNat)
  case atStart => exact ⟨0, by omega, rfl, G.refl _⟩
  case round =>
    obtain ⟨j, hj, rfl, hg⟩ := hrel
    by_cases hlt : j < n + 12
    · by_cases hlt2 : (j : Int) < (n : Int)
      · have hjn : j < n := by omega
        have hLj : L[j]? = some (eat L j) := eat_get (by rw [← HN.out]; exact hjn)
        obtain ⟨uj, bj, hbj, hMj, hlp⟩ := HLL.out.each j (by rw [← HN.out]; exact hjn)
        have hMg : (M ++ marksE 1 12)[j]? = some (lentE (eat L j) uj) := by
          rw [List.getElem?_append_left (by rw [HLL.out.len, ← HN.out]; exact hjn), eat_get (by rw [HLL.out.len, ← HN.out]; exact hjn), hMj]
        have hru := HU.out.g hg
        obtain ⟨b, o, hpe, a0, a1, a2, a3, a4⟩ := hru.at hLj
        subst hpe
        have hea := hru.each _ (List.mem_of_getElem? hLj)
        have hps := HPP.out _ (List.mem_of_getElem? hLj)
        obtain ⟨y0, y1, y2, y3, y4⟩ := ecs_get hMg
        have hog := hg.ownsRow HA.out
        have u0 := hog.cells (g := g) rfl _ _ y0
        have u1 := hog.cells (g := g) rfl _ _ y1
        have u2 := hog.cells (g := g) rfl _ _ y2
        have u3 := hog.cells (g := g) rfl _ _ y3
        have u4 := hog.cells (g := g) rfl _ _ y4
        rw [addr_add, Nat.zero_add] at u0 u1 u2 u3 u4
        have HC := Lib.hid (fun X (hX : G wr X) => keptE_yes (eat L j) uj bj X (hea.g hX) hps ((hlp.g hg).g hX))
        obtain ⟨up, uc, huj⟩ := hlp.slice
        obtain ⟨pa, na, ca, hva⟩ := hea.isE
        obtain ⟨nu, hnu⟩ : ∃ x, x = (eat L j).ps.length := ⟨_, rfl⟩
        rw [← hnu] at huj
        subst huj
        unfold ev lentE at HC
        simp only [lentE] at u0 u1 u2 u3 u4
        simp only at HC
        rw [hva] at HC a4
        obtain ⟨E, hE⟩ : ∃ E, E = eat L j := ⟨_, rfl⟩
        rw [← hE] at HC a0 a1 a2 a3 u0 u1 u2 u3
        have hge : decide (n ≤ j) = false := by simpa using hlt2
        clear hLj hMj hlp hMg hru hea hps y0 y1 y2 y3 y4 hog hva hnu hE
        go_upto_region 7 with fail
        obtain ⟨WD, hWD⟩ : ∃ WD : World, WD = wr.drew := ⟨_, rfl⟩
        have hsD : G wr WD := by rw [hWD]; exact (G.refl wr).drew
        refine region_hlW (fun w' => G wr w') 99 35 (by kernel_rfl) rfl ?_
        intro Q0 HQ0
        simp only [List.replicate_succ, List.replicate_zero]
        rw [← hWD]
        clear hWD
        refine hl_take_np 0 (by kernel_rfl) (by kernel_rfl) rfl (by kernel_rfl) hsD (v := ?_) ?_ ?_
        rotate_left
        · (rintro x hx; have k0 := hx.cell a0; have l0 := hx.cell u0; have k1 := hx.cell a1; have l1 := hx.cell u1; have k2 := hx.cell a2; have l2 := hx.cell u2; have k3 := hx.cell a3; have l3 := hx.cell u3; have k4 := hx.cell a4; have l4 := hx.cell u4; clear hx; go_simp; try rfl)
        simp only [Act.put, List.setIfInBounds_toArray, List.set_cons_zero, List.set_cons_succ]
        refine hl_take_np 1 (by kernel_rfl) (by kernel_rfl) rfl (by kernel_rfl) hsD (v := ?_) ?_ ?_
        rotate_left
        · (rintro x hx; have k0 := hx.cell a0; have l0 := hx.cell u0; have k1 := hx.cell a1; have l1 := hx.cell u1; have k2 := hx.cell a2; have l2 := hx.cell u2; have k3 := hx.cell a3; have l3 := hx.cell u3; have k4 := hx.cell a4; have l4 := hx.cell u4; clear hx; go_simp; try rfl)
        simp only [Act.put, List.setIfInBounds_toArray, List.set_cons_zero, List.set_cons_succ]
        refine hl_take_np 2 (by kernel_rfl) (by kernel_rfl) rfl (by kernel_rfl) hsD (v := ?_) ?_ ?_
        rotate_left
        · (rintro x hx; have k0 := hx.cell a0; have l0 := hx.cell u0; have k1 := hx.cell a1; have l1 := hx.cell u1; have k2 := hx.cell a2; have l2 := hx.cell u2; have k3 := hx.cell a3; have l3 := hx.cell u3; have k4 := hx.cell a4; have l4 := hx.cell u4; clear hx; go_simp; try rfl)
        simp only [Act.put, List.setIfInBounds_toArray, List.set_cons_zero, List.set_cons_succ]
        refine hl_take_np 3 (by kernel_rfl) (by kernel_rfl) rfl (by kernel_rfl) hsD (v := ?_) ?_ ?_
        rotate_left
        · (rintro x hx; have k0 := hx.cell a0; have l0 := hx.cell u0; have k1 := hx.cell a1; have l1 := hx.cell u1; have k2 := hx.cell a2; have l2 := hx.cell u2; have k3 := hx.cell a3; have l3 := hx.cell u3; have k4 := hx.cell a4; have l4 := hx.cell u4; clear hx; go_simp; try rfl)
        simp only [Act.put, List.setIfInBounds_toArray, List.set_cons_zero, List.set_cons_succ]
        refine hl_take_np 4 (by kernel_rfl) (by kernel_rfl) rfl (by kernel_rfl) hsD (v := ?_) ?_ ?_
        rotate_left
        · (rintro x hx; have k0 := hx.cell a0; have l0 := hx.cell u0; have k1 := hx.cell a1; have l1 := hx.cell u1; have k2 := hx.cell a2; have l2 := hx.cell u2; have k3 := hx.cell a3; have l3 := hx.cell u3; have k4 := hx.cell a4; have l4 := hx.cell u4; clear hx; go_simp; try rfl)
        simp only [Act.put, List.setIfInBounds_toArray, List.set_cons_zero, List.set_cons_succ]
        refine hl_take_np 5 (by kernel_rfl) (by kernel_rfl) rfl (by kernel_rfl) hsD (v := ?_) ?_ ?_
        rotate_left
        · (rintro x hx; have k0 := hx.cell a0; have l0 := hx.cell u0; have k1 := hx.cell a1; have l1 := hx.cell u1; have k2 := hx.cell a2; have l2 := hx.cell u2; have k3 := hx.cell a3; have l3 := hx.cell u3; have k4 := hx.cell a4; have l4 := hx.cell u4; clear hx; go_simp; try rfl)
        simp only [Act.put, List.setIfInBounds_toArray, List.set_cons_zero, List.set_cons_succ]
        refine hl_take_np 6 (by kernel_rfl) (by kernel_rfl) rfl (by kernel_rfl) hsD (v := ?_) ?_ ?_
        rotate_left
        · (rintro x hx; have k0 := hx.cell a0; have l0 := hx.cell u0; have k1 := hx.cell a1; have l1 := hx.cell u1; have k2 := hx.cell a2; have l2 := hx.cell u2; have k3 := hx.cell a3; have l3 := hx.cell u3; have k4 := hx.cell a4; have l4 := hx.cell u4; clear hx; go_simp; try rfl)
        simp only [Act.put, List.setIfInBounds_toArray, List.set_cons_zero, List.set_cons_succ]
        refine hl_take_np 7 (by kernel_rfl) (by kernel_rfl) rfl (by kernel_rfl) hsD (v := ?_) ?_ ?_
        rotate_left
        · (rintro x hx; have k0 := hx.cell a0; have l0 := hx.cell u0; have k1 := hx.cell a1; have l1 := hx.cell u1; have k2 := hx.cell a2; have l2 := hx.cell u2; have k3 := hx.cell a3; have l3 := hx.cell u3; have k4 := hx.cell a4; have l4 := hx.cell u4; clear hx; go_simp; try rfl)
        simp only [Act.put, List.setIfInBounds_toArray, List.set_cons_zero, List.set_cons_succ]
        refine hl_take_np 8 (by kernel_rfl) (by kernel_rfl) rfl (by kernel_rfl) hsD (v := ?_) ?_ ?_
        rotate_left
        · (rintro x hx; have k0 := hx.cell a0; have l0 := hx.cell u0; have k1 := hx.cell a1; have l1 := hx.cell u1; have k2 := hx.cell a2; have l2 := hx.cell u2; have k3 := hx.cell a3; have l3 := hx.cell u3; have k4 := hx.cell a4; have l4 := hx.cell u4; clear hx; go_simp; try rfl)
        simp only [Act.put, List.setIfInBounds_toArray, List.set_cons_zero, List.set_cons_succ]
        refine hl_take_np 9 (by kernel_rfl) (by kernel_rfl) rfl (by kernel_rfl) hsD (v := ?_) ?_ ?_
        rotate_left
        · (rintro x hx; have k0 := hx.cell a0; have l0 := hx.cell u0; have k1 := hx.cell a1; have l1 := hx.cell u1; have k2 := hx.cell a2; have l2 := hx.cell u2; have k3 := hx.cell a3; have l3 := hx.cell u3; have k4 := hx.cell a4; have l4 := hx.cell u4; clear hx; go_simp; try rfl)
        simp only [Act.put, List.setIfInBounds_toArray, List.set_cons_zero, List.set_cons_succ]
        refine hl_take_np 10 (by kernel_rfl) (by kernel_rfl) rfl (by kernel_rfl) hsD (v := ?_) ?_ ?_
        rotate_left
        · (rintro x hx; have k0 := hx.cell a0; have l0 := hx.cell u0; have k1 := hx.cell a1; have l1 := hx.cell u1; have k2 := hx.cell a2; have l2 := hx.cell u2; have k3 := hx.cell a3; have l3 := hx.cell u3; have k4 := hx.cell a4; have l4 := hx.cell u4; clear hx; go_simp; try rfl)
        simp only [Act.put, List.setIfInBounds_toArray, List.set_cons_zero, List.set_cons_succ]
        refine hl_take_np 11 (by kernel_rfl) (by kernel_rfl) rfl (by kernel_rfl) hsD (v := ?_) ?_ ?_
        rotate_left
        · (rintro x hx; have k0 := hx.cell a0; have l0 := hx.cell u0; have k1 := hx.cell a1; have l1 := hx.cell u1; have k2 := hx.cell a2; have l2 := hx.cell u2; have k3 := hx.cell a3; have l3 := hx.cell u3; have k4 := hx.cell a4; have l4 := hx.cell u4; clear hx; go_simp; try rfl)
        simp only [Act.put, List.setIfInBounds_toArray, List.set_cons_zero, List.set_cons_succ]
        refine hl_take_np 12 (by kernel_rfl) (by kernel_rfl) rfl (by kernel_rfl) hsD (v := ?_) ?_ ?_
        rotate_left
        · (rintro x hx; have k0 := hx.cell a0; have l0 := hx.cell u0; have k1 := hx.cell a1; have l1 := hx.cell u1; have k2 := hx.cell a2; have l2 := hx.cell u2; have k3 := hx.cell a3; have l3 := hx.cell u3; have k4 := hx.cell a4; have l4 := hx.cell u4; clear hx; go_simp; try rfl)
        simp only [Act.put, List.setIfInBounds_toArray, List.set_cons_zero, List.set_cons_succ]
        refine hl_stepW 13 (by kernel_rfl) rfl (by kernel_rfl) ?_
        intro K hK
        go_simp
        refine (HC.out WD hsD).mono ?_
        rintro e W2 ⟨rfl, hga⟩
        have hs2 : G wr W2 := hsD.trans hga
        refine hK _ _ (fun _ => hs2) ?_
        clear hK K hga a0 a1 a2 a3 a4 u0 u1 u2 u3 u4 HC
        simp only [Act.put, List.setIfInBounds_toArray, List.set_cons_zero, List.set_cons_succ]
        refine hl_take_np 14 (by kernel_rfl) (by kernel_rfl) rfl (by kernel_rfl) hs2 (v := ?_) ?_ ?_
        rotate_left
        · (rintro x hx; clear hx; go_simp; try rfl)
        simp only [Act.put, List.setIfInBounds_toArray, List.set_cons_zero, List.set_cons_succ]
        refine hl_take_np 15 (by kernel_rfl) (by kernel_rfl) rfl (by kernel_rfl) hs2 (v := ?_) ?_ ?_
        rotate_left
        · (rintro x hx; clear hx; go_simp; try rfl)
        simp only [Act.put, List.setIfInBounds_toArray, List.set_cons_zero, List.set_cons_succ]
        refine hl_take_np 16 (by kernel_rfl) (by kernel_rfl) rfl (by kernel_rfl) hs2 (v := ?_) ?_ ?_
        rotate_left
        · (rintro x hx; clear hx; go_simp; try rfl)
        simp only [Act.put, List.setIfInBounds_toArray, List.set_cons_zero, List.set_cons_succ]
        refine hl_take_np 17 (by kernel_rfl) (by kernel_rfl) rfl (by kernel_rfl) hs2 (v := ?_) ?_ ?_
        rotate_left
        · (rintro x hx; clear hx; go_simp; try rfl)
        simp only [Act.put, List.setIfInBounds_toArray, List.set_cons_zero, List.set_cons_succ]
        refine hl_take_np 18 (by kernel_rfl) (by kernel_rfl) rfl (by kernel_rfl) hs2 (v := ?_) ?_ ?_
        rotate_left
        · (rintro x hx; clear hx; go_simp; try rfl)
        simp only [Act.put, List.setIfInBounds_toArray, List.set_cons_zero, List.set_cons_succ]
        refine hl_take_np 19 (by kernel_rfl) (by kernel_rfl) rfl (by kernel_rfl) hs2 (v := ?_) ?_ ?_
        rotate_left
        · (rintro x hx; clear hx; go_simp; try rfl)
        simp only [Act.put, List.setIfInBounds_toArray, List.set_cons_zero, List.set_cons_succ]
        refine hl_take_np 20 (by kernel_rfl) (by kernel_rfl) rfl (by kernel_rfl) hs2 (v := ?_) ?_ ?_
        rotate_left
        · (rintro x hx; clear hx; go_simp; try rfl)
        simp only [Act.put, List.setIfInBounds_toArray, List.set_cons_zero, List.set_cons_succ]
        refine hl_take_np 21 (by kernel_rfl) (by kernel_rfl) rfl (by kernel_rfl) hs2 (v := ?_) ?_ ?_
        rotate_left
        · (rintro x hx; clear hx; go_simp; try rfl)
        simp only [Act.put, List.setIfInBounds_toArray, List.set_cons_zero, List.set_cons_succ]
        refine hl_skip_np 22 (by kernel_rfl) (by kernel_rfl) rfl (by kernel_rfl) hs2 ?_
        simp only [Act.put, List.setIfInBounds_toArray, List.set_cons_zero, List.set_cons_succ]
        refine hl_skip_np 23 (by kernel_rfl) (by kernel_rfl) rfl (by kernel_rfl) hs2 ?_
        simp only [Act.put, List.setIfInBounds_toArray, List.set_cons_zero, List.set_cons_succ]
        refine hl_skip_np 24 (by kernel_rfl) (by kernel_rfl) rfl (by kernel_rfl) hs2 ?_
        simp only [Act.put, List.setIfInBounds_toArray, List.set_cons_zero, List.set_cons_succ]
        refine hl_skip_np 25 (by kernel_rfl) (by kernel_rfl) rfl (by kernel_rfl) hs2 ?_
        simp only [Act.put, List.setIfInBounds_toArray, List.set_cons_zero, List.set_cons_succ]
        refine hl_skip_np 26 (by kernel_rfl) (by kernel_rfl) rfl (by kernel_rfl) hs2 ?_
        simp only [Act.put, List.setIfInBounds_toArray, List.set_cons_zero, List.set_cons_succ]
        refine hl_skip_np 27 (by kernel_rfl) (by kernel_rfl) rfl (by kernel_rfl) hs2 ?_
        simp only [Act.put, List.setIfInBounds_toArray, List.set_cons_zero, List.set_cons_succ]
        refine hl_skip_np 28 (by kernel_rfl) (by kernel_rfl) rfl (by kernel_rfl) hs2 ?_
        simp only [Act.put, List.setIfInBounds_toArray, List.set_cons_zero, List.set_cons_succ]
        refine hl_skip_np 29 (by kernel_rfl) (by kernel_rfl) rfl (by kernel_rfl) hs2 ?_
        simp only [Act.put, List.setIfInBounds_toArray, List.set_cons_zero, List.set_cons_succ]
        refine hl_skip_np 30 (by kernel_rfl) (by kernel_rfl) rfl (by kernel_rfl) hs2 ?_
        simp only [Act.put, List.setIfInBounds_toArray, List.set_cons_zero, List.set_cons_succ]
        refine hl_skip_np 31 (by kernel_rfl) (by kernel_rfl) rfl (by kernel_rfl) hs2 ?_
        simp only [Act.put, List.setIfInBounds_toArray, List.set_cons_zero, List.set_cons_succ]
        refine hl_skip_np 32 (by kernel_rfl) (by kernel_rfl) rfl (by kernel_rfl) hs2 ?_
        simp only [Act.put, List.setIfInBounds_toArray, List.set_cons_zero, List.set_cons_succ]
        refine hl_take_np 33 (by kernel_rfl) (by kernel_rfl) rfl (by kernel_rfl) hs2 (v := ?_) ?_ ?_
        rotate_left
        · (rintro x hx; clear hx; go_simp; try rfl)
        simp only [Act.put, List.setIfInBounds_toArray, List.set_cons_zero, List.set_cons_succ]
        refine hl_take_np 34 (by kernel_rfl) (by kernel_rfl) rfl (by kernel_rfl) hs2 (v := ?_) ?_ ?_
        rotate_left
        · (rintro x hx; clear hx; go_simp; try rfl)
        simp only [Act.put, List.setIfInBounds_toArray, List.set_cons_zero, List.set_cons_succ]
        refine hl_done (by kernel_rfl) ?_ _
        refine NoPanic.normal (HQ0.out _ _ ?_)
        clear HQ0
        have hg2 := hg.trans hs2
        clear hsD hs2 hg
        go_wp2_with fail
        go_roundw
        case rel => exact ⟨j + 1, by omega, by go_num, hg2⟩
        case measure => simp [intOf]; omega
      · have hdlt : decide (j < n) = false := by simpa using hlt2
        have hdge : decide (n ≤ j) = true := by simp; omega
        obtain ⟨k, hk⟩ : ∃ k : Nat, (j : Int) = n + k := ⟨j - n, by omega⟩
        have hk12 : k < 12 := by omega
        have hMg : (M ++ marksE 1 12)[j]? = some (medge 1 k) := by
          rw [List.getElem?_append_right (by rw [HLL.out.len, ← HN.out]; omega), HLL.out.len, ← HN.out, show j - n = k by omega, marksE_get 1 12 k hk12]
        obtain ⟨y0, y1, y2, y3, y4⟩ := ecs_get hMg
        have hog := hg.ownsRow HA.out
        have u0 := hog.cells (g := g) rfl _ _ y0
        have u1 := hog.cells (g := g) rfl _ _ y1
        have u2 := hog.cells (g := g) rfl _ _ y2
        have u3 := hog.cells (g := g) rfl _ _ y3
        have u4 := hog.cells (g := g) rfl _ _ y4
        rw [addr_add, Nat.zero_add] at u0 u1 u2 u3 u4
        simp only [medge] at u0 u1 u2 u3 u4
        have hsub : (j : Int) - (n : Int) = (k : Int) := by omega
        have hkw : IntKind.i64.wrap (k : Int) = k := IntWalk.i64_in _ (by omega)
        have HC := Lib.hid (fun X => sameE_any (medge 1 k) (medge 1 k) X (medge_at X 1 k) (medge_at X 1 k))
        rw [show sameE (medge 1 k) (medge 1 k) = true from sameE_iff.2 rfl] at HC
        unfold ev medge at HC
        simp only at HC
        clear hk hMg y0 y1 y2 y3 y4 hog
        go_upto_region 7 with fail
        obtain ⟨WD, hWD⟩ : ∃ WD : World, WD = wr.drew := ⟨_, rfl⟩
        have hsD : G wr WD := by rw [hWD]; exact (G.refl wr).drew
        refine region_hlW (fun w' => G wr w') 99 35 (by kernel_rfl) rfl ?_
        intro Q0 HQ0
        simp only [List.replicate_succ, List.replicate_zero]
        rw [← hWD]
        clear hWD
        refine hl_take_np 0 (by kernel_rfl) (by kernel_rfl) rfl (by kernel_rfl) hsD (v := ?_) ?_ ?_
        rotate_left
        · (rintro x hx; have l0 := hx.cell u0; have l1 := hx.cell u1; have l2 := hx.cell u2; have l3 := hx.cell u3; have l4 := hx.cell u4; clear hx; go_simp; try rfl)
        simp only [Act.put, List.setIfInBounds_toArray, List.set_cons_zero, List.set_cons_succ]
        refine hl_take_np 1 (by kernel_rfl) (by kernel_rfl) rfl (by kernel_rfl) hsD (v := ?_) ?_ ?_
        rotate_left
        · (rintro x hx; have l0 := hx.cell u0; have l1 := hx.cell u1; have l2 := hx.cell u2; have l3 := hx.cell u3; have l4 := hx.cell u4; clear hx; go_simp; try rfl)
        simp only [Act.put, List.setIfInBounds_toArray, List.set_cons_zero, List.set_cons_succ]
        refine hl_take_np 2 (by kernel_rfl) (by kernel_rfl) rfl (by kernel_rfl) hsD (v := ?_) ?_ ?_
        rotate_left
        · (rintro x hx; have l0 := hx.cell u0; have l1 := hx.cell u1; have l2 := hx.cell u2; have l3 := hx.cell u3; have l4 := hx.cell u4; clear hx; go_simp; try rfl)
        simp only [Act.put, List.setIfInBounds_toArray, List.set_cons_zero, List.set_cons_succ]
        refine hl_take_np 3 (by kernel_rfl) (by kernel_rfl) rfl (by kernel_rfl) hsD (v := ?_) ?_ ?_
        rotate_left
        · (rintro x hx; have l0 := hx.cell u0; have l1 := hx.cell u1; have l2 := hx.cell u2; have l3 := hx.cell u3; have l4 := hx.cell u4; clear hx; go_simp; try rfl)
        simp only [Act.put, List.setIfInBounds_toArray, List.set_cons_zero, List.set_cons_succ]
        refine hl_take_np 4 (by kernel_rfl) (by kernel_rfl) rfl (by kernel_rfl) hsD (v := ?_) ?_ ?_
        rotate_left
        · (rintro x hx; have l0 := hx.cell u0; have l1 := hx.cell u1; have l2 := hx.cell u2; have l3 := hx.cell u3; have l4 := hx.cell u4; clear hx; go_simp; try rfl)
        simp only [Act.put, List.setIfInBounds_toArray, List.set_cons_zero, List.set_cons_succ]
        refine hl_skip_np 5 (by kernel_rfl) (by kernel_rfl) rfl (by kernel_rfl) hsD ?_
        simp only [Act.put, List.setIfInBounds_toArray, List.set_cons_zero, List.set_cons_succ]
        refine hl_skip_np 6 (by kernel_rfl) (by kernel_rfl) rfl (by kernel_rfl) hsD ?_
        simp only [Act.put, List.setIfInBounds_toArray, List.set_cons_zero, List.set_cons_succ]
        refine hl_skip_np 7 (by kernel_rfl) (by kernel_rfl) rfl (by kernel_rfl) hsD ?_
        simp only [Act.put, List.setIfInBounds_toArray, List.set_cons_zero, List.set_cons_succ]
        refine hl_skip_np 8 (by kernel_rfl) (by kernel_rfl) rfl (by kernel_rfl) hsD ?_
        simp only [Act.put, List.setIfInBounds_toArray, List.set_cons_zero, List.set_cons_succ]
        refine hl_skip_np 9 (by kernel_rfl) (by kernel_rfl) rfl (by kernel_rfl) hsD ?_
        simp only [Act.put, List.setIfInBounds_toArray, List.set_cons_zero, List.set_cons_succ]
        refine hl_skip_np 10 (by kernel_rfl) (by kernel_rfl) rfl (by kernel_rfl) hsD ?_
        simp only [Act.put, List.setIfInBounds_toArray, List.set_cons_zero, List.set_cons_succ]
        refine hl_skip_np 11 (by kernel_rfl) (by kernel_rfl) rfl (by kernel_rfl) hsD ?_
        simp only [Act.put, List.setIfInBounds_toArray, List.set_cons_zero, List.set_cons_succ]
        refine hl_skip_np 12 (by kernel_rfl) (by kernel_rfl) rfl (by kernel_rfl) hsD ?_
        simp only [Act.put, List.setIfInBounds_toArray, List.set_cons_zero, List.set_cons_succ]
        refine hl_skip_np 13 (by kernel_rfl) (by kernel_rfl) rfl (by kernel_rfl) hsD ?_
        simp only [Act.put, List.setIfInBounds_toArray, List.set_cons_zero, List.set_cons_succ]
        refine hl_skip_np 14 (by kernel_rfl) (by kernel_rfl) rfl (by kernel_rfl) hsD ?_
        simp only [Act.put, List.setIfInBounds_toArray, List.set_cons_zero, List.set_cons_succ]
        refine hl_take_np 15 (by kernel_rfl) (by kernel_rfl) rfl (by kernel_rfl) hsD (v := ?_) ?_ ?_
        rotate_left
        · (rintro x hx; have l0 := hx.cell u0; have l1 := hx.cell u1; have l2 := hx.cell u2; have l3 := hx.cell u3; have l4 := hx.cell u4; clear hx; go_simp; try rfl)
        simp only [Act.put, List.setIfInBounds_toArray, List.set_cons_zero, List.set_cons_succ]
        refine hl_take_np 16 (by kernel_rfl) (by kernel_rfl) rfl (by kernel_rfl) hsD (v := ?_) ?_ ?_
        rotate_left
        · (rintro x hx; have l0 := hx.cell u0; have l1 := hx.cell u1; have l2 := hx.cell u2; have l3 := hx.cell u3; have l4 := hx.cell u4; clear hx; go_simp; try rfl)
        simp only [Act.put, List.setIfInBounds_toArray, List.set_cons_zero, List.set_cons_succ]
        refine hl_take_np 17 (by kernel_rfl) (by kernel_rfl) rfl (by kernel_rfl) hsD (v := ?_) ?_ ?_
        rotate_left
        · (rintro x hx; have l0 := hx.cell u0; have l1 := hx.cell u1; have l2 := hx.cell u2; have l3 := hx.cell u3; have l4 := hx.cell u4; clear hx; go_simp; try rfl)
        simp only [Act.put, List.setIfInBounds_toArray, List.set_cons_zero, List.set_cons_succ]
        refine hl_take_np 18 (by kernel_rfl) (by kernel_rfl) rfl (by kernel_rfl) hsD (v := ?_) ?_ ?_
        rotate_left
        · (rintro x hx; have l0 := hx.cell u0; have l1 := hx.cell u1; have l2 := hx.cell u2; have l3 := hx.cell u3; have l4 := hx.cell u4; clear hx; go_simp; try rfl)
        simp only [Act.put, List.setIfInBounds_toArray, List.set_cons_zero, List.set_cons_succ]
        refine hl_take_np 19 (by kernel_rfl) (by kernel_rfl) rfl (by kernel_rfl) hsD (v := ?_) ?_ ?_
        rotate_left
        · (rintro x hx; have l0 := hx.cell u0; have l1 := hx.cell u1; have l2 := hx.cell u2; have l3 := hx.cell u3; have l4 := hx.cell u4; clear hx; go_simp; try rfl)
        simp only [Act.put, List.setIfInBounds_toArray, List.set_cons_zero, List.set_cons_succ]
        refine hl_take_np 20 (by kernel_rfl) (by kernel_rfl) rfl (by kernel_rfl) hsD (v := ?_) ?_ ?_
        rotate_left
        · (rintro x hx; have l0 := hx.cell u0; have l1 := hx.cell u1; have l2 := hx.cell u2; have l3 := hx.cell u3; have l4 := hx.cell u4; clear hx; go_simp; try rfl)
        simp only [Act.put, List.setIfInBounds_toArray, List.set_cons_zero, List.set_cons_succ]
        refine hl_take_np 21 (by kernel_rfl) (by kernel_rfl) rfl (by kernel_rfl) hsD (v := ?_) ?_ ?_
        rotate_left
        · (rintro x hx; have l0 := hx.cell u0; have l1 := hx.cell u1; have l2 := hx.cell u2; have l3 := hx.cell u3; have l4 := hx.cell u4; clear hx; go_simp; try rfl)
        simp only [Act.put, List.setIfInBounds_toArray, List.set_cons_zero, List.set_cons_succ]
        refine hl_take_np 22 (by kernel_rfl) (by kernel_rfl) rfl (by kernel_rfl) hsD (v := ?_) ?_ ?_
        rotate_left
        · (rintro x hx; have l0 := hx.cell u0; have l1 := hx.cell u1; have l2 := hx.cell u2; have l3 := hx.cell u3; have l4 := hx.cell u4; clear hx; go_simp; try rfl)
        simp only [Act.put, List.setIfInBounds_toArray, List.set_cons_zero, List.set_cons_succ]
        refine hl_take_np 23 (by kernel_rfl) (by kernel_rfl) rfl (by kernel_rfl) hsD (v := ?_) ?_ ?_
        rotate_left
        · (rintro x hx; have l0 := hx.cell u0; have l1 := hx.cell u1; have l2 := hx.cell u2; have l3 := hx.cell u3; have l4 := hx.cell u4; clear hx; go_simp; try rfl)
        simp only [Act.put, List.setIfInBounds_toArray, List.set_cons_zero, List.set_cons_succ]
        refine hl_take_np 24 (by kernel_rfl) (by kernel_rfl) rfl (by kernel_rfl) hsD (v := ?_) ?_ ?_
        rotate_left
        · (rintro x hx; have l0 := hx.cell u0; have l1 := hx.cell u1; have l2 := hx.cell u2; have l3 := hx.cell u3; have l4 := hx.cell u4; clear hx; go_simp; try rfl)
        simp only [Act.put, List.setIfInBounds_toArray, List.set_cons_zero, List.set_cons_succ]
        refine hl_take_np 25 (by kernel_rfl) (by kernel_rfl) rfl (by kernel_rfl) hsD (v := ?_) ?_ ?_
        rotate_left
        · (rintro x hx; have l0 := hx.cell u0; have l1 := hx.cell u1; have l2 := hx.cell u2; have l3 := hx.cell u3; have l4 := hx.cell u4; clear hx; go_simp; try rfl)
        simp only [Act.put, List.setIfInBounds_toArray, List.set_cons_zero, List.set_cons_succ]
        refine hl_take_np 26 (by kernel_rfl) (by kernel_rfl) rfl (by kernel_rfl) hsD (v := ?_) ?_ ?_
        rotate_left
        · (rintro x hx; have l0 := hx.cell u0; have l1 := hx.cell u1; have l2 := hx.cell u2; have l3 := hx.cell u3; have l4 := hx.cell u4; clear hx; go_simp; try rfl)
        simp only [Act.put, List.setIfInBounds_toArray, List.set_cons_zero, List.set_cons_succ]
        refine hl_take_np 27 (by kernel_rfl) (by kernel_rfl) rfl (by kernel_rfl) hsD (v := ?_) ?_ ?_
        rotate_left
        · (rintro x hx; have l0 := hx.cell u0; have l1 := hx.cell u1; have l2 := hx.cell u2; have l3 := hx.cell u3; have l4 := hx.cell u4; clear hx; go_simp; try rfl)
        simp only [Act.put, List.setIfInBounds_toArray, List.set_cons_zero, List.set_cons_succ]
        refine hl_take_np 28 (by kernel_rfl) (by kernel_rfl) rfl (by kernel_rfl) hsD (v := ?_) ?_ ?_
        rotate_left
        · (rintro x hx; have l0 := hx.cell u0; have l1 := hx.cell u1; have l2 := hx.cell u2; have l3 := hx.cell u3; have l4 := hx.cell u4; clear hx; go_simp; try rfl)
        simp only [Act.put, List.setIfInBounds_toArray, List.set_cons_zero, List.set_cons_succ]
        refine hl_take_np 29 (by kernel_rfl) (by kernel_rfl) rfl (by kernel_rfl) hsD (v := ?_) ?_ ?_
        rotate_left
        · (rintro x hx; have l0 := hx.cell u0; have l1 := hx.cell u1; have l2 := hx.cell u2; have l3 := hx.cell u3; have l4 := hx.cell u4; clear hx; go_simp; try rfl)
        simp only [Act.put, List.setIfInBounds_toArray, List.set_cons_zero, List.set_cons_succ]
        refine hl_stepW 30 (by kernel_rfl) rfl (by kernel_rfl) ?_
        intro K hK
        go_simp
        try rw [hkw]
        refine (markEdge_any 1 k WD (by omega) (by omega) (by omega) (by omega)).mono ?_
        rintro e W3 ⟨rfl, hg3⟩
        have hs3 : G wr W3 := hsD.trans hg3
        refine hK _ _ (fun _ => hs3) ?_
        clear hK K hg3
        simp only [Act.put, List.setIfInBounds_toArray, List.set_cons_zero, List.set_cons_succ]
        refine hl_stepW 31 (by kernel_rfl) rfl (by kernel_rfl) ?_
        intro K hK
        go_simp
        refine (HC.out W3).mono ?_
        rintro e W4 ⟨rfl, hg4⟩
        have hs4 : G wr W4 := hs3.trans hg4
        refine hK _ _ (fun _ => hs4) ?_
        clear hK K hg4 u0 u1 u2 u3 u4 HC
        simp only [Act.put, List.setIfInBounds_toArray, List.set_cons_zero, List.set_cons_succ]
        refine hl_take_np 32 (by kernel_rfl) (by kernel_rfl) rfl (by kernel_rfl) hs4 (v := ?_) ?_ ?_
        rotate_left
        · (rintro x hx; clear hx; go_simp; try rfl)
        simp only [Act.put, List.setIfInBounds_toArray, List.set_cons_zero, List.set_cons_succ]
        refine hl_take_np 33 (by kernel_rfl) (by kernel_rfl) rfl (by kernel_rfl) hs4 (v := ?_) ?_ ?_
        rotate_left
        · (rintro x hx; clear hx; go_simp; try rfl)
        simp only [Act.put, List.setIfInBounds_toArray, List.set_cons_zero, List.set_cons_succ]
        refine hl_take_np 34 (by kernel_rfl) (by kernel_rfl) rfl (by kernel_rfl) hs4 (v := ?_) ?_ ?_
        rotate_left
        · (rintro x hx; clear hx; go_simp; try rfl)
        simp only [Act.put, List.setIfInBounds_toArray, List.set_cons_zero, List.set_cons_succ]
        refine hl_done (by kernel_rfl) ?_ _
        refine NoPanic.normal (HQ0.out _ _ ?_)
        clear HQ0
        have hg2 := hg.trans hs4
        clear hsD hs3 hs4 hg
        go_wp2_with fail
        go_roundw
        case rel => exact ⟨j + 1, by omega, by go_num, hg2⟩
        case measure => simp [intOf]; omega
    · obtain rfl : j = n + 12 := by omega
      go_wp2_with fail
      go_ret
      exact ⟨rfl, hg⟩
end Go.Proofs.Ytfdajignnnhnmaa
