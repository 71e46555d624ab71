/- EdgeOrder: the walk -/
import Derived.Test.YtfdajignnnhnmaaOrdA
namespace Go.Proofs.Ytfdajignnnhnmaa
set_option linter.unusedVariables false
set_option linter.unusedSimpArgs false
open Go.RowKit Go.Shelf
attribute [local go_sem] Oper.semAt_some

set_option maxRecDepth 10000 in
set_option maxHeartbeats 8000000 in
theorem order_any (l : List Edg) (turn : Int) (p : Option Addr) (c : Nat) (w : World) (h : RdrE w (.slice p l.length c) l) (hc : l.length ≤ c) (hc2 : c ≤ maxLen) (hn : l.length ≤ 4398046511104) :
    Calls Try.prog 7 #[.slice p l.length c, .int .i64 turn] w fun e w' => e = .returned (.bool true) ∧ G w w' := by
  obtain ⟨i0, hi, hz0, hz1, hz2⟩ := info_parts infoE
  have HI := Lib.hid (And.intro hi (And.intro hz0 (And.intro hz1 hz2)))
  have HSZ := Lib.hid (fun (X : World) (hX : G w X) => size_any l _ X (h.g hX) hn)
  have H := Lib.hid h
  obtain ⟨n, hnn⟩ : ∃ n, n = l.length := ⟨_, rfl⟩
  rw [← hnn] at HSZ H hc ⊢
  have HN := Lib.hid hnn
  have HC2 := Lib.hid hc2
  clear h hn hnn hc2 hi hz0 hz1 hz2
  go_enter Try.func7, Try.ntmps7
  go_wp2_with fail
  refine (awake_any w).mono ?_
  rintro e w0 ⟨rfl, hg0⟩
  have HS := Lib.hid (HSZ.out w0 hg0)
  clear HSZ
  go_wp2_with fail
  refine HS.out.mono ?_
  rintro e w1 ⟨z, rfl, hz1, hz2, rfl⟩
  by_cases hbig : 250 < z
  · have hbI : (250 : Int) < (z : Int) := by omega
    clear hz2
    go_wp2_with fail
    go_ret
    exact ⟨rfl, hg0⟩
  · have hbI : ¬ (250 : Int) < (z : Int) := by omega
    have hsum := hz2 (by omega)
    have HNL := Lib.hid (show l.length ≤ 250 by have := HN.out; omega)
    have hn250 : n ≤ 250 := by have := HN.out; have := HNL.out; omega
    have HPS := Lib.hid (show ∀ E ∈ l, E.ps.length ≤ 1000000 from fun E hE => by have := esum_mem hE; omega)
    clear hz2 hsum hbig HS
    go_wp2_with fail
    go_loopw [5, 6] (fun bv iv wr => ∃ (b : Bool) (i : Nat), i ≤ n ∧ bv = .bool b ∧ iv = .int .i64 i ∧ Hid (b = false → ∀ p q, p < i → q < n → p ≠ q → ecmp (eat l p) (eat l q) ≠ 0) ∧ G w wr) (fun _ iv _ => n - (intOf iv).toNat)
    case atStart => exact ⟨false, 0, by omega, rfl, rfl, Lib.hid (fun _ p q h1 => by omega), hg0⟩
    case round =>
      obtain ⟨b, i, hin, rfl, rfl, HB, hg⟩ := hrel
      obtain ⟨WA, rfl⟩ : ∃ WA : World, WA = wr := ⟨_, rfl⟩
      by_cases hlt : i < n
      · have hltI : (i : Int) < (n : Int) := by omega
        go_wp2_with fail
        go_loopw [5, 7] (fun bv kv wr => ∃ (b : Bool) (k : Nat), k ≤ n ∧ bv = .bool b ∧ kv = .int .i64 k ∧ Hid (b = false → (∀ p q, p < i → q < n → p ≠ q → ecmp (eat l p) (eat l q) ≠ 0) ∧ (∀ q, q < k → i ≠ q → ecmp (eat l i) (eat l q) ≠ 0)) ∧ G WA wr) (fun _ kv _ => n - (intOf kv).toNat)
        case atStart => exact ⟨b, 0, by omega, rfl, rfl, Lib.hid (fun hb => ⟨HB.out hb, fun q h1 => by omega⟩), G.refl _⟩
        case round =>
          obtain ⟨b, k, hkn, rfl, rfl, HD, hga⟩ := hrel
          by_cases hlk : k < n
          · have hlkI : (k : Int) < (n : Int) := by omega
            have hgw := hg.trans hga
            have hA := eat_get (L := l) (k := i) (by rw [← HN.out]; exact hlt)
            have hB := eat_get (L := l) (k := k) (by rw [← HN.out]; exact hlk)
            obtain ⟨b1, o1, hp1, a0, a1, a2, a3, a4⟩ := (H.out.g hgw).at hA
            obtain ⟨b2, o2, hp2, u0, u1, u2, u3, u4⟩ := (H.out.g hgw).at hB
            subst hp1
            cases hp2
            have hea := ((H.out.g hgw).each _ (List.mem_of_getElem? hA)).isE
            have heb := ((H.out.g hgw).each _ (List.mem_of_getElem? hB)).isE
            have HAB := Lib.hid (fun X => ecmp_any (eat l i) (eat l k) X hea heb)
            have HBA := Lib.hid (fun X => ecmp_any (eat l k) (eat l i) X heb hea)
            have HLK := Lib.hid (fun X => like_any (eat l i) (eat l k) X hea heb)
            have HTH := Lib.hid (three (eat l i) (eat l k))
            have HSE := Lib.hid (show i = k → ecmp (eat l i) (eat l k) = 0 from fun e => by rw [e, ecmp_key]; exact good_key.self _)
            obtain ⟨pa, na, ca, hva⟩ := hea
            obtain ⟨pb, nb, cb, hvb⟩ := heb
            unfold ev at HAB HBA HLK
            unfold likeB at HLK
            rw [hva, hvb] at HAB HBA HLK
            rw [hva] at a4
            rw [hvb] at u4
            obtain ⟨x, hx⟩ : ∃ x, x = ecmp (eat l i) (eat l k) := ⟨_, rfl⟩
            obtain ⟨y, hy⟩ : ∃ y, y = ecmp (eat l k) (eat l i) := ⟨_, rfl⟩
            rw [← hx] at HAB HLK HTH HSE
            rw [← hy] at HBA HTH
            have HX := Lib.hid hx
            obtain ⟨A, hAe⟩ : ∃ A, A = eat l i := ⟨_, rfl⟩
            obtain ⟨B, hBe⟩ : ∃ B, B = eat l k := ⟨_, rfl⟩
            rw [← hAe] at a0 a1 a2 a3
            rw [← hAe, ← hBe] at HAB HBA HLK
            rw [← hBe] at u0 u1 u2 u3
            have HAe := Lib.hid hAe
            have HBe := Lib.hid hBe
            clear hA hB hva hvb hx hy hAe hBe hgw
            have hik : i = k ∨ i ≠ k := by omega
            go_upto_region 12 with fail
            obtain ⟨WD, hWD⟩ : ∃ WD : World, WD = wr.drew := ⟨_, rfl⟩
            have hsD : G wr WD := by rw [hWD]; exact (G.refl wr).drew
            refine region_hlW (fun w' => G wr w') 99 10 (by kernel_rfl) rfl ?_
            intro Q0 HQ0
            simp only [List.replicate_succ, List.replicate_zero]
            rw [← hWD]
            clear hWD
            refine hl_take_np 0 (by kernel_rfl) (by kernel_rfl) rfl (by kernel_rfl) hsD (v := ?_) ?_ ?_
            rotate_left
            · (rintro x hx; have k0 := hx.cell a0; have l0 := hx.cell u0; have k1 := hx.cell a1; have l1 := hx.cell u1; have k2 := hx.cell a2; have l2 := hx.cell u2; have k3 := hx.cell a3; have l3 := hx.cell u3; have k4 := hx.cell a4; have l4 := hx.cell u4; clear hx; go_simp; try rfl)
            simp only [Act.put, List.setIfInBounds_toArray, List.set_cons_zero, List.set_cons_succ]
            refine hl_take_np 1 (by kernel_rfl) (by kernel_rfl) rfl (by kernel_rfl) hsD (v := ?_) ?_ ?_
            rotate_left
            · (rintro x hx; have k0 := hx.cell a0; have l0 := hx.cell u0; have k1 := hx.cell a1; have l1 := hx.cell u1; have k2 := hx.cell a2; have l2 := hx.cell u2; have k3 := hx.cell a3; have l3 := hx.cell u3; have k4 := hx.cell a4; have l4 := hx.cell u4; clear hx; go_simp; try rfl)
            simp only [Act.put, List.setIfInBounds_toArray, List.set_cons_zero, List.set_cons_succ]
            refine hl_take_np 2 (by kernel_rfl) (by kernel_rfl) rfl (by kernel_rfl) hsD (v := ?_) ?_ ?_
            rotate_left
            · (rintro x hx; have k0 := hx.cell a0; have l0 := hx.cell u0; have k1 := hx.cell a1; have l1 := hx.cell u1; have k2 := hx.cell a2; have l2 := hx.cell u2; have k3 := hx.cell a3; have l3 := hx.cell u3; have k4 := hx.cell a4; have l4 := hx.cell u4; clear hx; go_simp; try rfl)
            simp only [Act.put, List.setIfInBounds_toArray, List.set_cons_zero, List.set_cons_succ]
            refine hl_take_np 3 (by kernel_rfl) (by kernel_rfl) rfl (by kernel_rfl) hsD (v := ?_) ?_ ?_
            rotate_left
            · (rintro x hx; have k0 := hx.cell a0; have l0 := hx.cell u0; have k1 := hx.cell a1; have l1 := hx.cell u1; have k2 := hx.cell a2; have l2 := hx.cell u2; have k3 := hx.cell a3; have l3 := hx.cell u3; have k4 := hx.cell a4; have l4 := hx.cell u4; clear hx; go_simp; try rfl)
            simp only [Act.put, List.setIfInBounds_toArray, List.set_cons_zero, List.set_cons_succ]
            refine hl_take_np 4 (by kernel_rfl) (by kernel_rfl) rfl (by kernel_rfl) hsD (v := ?_) ?_ ?_
            rotate_left
            · (rintro x hx; have k0 := hx.cell a0; have l0 := hx.cell u0; have k1 := hx.cell a1; have l1 := hx.cell u1; have k2 := hx.cell a2; have l2 := hx.cell u2; have k3 := hx.cell a3; have l3 := hx.cell u3; have k4 := hx.cell a4; have l4 := hx.cell u4; clear hx; go_simp; try rfl)
            simp only [Act.put, List.setIfInBounds_toArray, List.set_cons_zero, List.set_cons_succ]
            refine hl_take_np 5 (by kernel_rfl) (by kernel_rfl) rfl (by kernel_rfl) hsD (v := ?_) ?_ ?_
            rotate_left
            · (rintro x hx; have k0 := hx.cell a0; have l0 := hx.cell u0; have k1 := hx.cell a1; have l1 := hx.cell u1; have k2 := hx.cell a2; have l2 := hx.cell u2; have k3 := hx.cell a3; have l3 := hx.cell u3; have k4 := hx.cell a4; have l4 := hx.cell u4; clear hx; go_simp; try rfl)
            simp only [Act.put, List.setIfInBounds_toArray, List.set_cons_zero, List.set_cons_succ]
            refine hl_take_np 6 (by kernel_rfl) (by kernel_rfl) rfl (by kernel_rfl) hsD (v := ?_) ?_ ?_
            rotate_left
            · (rintro x hx; have k0 := hx.cell a0; have l0 := hx.cell u0; have k1 := hx.cell a1; have l1 := hx.cell u1; have k2 := hx.cell a2; have l2 := hx.cell u2; have k3 := hx.cell a3; have l3 := hx.cell u3; have k4 := hx.cell a4; have l4 := hx.cell u4; clear hx; go_simp; try rfl)
            simp only [Act.put, List.setIfInBounds_toArray, List.set_cons_zero, List.set_cons_succ]
            refine hl_take_np 7 (by kernel_rfl) (by kernel_rfl) rfl (by kernel_rfl) hsD (v := ?_) ?_ ?_
            rotate_left
            · (rintro x hx; have k0 := hx.cell a0; have l0 := hx.cell u0; have k1 := hx.cell a1; have l1 := hx.cell u1; have k2 := hx.cell a2; have l2 := hx.cell u2; have k3 := hx.cell a3; have l3 := hx.cell u3; have k4 := hx.cell a4; have l4 := hx.cell u4; clear hx; go_simp; try rfl)
            simp only [Act.put, List.setIfInBounds_toArray, List.set_cons_zero, List.set_cons_succ]
            refine hl_stepW 8 (by kernel_rfl) rfl (by kernel_rfl) ?_
            intro K hK
            go_simp
            refine (HAB.out WD).mono ?_
            rintro e W2 ⟨rfl, hgx⟩
            have hs2 : G wr W2 := hsD.trans hgx
            refine hK _ _ (fun _ => hs2) ?_
            clear hK K hgx
            simp only [Act.put, List.setIfInBounds_toArray, List.set_cons_zero, List.set_cons_succ]
            refine hl_take_np 9 (by kernel_rfl) (by kernel_rfl) rfl (by kernel_rfl) hs2 (v := ?_) ?_ ?_
            rotate_left
            · (rintro x hx; clear hx; go_simp; try rfl)
            simp only [Act.put, List.setIfInBounds_toArray, List.set_cons_zero, List.set_cons_succ]
            refine hl_done (by kernel_rfl) ?_ _
            refine NoPanic.normal (HQ0.out _ _ ?_)
            clear HQ0
            have a0 := hs2.cell a0
            have u0 := hs2.cell u0
            have a1 := hs2.cell a1
            have u1 := hs2.cell u1
            have a2 := hs2.cell a2
            have u2 := hs2.cell u2
            have a3 := hs2.cell a3
            have u3 := hs2.cell u3
            have a4 := hs2.cell a4
            have u4 := hs2.cell u4
            have HGA := Lib.hid (hga.trans hs2)
            clear hsD hs2 hga HAB
            rcases (show (i ≠ k ∧ x = 0 ∧ y = 0) ∨ (i ≠ k ∧ x = -1 ∧ y = 1) ∨ (i ≠ k ∧ x = 1 ∧ y = -1) ∨ (i = k ∧ x = 0 ∧ y = 0) from by
              have h1 := HTH.out
              have h2 := HSE.out
              omega) with ⟨h1, rfl, rfl⟩ | ⟨h1, rfl, rfl⟩ | ⟨h1, rfl, rfl⟩ | ⟨h1, rfl, rfl⟩
            · have hneI : ((i : Int) == (k : Int)) = false := by simp; omega
              have hneJ : ((i : Int) != (k : Int)) = true := by simp; omega
              have hneK : ¬ i = k := h1
              have hw0 : IntKind.i64.wrap (-(0 : Int)) = 0 := by decide
              have hw1 : IntKind.i64.wrap (0 : Int) = 0 := by decide
              have hneL : (¬ (i : Int) = (k : Int)) := by omega
              rw [show decide ((0 : Int) = 0) = true from by decide] at HLK
              clear HTH HSE
              go_upto_region 13 with fail
              obtain ⟨WD, hWD⟩ : ∃ WD : World, WD = W2.drew := ⟨_, rfl⟩
              have hsD : G W2 WD := by rw [hWD]; exact (G.refl W2).drew
              refine region_hlW (fun w' => G W2 w') 99 35 (by kernel_rfl) rfl ?_
              intro Q0 HQ0
              simp only [List.replicate_succ, List.replicate_zero]
              rw [← hWD]
              clear hWD
              refine hl_take_np 0 (by kernel_rfl) (by kernel_rfl) rfl (by kernel_rfl) hsD (v := ?_) ?_ ?_
              rotate_left
              · (rintro x hx; have k0 := hx.cell a0; have l0 := hx.cell u0; have k1 := hx.cell a1; have l1 := hx.cell u1; have k2 := hx.cell a2; have l2 := hx.cell u2; have k3 := hx.cell a3; have l3 := hx.cell u3; have k4 := hx.cell a4; have l4 := hx.cell u4; clear hx; go_simp; try rfl)
              simp only [Act.put, List.setIfInBounds_toArray, List.set_cons_zero, List.set_cons_succ]
              refine hl_take_np 1 (by kernel_rfl) (by kernel_rfl) rfl (by kernel_rfl) hsD (v := ?_) ?_ ?_
              rotate_left
              · (rintro x hx; have k0 := hx.cell a0; have l0 := hx.cell u0; have k1 := hx.cell a1; have l1 := hx.cell u1; have k2 := hx.cell a2; have l2 := hx.cell u2; have k3 := hx.cell a3; have l3 := hx.cell u3; have k4 := hx.cell a4; have l4 := hx.cell u4; clear hx; go_simp; try rfl)
              simp only [Act.put, List.setIfInBounds_toArray, List.set_cons_zero, List.set_cons_succ]
              refine hl_take_np 2 (by kernel_rfl) (by kernel_rfl) rfl (by kernel_rfl) hsD (v := ?_) ?_ ?_
              rotate_left
              · (rintro x hx; have k0 := hx.cell a0; have l0 := hx.cell u0; have k1 := hx.cell a1; have l1 := hx.cell u1; have k2 := hx.cell a2; have l2 := hx.cell u2; have k3 := hx.cell a3; have l3 := hx.cell u3; have k4 := hx.cell a4; have l4 := hx.cell u4; clear hx; go_simp; try rfl)
              simp only [Act.put, List.setIfInBounds_toArray, List.set_cons_zero, List.set_cons_succ]
              refine hl_take_np 3 (by kernel_rfl) (by kernel_rfl) rfl (by kernel_rfl) hsD (v := ?_) ?_ ?_
              rotate_left
              · (rintro x hx; have k0 := hx.cell a0; have l0 := hx.cell u0; have k1 := hx.cell a1; have l1 := hx.cell u1; have k2 := hx.cell a2; have l2 := hx.cell u2; have k3 := hx.cell a3; have l3 := hx.cell u3; have k4 := hx.cell a4; have l4 := hx.cell u4; clear hx; go_simp; try rfl)
              simp only [Act.put, List.setIfInBounds_toArray, List.set_cons_zero, List.set_cons_succ]
              refine hl_take_np 4 (by kernel_rfl) (by kernel_rfl) rfl (by kernel_rfl) hsD (v := ?_) ?_ ?_
              rotate_left
              · (rintro x hx; have k0 := hx.cell a0; have l0 := hx.cell u0; have k1 := hx.cell a1; have l1 := hx.cell u1; have k2 := hx.cell a2; have l2 := hx.cell u2; have k3 := hx.cell a3; have l3 := hx.cell u3; have k4 := hx.cell a4; have l4 := hx.cell u4; clear hx; go_simp; try rfl)
              simp only [Act.put, List.setIfInBounds_toArray, List.set_cons_zero, List.set_cons_succ]
              refine hl_take_np 5 (by kernel_rfl) (by kernel_rfl) rfl (by kernel_rfl) hsD (v := ?_) ?_ ?_
              rotate_left
              · (rintro x hx; have k0 := hx.cell a0; have l0 := hx.cell u0; have k1 := hx.cell a1; have l1 := hx.cell u1; have k2 := hx.cell a2; have l2 := hx.cell u2; have k3 := hx.cell a3; have l3 := hx.cell u3; have k4 := hx.cell a4; have l4 := hx.cell u4; clear hx; go_simp; try rfl)
              simp only [Act.put, List.setIfInBounds_toArray, List.set_cons_zero, List.set_cons_succ]
              refine hl_take_np 6 (by kernel_rfl) (by kernel_rfl) rfl (by kernel_rfl) hsD (v := ?_) ?_ ?_
              rotate_left
              · (rintro x hx; have k0 := hx.cell a0; have l0 := hx.cell u0; have k1 := hx.cell a1; have l1 := hx.cell u1; have k2 := hx.cell a2; have l2 := hx.cell u2; have k3 := hx.cell a3; have l3 := hx.cell u3; have k4 := hx.cell a4; have l4 := hx.cell u4; clear hx; go_simp; try rfl)
              simp only [Act.put, List.setIfInBounds_toArray, List.set_cons_zero, List.set_cons_succ]
              refine hl_take_np 7 (by kernel_rfl) (by kernel_rfl) rfl (by kernel_rfl) hsD (v := ?_) ?_ ?_
              rotate_left
              · (rintro x hx; have k0 := hx.cell a0; have l0 := hx.cell u0; have k1 := hx.cell a1; have l1 := hx.cell u1; have k2 := hx.cell a2; have l2 := hx.cell u2; have k3 := hx.cell a3; have l3 := hx.cell u3; have k4 := hx.cell a4; have l4 := hx.cell u4; clear hx; go_simp; try rfl)
              simp only [Act.put, List.setIfInBounds_toArray, List.set_cons_zero, List.set_cons_succ]
              refine hl_take_np 8 (by kernel_rfl) (by kernel_rfl) rfl (by kernel_rfl) hsD (v := ?_) ?_ ?_
              rotate_left
              · (rintro x hx; have k0 := hx.cell a0; have l0 := hx.cell u0; have k1 := hx.cell a1; have l1 := hx.cell u1; have k2 := hx.cell a2; have l2 := hx.cell u2; have k3 := hx.cell a3; have l3 := hx.cell u3; have k4 := hx.cell a4; have l4 := hx.cell u4; clear hx; go_simp; try rfl)
              simp only [Act.put, List.setIfInBounds_toArray, List.set_cons_zero, List.set_cons_succ]
              refine hl_stepW 9 (by kernel_rfl) rfl (by kernel_rfl) ?_
              intro K hK
              go_simp
              refine (HBA.out WD).mono ?_
              rintro e W3 ⟨rfl, hgx⟩
              have hs2 : G W2 W3 := hsD.trans hgx
              refine hK _ _ (fun _ => hs2) ?_
              clear hK K hgx
              simp only [Act.put, List.setIfInBounds_toArray, List.set_cons_zero, List.set_cons_succ]
              refine hl_take_np 10 (by kernel_rfl) (by kernel_rfl) rfl (by kernel_rfl) hs2 (v := ?_) ?_ ?_
              rotate_left
              · (rintro x hx; have k0 := hx.cell a0; have l0 := hx.cell u0; have k1 := hx.cell a1; have l1 := hx.cell u1; have k2 := hx.cell a2; have l2 := hx.cell u2; have k3 := hx.cell a3; have l3 := hx.cell u3; have k4 := hx.cell a4; have l4 := hx.cell u4; clear hx; go_simp; try rfl)
              simp only [Act.put, List.setIfInBounds_toArray, List.set_cons_zero, List.set_cons_succ]
              refine hl_take_np 11 (by kernel_rfl) (by kernel_rfl) rfl (by kernel_rfl) hs2 (v := ?_) ?_ ?_
              rotate_left
              · (rintro x hx; have k0 := hx.cell a0; have l0 := hx.cell u0; have k1 := hx.cell a1; have l1 := hx.cell u1; have k2 := hx.cell a2; have l2 := hx.cell u2; have k3 := hx.cell a3; have l3 := hx.cell u3; have k4 := hx.cell a4; have l4 := hx.cell u4; clear hx; go_simp; try rfl)
              simp only [Act.put, List.setIfInBounds_toArray, List.set_cons_zero, List.set_cons_succ]
              refine hl_take_np 12 (by kernel_rfl) (by kernel_rfl) rfl (by kernel_rfl) hs2 (v := ?_) ?_ ?_
              rotate_left
              · (rintro x hx; have k0 := hx.cell a0; have l0 := hx.cell u0; have k1 := hx.cell a1; have l1 := hx.cell u1; have k2 := hx.cell a2; have l2 := hx.cell u2; have k3 := hx.cell a3; have l3 := hx.cell u3; have k4 := hx.cell a4; have l4 := hx.cell u4; clear hx; go_simp; try rfl)
              simp only [Act.put, List.setIfInBounds_toArray, List.set_cons_zero, List.set_cons_succ]
              refine hl_take_np 13 (by kernel_rfl) (by kernel_rfl) rfl (by kernel_rfl) hs2 (v := ?_) ?_ ?_
              rotate_left
              · (rintro x hx; have k0 := hx.cell a0; have l0 := hx.cell u0; have k1 := hx.cell a1; have l1 := hx.cell u1; have k2 := hx.cell a2; have l2 := hx.cell u2; have k3 := hx.cell a3; have l3 := hx.cell u3; have k4 := hx.cell a4; have l4 := hx.cell u4; clear hx; go_simp; try rfl)
              simp only [Act.put, List.setIfInBounds_toArray, List.set_cons_zero, List.set_cons_succ]
              refine hl_take_np 14 (by kernel_rfl) (by kernel_rfl) rfl (by kernel_rfl) hs2 (v := ?_) ?_ ?_
              rotate_left
              · (rintro x hx; have k0 := hx.cell a0; have l0 := hx.cell u0; have k1 := hx.cell a1; have l1 := hx.cell u1; have k2 := hx.cell a2; have l2 := hx.cell u2; have k3 := hx.cell a3; have l3 := hx.cell u3; have k4 := hx.cell a4; have l4 := hx.cell u4; clear hx; go_simp; try rfl)
              simp only [Act.put, List.setIfInBounds_toArray, List.set_cons_zero, List.set_cons_succ]
              refine hl_take_np 15 (by kernel_rfl) (by kernel_rfl) rfl (by kernel_rfl) hs2 (v := ?_) ?_ ?_
              rotate_left
              · (rintro x hx; have k0 := hx.cell a0; have l0 := hx.cell u0; have k1 := hx.cell a1; have l1 := hx.cell u1; have k2 := hx.cell a2; have l2 := hx.cell u2; have k3 := hx.cell a3; have l3 := hx.cell u3; have k4 := hx.cell a4; have l4 := hx.cell u4; clear hx; go_simp; try rfl)
              simp only [Act.put, List.setIfInBounds_toArray, List.set_cons_zero, List.set_cons_succ]
              refine hl_take_np 16 (by kernel_rfl) (by kernel_rfl) rfl (by kernel_rfl) hs2 (v := ?_) ?_ ?_
              rotate_left
              · (rintro x hx; have k0 := hx.cell a0; have l0 := hx.cell u0; have k1 := hx.cell a1; have l1 := hx.cell u1; have k2 := hx.cell a2; have l2 := hx.cell u2; have k3 := hx.cell a3; have l3 := hx.cell u3; have k4 := hx.cell a4; have l4 := hx.cell u4; clear hx; go_simp; try rfl)
              simp only [Act.put, List.setIfInBounds_toArray, List.set_cons_zero, List.set_cons_succ]
              refine hl_take_np 17 (by kernel_rfl) (by kernel_rfl) rfl (by kernel_rfl) hs2 (v := ?_) ?_ ?_
              rotate_left
              · (rintro x hx; have k0 := hx.cell a0; have l0 := hx.cell u0; have k1 := hx.cell a1; have l1 := hx.cell u1; have k2 := hx.cell a2; have l2 := hx.cell u2; have k3 := hx.cell a3; have l3 := hx.cell u3; have k4 := hx.cell a4; have l4 := hx.cell u4; clear hx; go_simp; try rfl)
              simp only [Act.put, List.setIfInBounds_toArray, List.set_cons_zero, List.set_cons_succ]
              refine hl_take_np 18 (by kernel_rfl) (by kernel_rfl) rfl (by kernel_rfl) hs2 (v := ?_) ?_ ?_
              rotate_left
              · (rintro x hx; have k0 := hx.cell a0; have l0 := hx.cell u0; have k1 := hx.cell a1; have l1 := hx.cell u1; have k2 := hx.cell a2; have l2 := hx.cell u2; have k3 := hx.cell a3; have l3 := hx.cell u3; have k4 := hx.cell a4; have l4 := hx.cell u4; clear hx; go_simp; try rfl)
              simp only [Act.put, List.setIfInBounds_toArray, List.set_cons_zero, List.set_cons_succ]
              refine hl_take_np 19 (by kernel_rfl) (by kernel_rfl) rfl (by kernel_rfl) hs2 (v := ?_) ?_ ?_
              rotate_left
              · (rintro x hx; have k0 := hx.cell a0; have l0 := hx.cell u0; have k1 := hx.cell a1; have l1 := hx.cell u1; have k2 := hx.cell a2; have l2 := hx.cell u2; have k3 := hx.cell a3; have l3 := hx.cell u3; have k4 := hx.cell a4; have l4 := hx.cell u4; clear hx; go_simp; try rfl)
              simp only [Act.put, List.setIfInBounds_toArray, List.set_cons_zero, List.set_cons_succ]
              refine hl_take_np 20 (by kernel_rfl) (by kernel_rfl) rfl (by kernel_rfl) hs2 (v := ?_) ?_ ?_
              rotate_left
              · (rintro x hx; have k0 := hx.cell a0; have l0 := hx.cell u0; have k1 := hx.cell a1; have l1 := hx.cell u1; have k2 := hx.cell a2; have l2 := hx.cell u2; have k3 := hx.cell a3; have l3 := hx.cell u3; have k4 := hx.cell a4; have l4 := hx.cell u4; clear hx; go_simp; try rfl)
              simp only [Act.put, List.setIfInBounds_toArray, List.set_cons_zero, List.set_cons_succ]
              refine hl_take_np 21 (by kernel_rfl) (by kernel_rfl) rfl (by kernel_rfl) hs2 (v := ?_) ?_ ?_
              rotate_left
              · (rintro x hx; have k0 := hx.cell a0; have l0 := hx.cell u0; have k1 := hx.cell a1; have l1 := hx.cell u1; have k2 := hx.cell a2; have l2 := hx.cell u2; have k3 := hx.cell a3; have l3 := hx.cell u3; have k4 := hx.cell a4; have l4 := hx.cell u4; clear hx; go_simp; try rfl)
              simp only [Act.put, List.setIfInBounds_toArray, List.set_cons_zero, List.set_cons_succ]
              refine hl_take_np 22 (by kernel_rfl) (by kernel_rfl) rfl (by kernel_rfl) hs2 (v := ?_) ?_ ?_
              rotate_left
              · (rintro x hx; have k0 := hx.cell a0; have l0 := hx.cell u0; have k1 := hx.cell a1; have l1 := hx.cell u1; have k2 := hx.cell a2; have l2 := hx.cell u2; have k3 := hx.cell a3; have l3 := hx.cell u3; have k4 := hx.cell a4; have l4 := hx.cell u4; clear hx; go_simp; try rfl)
              simp only [Act.put, List.setIfInBounds_toArray, List.set_cons_zero, List.set_cons_succ]
              refine hl_stepW 23 (by kernel_rfl) rfl (by kernel_rfl) ?_
              intro K hK
              go_simp
              refine (HLK.out W3).mono ?_
              rintro e W4 ⟨rfl, hgx⟩
              have hs3 : G W2 W4 := hs2.trans hgx
              refine hK _ _ (fun _ => hs3) ?_
              clear hK K hgx
              simp only [Act.put, List.setIfInBounds_toArray, List.set_cons_zero, List.set_cons_succ]
              clear a0 a1 a2 a3 a4 u0 u1 u2 u3 u4
              refine hl_take_np 24 (by kernel_rfl) (by kernel_rfl) rfl (by kernel_rfl) hs3 (v := ?_) ?_ ?_
              rotate_left
              · (rintro x hx; clear hx; go_simp; try rfl)
              simp only [Act.put, List.setIfInBounds_toArray, List.set_cons_zero, List.set_cons_succ]
              refine hl_take_np 25 (by kernel_rfl) (by kernel_rfl) rfl (by kernel_rfl) hs3 (v := ?_) ?_ ?_
              rotate_left
              · (rintro x hx; clear hx; go_simp; try rfl)
              simp only [Act.put, List.setIfInBounds_toArray, List.set_cons_zero, List.set_cons_succ]
              refine hl_take_np 26 (by kernel_rfl) (by kernel_rfl) rfl (by kernel_rfl) hs3 (v := ?_) ?_ ?_
              rotate_left
              · (rintro x hx; clear hx; go_simp; try rfl)
              simp only [Act.put, List.setIfInBounds_toArray, List.set_cons_zero, List.set_cons_succ]
              refine hl_take_np 27 (by kernel_rfl) (by kernel_rfl) rfl (by kernel_rfl) hs3 (v := ?_) ?_ ?_
              rotate_left
              · (rintro x hx; clear hx; go_simp; try rfl)
              simp only [Act.put, List.setIfInBounds_toArray, List.set_cons_zero, List.set_cons_succ]
              refine hl_take_np 28 (by kernel_rfl) (by kernel_rfl) rfl (by kernel_rfl) hs3 (v := ?_) ?_ ?_
              rotate_left
              · (rintro x hx; clear hx; go_simp; try rfl)
              simp only [Act.put, List.setIfInBounds_toArray, List.set_cons_zero, List.set_cons_succ]
              refine hl_take_np 29 (by kernel_rfl) (by kernel_rfl) rfl (by kernel_rfl) hs3 (v := ?_) ?_ ?_
              rotate_left
              · (rintro x hx; clear hx; go_simp; try rfl)
              simp only [Act.put, List.setIfInBounds_toArray, List.set_cons_zero, List.set_cons_succ]
              refine hl_take_np 30 (by kernel_rfl) (by kernel_rfl) rfl (by kernel_rfl) hs3 (v := ?_) ?_ ?_
              rotate_left
              · (rintro x hx; clear hx; go_simp; try rfl)
              simp only [Act.put, List.setIfInBounds_toArray, List.set_cons_zero, List.set_cons_succ]
              refine hl_skip_np 31 (by kernel_rfl) (by kernel_rfl) rfl (by kernel_rfl) hs3 ?_
              simp only [Act.put, List.setIfInBounds_toArray, List.set_cons_zero, List.set_cons_succ]
              refine hl_skip_np 32 (by kernel_rfl) (by kernel_rfl) rfl (by kernel_rfl) hs3 ?_
              simp only [Act.put, List.setIfInBounds_toArray, List.set_cons_zero, List.set_cons_succ]
              refine hl_take_np 33 (by kernel_rfl) (by kernel_rfl) rfl (by kernel_rfl) hs3 (v := ?_) ?_ ?_
              rotate_left
              · (rintro x hx; clear hx; go_simp; try rfl)
              simp only [Act.put, List.setIfInBounds_toArray, List.set_cons_zero, List.set_cons_succ]
              refine hl_take_np 34 (by kernel_rfl) (by kernel_rfl) rfl (by kernel_rfl) hs3 (v := ?_) ?_ ?_
              rotate_left
              · (rintro x hx; clear hx; go_simp; try rfl)
              simp only [Act.put, List.setIfInBounds_toArray, List.set_cons_zero, List.set_cons_succ]
              refine hl_done (by kernel_rfl) ?_ _
              refine NoPanic.normal (HQ0.out _ _ ?_)
              clear HQ0
              have HGB := Lib.hid (HGA.out.trans hs3)
              clear hsD hs2 hs3 HBA HLK HGA
              cases b
              · go_wp2_with fail
                go_roundw
                case rel => exact ⟨true, k + 1, by omega, rfl, by go_num, Lib.hid (fun hb => by cases hb), HGB.out⟩
                case measure => simp [intOf]; omega
              · go_wp2_with fail
                go_roundw
                case rel => exact ⟨true, k + 1, by omega, rfl, by go_num, Lib.hid (fun hb => by cases hb), HGB.out⟩
                case measure => simp [intOf]; omega
            · have hneI : ((i : Int) == (k : Int)) = false := by simp; omega
              have hneJ : ((i : Int) != (k : Int)) = true := by simp; omega
              have hneK : ¬ i = k := h1
              have hw0 : IntKind.i64.wrap (-(1 : Int)) = -1 := by decide
              have hw1 : IntKind.i64.wrap (-1 : Int) = -1 := by decide
              have hneL : (¬ (i : Int) = (k : Int)) := by omega
              rw [show decide ((-1 : Int) = 0) = false from by decide] at HLK
              clear HTH HSE
              go_upto_region 13 with fail
              obtain ⟨WD, hWD⟩ : ∃ WD : World, WD = W2.drew := ⟨_, rfl⟩
              have hsD : G W2 WD := by rw [hWD]; exact (G.refl W2).drew
              refine region_hlW (fun w' => G W2 w') 99 35 (by kernel_rfl) rfl ?_
              intro Q0 HQ0
              simp only [List.replicate_succ, List.replicate_zero]
              rw [← hWD]
              clear hWD
              refine hl_take_np 0 (by kernel_rfl) (by kernel_rfl) rfl (by kernel_rfl) hsD (v := ?_) ?_ ?_
              rotate_left
              · (rintro x hx; have k0 := hx.cell a0; have l0 := hx.cell u0; have k1 := hx.cell a1; have l1 := hx.cell u1; have k2 := hx.cell a2; have l2 := hx.cell u2; have k3 := hx.cell a3; have l3 := hx.cell u3; have k4 := hx.cell a4; have l4 := hx.cell u4; clear hx; go_simp; try rfl)
              simp only [Act.put, List.setIfInBounds_toArray, List.set_cons_zero, List.set_cons_succ]
              refine hl_take_np 1 (by kernel_rfl) (by kernel_rfl) rfl (by kernel_rfl) hsD (v := ?_) ?_ ?_
              rotate_left
              · (rintro x hx; have k0 := hx.cell a0; have l0 := hx.cell u0; have k1 := hx.cell a1; have l1 := hx.cell u1; have k2 := hx.cell a2; have l2 := hx.cell u2; have k3 := hx.cell a3; have l3 := hx.cell u3; have k4 := hx.cell a4; have l4 := hx.cell u4; clear hx; go_simp; try rfl)
              simp only [Act.put, List.setIfInBounds_toArray, List.set_cons_zero, List.set_cons_succ]
              refine hl_take_np 2 (by kernel_rfl) (by kernel_rfl) rfl (by kernel_rfl) hsD (v := ?_) ?_ ?_
              rotate_left
              · (rintro x hx; have k0 := hx.cell a0; have l0 := hx.cell u0; have k1 := hx.cell a1; have l1 := hx.cell u1; have k2 := hx.cell a2; have l2 := hx.cell u2; have k3 := hx.cell a3; have l3 := hx.cell u3; have k4 := hx.cell a4; have l4 := hx.cell u4; clear hx; go_simp; try rfl)
              simp only [Act.put, List.setIfInBounds_toArray, List.set_cons_zero, List.set_cons_succ]
              refine hl_take_np 3 (by kernel_rfl) (by kernel_rfl) rfl (by kernel_rfl) hsD (v := ?_) ?_ ?_
              rotate_left
              · (rintro x hx; have k0 := hx.cell a0; have l0 := hx.cell u0; have k1 := hx.cell a1; have l1 := hx.cell u1; have k2 := hx.cell a2; have l2 := hx.cell u2; have k3 := hx.cell a3; have l3 := hx.cell u3; have k4 := hx.cell a4; have l4 := hx.cell u4; clear hx; go_simp; try rfl)
              simp only [Act.put, List.setIfInBounds_toArray, List.set_cons_zero, List.set_cons_succ]
              refine hl_take_np 4 (by kernel_rfl) (by kernel_rfl) rfl (by kernel_rfl) hsD (v := ?_) ?_ ?_
              rotate_left
              · (rintro x hx; have k0 := hx.cell a0; have l0 := hx.cell u0; have k1 := hx.cell a1; have l1 := hx.cell u1; have k2 := hx.cell a2; have l2 := hx.cell u2; have k3 := hx.cell a3; have l3 := hx.cell u3; have k4 := hx.cell a4; have l4 := hx.cell u4; clear hx; go_simp; try rfl)
              simp only [Act.put, List.setIfInBounds_toArray, List.set_cons_zero, List.set_cons_succ]
              refine hl_take_np 5 (by kernel_rfl) (by kernel_rfl) rfl (by kernel_rfl) hsD (v := ?_) ?_ ?_
              rotate_left
              · (rintro x hx; have k0 := hx.cell a0; have l0 := hx.cell u0; have k1 := hx.cell a1; have l1 := hx.cell u1; have k2 := hx.cell a2; have l2 := hx.cell u2; have k3 := hx.cell a3; have l3 := hx.cell u3; have k4 := hx.cell a4; have l4 := hx.cell u4; clear hx; go_simp; try rfl)
              simp only [Act.put, List.setIfInBounds_toArray, List.set_cons_zero, List.set_cons_succ]
              refine hl_take_np 6 (by kernel_rfl) (by kernel_rfl) rfl (by kernel_rfl) hsD (v := ?_) ?_ ?_
              rotate_left
              · (rintro x hx; have k0 := hx.cell a0; have l0 := hx.cell u0; have k1 := hx.cell a1; have l1 := hx.cell u1; have k2 := hx.cell a2; have l2 := hx.cell u2; have k3 := hx.cell a3; have l3 := hx.cell u3; have k4 := hx.cell a4; have l4 := hx.cell u4; clear hx; go_simp; try rfl)
              simp only [Act.put, List.setIfInBounds_toArray, List.set_cons_zero, List.set_cons_succ]
              refine hl_take_np 7 (by kernel_rfl) (by kernel_rfl) rfl (by kernel_rfl) hsD (v := ?_) ?_ ?_
              rotate_left
              · (rintro x hx; have k0 := hx.cell a0; have l0 := hx.cell u0; have k1 := hx.cell a1; have l1 := hx.cell u1; have k2 := hx.cell a2; have l2 := hx.cell u2; have k3 := hx.cell a3; have l3 := hx.cell u3; have k4 := hx.cell a4; have l4 := hx.cell u4; clear hx; go_simp; try rfl)
              simp only [Act.put, List.setIfInBounds_toArray, List.set_cons_zero, List.set_cons_succ]
              refine hl_take_np 8 (by kernel_rfl) (by kernel_rfl) rfl (by kernel_rfl) hsD (v := ?_) ?_ ?_
              rotate_left
              · (rintro x hx; have k0 := hx.cell a0; have l0 := hx.cell u0; have k1 := hx.cell a1; have l1 := hx.cell u1; have k2 := hx.cell a2; have l2 := hx.cell u2; have k3 := hx.cell a3; have l3 := hx.cell u3; have k4 := hx.cell a4; have l4 := hx.cell u4; clear hx; go_simp; try rfl)
              simp only [Act.put, List.setIfInBounds_toArray, List.set_cons_zero, List.set_cons_succ]
              refine hl_stepW 9 (by kernel_rfl) rfl (by kernel_rfl) ?_
              intro K hK
              go_simp
              refine (HBA.out WD).mono ?_
              rintro e W3 ⟨rfl, hgx⟩
              have hs2 : G W2 W3 := hsD.trans hgx
              refine hK _ _ (fun _ => hs2) ?_
              clear hK K hgx
              simp only [Act.put, List.setIfInBounds_toArray, List.set_cons_zero, List.set_cons_succ]
              refine hl_take_np 10 (by kernel_rfl) (by kernel_rfl) rfl (by kernel_rfl) hs2 (v := ?_) ?_ ?_
              rotate_left
              · (rintro x hx; have k0 := hx.cell a0; have l0 := hx.cell u0; have k1 := hx.cell a1; have l1 := hx.cell u1; have k2 := hx.cell a2; have l2 := hx.cell u2; have k3 := hx.cell a3; have l3 := hx.cell u3; have k4 := hx.cell a4; have l4 := hx.cell u4; clear hx; go_simp; try rfl)
              simp only [Act.put, List.setIfInBounds_toArray, List.set_cons_zero, List.set_cons_succ]
              refine hl_take_np 11 (by kernel_rfl) (by kernel_rfl) rfl (by kernel_rfl) hs2 (v := ?_) ?_ ?_
              rotate_left
              · (rintro x hx; have k0 := hx.cell a0; have l0 := hx.cell u0; have k1 := hx.cell a1; have l1 := hx.cell u1; have k2 := hx.cell a2; have l2 := hx.cell u2; have k3 := hx.cell a3; have l3 := hx.cell u3; have k4 := hx.cell a4; have l4 := hx.cell u4; clear hx; go_simp; try rfl)
              simp only [Act.put, List.setIfInBounds_toArray, List.set_cons_zero, List.set_cons_succ]
              refine hl_take_np 12 (by kernel_rfl) (by kernel_rfl) rfl (by kernel_rfl) hs2 (v := ?_) ?_ ?_
              rotate_left
              · (rintro x hx; have k0 := hx.cell a0; have l0 := hx.cell u0; have k1 := hx.cell a1; have l1 := hx.cell u1; have k2 := hx.cell a2; have l2 := hx.cell u2; have k3 := hx.cell a3; have l3 := hx.cell u3; have k4 := hx.cell a4; have l4 := hx.cell u4; clear hx; go_simp; try rfl)
              simp only [Act.put, List.setIfInBounds_toArray, List.set_cons_zero, List.set_cons_succ]
              refine hl_take_np 13 (by kernel_rfl) (by kernel_rfl) rfl (by kernel_rfl) hs2 (v := ?_) ?_ ?_
              rotate_left
              · (rintro x hx; have k0 := hx.cell a0; have l0 := hx.cell u0; have k1 := hx.cell a1; have l1 := hx.cell u1; have k2 := hx.cell a2; have l2 := hx.cell u2; have k3 := hx.cell a3; have l3 := hx.cell u3; have k4 := hx.cell a4; have l4 := hx.cell u4; clear hx; go_simp; try rfl)
              simp only [Act.put, List.setIfInBounds_toArray, List.set_cons_zero, List.set_cons_succ]
              refine hl_take_np 14 (by kernel_rfl) (by kernel_rfl) rfl (by kernel_rfl) hs2 (v := ?_) ?_ ?_
              rotate_left
              · (rintro x hx; have k0 := hx.cell a0; have l0 := hx.cell u0; have k1 := hx.cell a1; have l1 := hx.cell u1; have k2 := hx.cell a2; have l2 := hx.cell u2; have k3 := hx.cell a3; have l3 := hx.cell u3; have k4 := hx.cell a4; have l4 := hx.cell u4; clear hx; go_simp; try rfl)
              simp only [Act.put, List.setIfInBounds_toArray, List.set_cons_zero, List.set_cons_succ]
              refine hl_take_np 15 (by kernel_rfl) (by kernel_rfl) rfl (by kernel_rfl) hs2 (v := ?_) ?_ ?_
              rotate_left
              · (rintro x hx; have k0 := hx.cell a0; have l0 := hx.cell u0; have k1 := hx.cell a1; have l1 := hx.cell u1; have k2 := hx.cell a2; have l2 := hx.cell u2; have k3 := hx.cell a3; have l3 := hx.cell u3; have k4 := hx.cell a4; have l4 := hx.cell u4; clear hx; go_simp; try rfl)
              simp only [Act.put, List.setIfInBounds_toArray, List.set_cons_zero, List.set_cons_succ]
              refine hl_take_np 16 (by kernel_rfl) (by kernel_rfl) rfl (by kernel_rfl) hs2 (v := ?_) ?_ ?_
              rotate_left
              · (rintro x hx; have k0 := hx.cell a0; have l0 := hx.cell u0; have k1 := hx.cell a1; have l1 := hx.cell u1; have k2 := hx.cell a2; have l2 := hx.cell u2; have k3 := hx.cell a3; have l3 := hx.cell u3; have k4 := hx.cell a4; have l4 := hx.cell u4; clear hx; go_simp; try rfl)
              simp only [Act.put, List.setIfInBounds_toArray, List.set_cons_zero, List.set_cons_succ]
              refine hl_take_np 17 (by kernel_rfl) (by kernel_rfl) rfl (by kernel_rfl) hs2 (v := ?_) ?_ ?_
              rotate_left
              · (rintro x hx; have k0 := hx.cell a0; have l0 := hx.cell u0; have k1 := hx.cell a1; have l1 := hx.cell u1; have k2 := hx.cell a2; have l2 := hx.cell u2; have k3 := hx.cell a3; have l3 := hx.cell u3; have k4 := hx.cell a4; have l4 := hx.cell u4; clear hx; go_simp; try rfl)
              simp only [Act.put, List.setIfInBounds_toArray, List.set_cons_zero, List.set_cons_succ]
              refine hl_take_np 18 (by kernel_rfl) (by kernel_rfl) rfl (by kernel_rfl) hs2 (v := ?_) ?_ ?_
              rotate_left
              · (rintro x hx; have k0 := hx.cell a0; have l0 := hx.cell u0; have k1 := hx.cell a1; have l1 := hx.cell u1; have k2 := hx.cell a2; have l2 := hx.cell u2; have k3 := hx.cell a3; have l3 := hx.cell u3; have k4 := hx.cell a4; have l4 := hx.cell u4; clear hx; go_simp; try rfl)
              simp only [Act.put, List.setIfInBounds_toArray, List.set_cons_zero, List.set_cons_succ]
              refine hl_take_np 19 (by kernel_rfl) (by kernel_rfl) rfl (by kernel_rfl) hs2 (v := ?_) ?_ ?_
              rotate_left
              · (rintro x hx; have k0 := hx.cell a0; have l0 := hx.cell u0; have k1 := hx.cell a1; have l1 := hx.cell u1; have k2 := hx.cell a2; have l2 := hx.cell u2; have k3 := hx.cell a3; have l3 := hx.cell u3; have k4 := hx.cell a4; have l4 := hx.cell u4; clear hx; go_simp; try rfl)
              simp only [Act.put, List.setIfInBounds_toArray, List.set_cons_zero, List.set_cons_succ]
              refine hl_take_np 20 (by kernel_rfl) (by kernel_rfl) rfl (by kernel_rfl) hs2 (v := ?_) ?_ ?_
              rotate_left
              · (rintro x hx; have k0 := hx.cell a0; have l0 := hx.cell u0; have k1 := hx.cell a1; have l1 := hx.cell u1; have k2 := hx.cell a2; have l2 := hx.cell u2; have k3 := hx.cell a3; have l3 := hx.cell u3; have k4 := hx.cell a4; have l4 := hx.cell u4; clear hx; go_simp; try rfl)
              simp only [Act.put, List.setIfInBounds_toArray, List.set_cons_zero, List.set_cons_succ]
              refine hl_take_np 21 (by kernel_rfl) (by kernel_rfl) rfl (by kernel_rfl) hs2 (v := ?_) ?_ ?_
              rotate_left
              · (rintro x hx; have k0 := hx.cell a0; have l0 := hx.cell u0; have k1 := hx.cell a1; have l1 := hx.cell u1; have k2 := hx.cell a2; have l2 := hx.cell u2; have k3 := hx.cell a3; have l3 := hx.cell u3; have k4 := hx.cell a4; have l4 := hx.cell u4; clear hx; go_simp; try rfl)
              simp only [Act.put, List.setIfInBounds_toArray, List.set_cons_zero, List.set_cons_succ]
              refine hl_take_np 22 (by kernel_rfl) (by kernel_rfl) rfl (by kernel_rfl) hs2 (v := ?_) ?_ ?_
              rotate_left
              · (rintro x hx; have k0 := hx.cell a0; have l0 := hx.cell u0; have k1 := hx.cell a1; have l1 := hx.cell u1; have k2 := hx.cell a2; have l2 := hx.cell u2; have k3 := hx.cell a3; have l3 := hx.cell u3; have k4 := hx.cell a4; have l4 := hx.cell u4; clear hx; go_simp; try rfl)
              simp only [Act.put, List.setIfInBounds_toArray, List.set_cons_zero, List.set_cons_succ]
              refine hl_stepW 23 (by kernel_rfl) rfl (by kernel_rfl) ?_
              intro K hK
              go_simp
              refine (HLK.out W3).mono ?_
              rintro e W4 ⟨rfl, hgx⟩
              have hs3 : G W2 W4 := hs2.trans hgx
              refine hK _ _ (fun _ => hs3) ?_
              clear hK K hgx
              simp only [Act.put, List.setIfInBounds_toArray, List.set_cons_zero, List.set_cons_succ]
              clear a0 a1 a2 a3 a4 u0 u1 u2 u3 u4
              refine hl_take_np 24 (by kernel_rfl) (by kernel_rfl) rfl (by kernel_rfl) hs3 (v := ?_) ?_ ?_
              rotate_left
              · (rintro x hx; clear hx; go_simp; try rfl)
              simp only [Act.put, List.setIfInBounds_toArray, List.set_cons_zero, List.set_cons_succ]
              refine hl_take_np 25 (by kernel_rfl) (by kernel_rfl) rfl (by kernel_rfl) hs3 (v := ?_) ?_ ?_
              rotate_left
              · (rintro x hx; clear hx; go_simp; try rfl)
              simp only [Act.put, List.setIfInBounds_toArray, List.set_cons_zero, List.set_cons_succ]
              refine hl_take_np 26 (by kernel_rfl) (by kernel_rfl) rfl (by kernel_rfl) hs3 (v := ?_) ?_ ?_
              rotate_left
              · (rintro x hx; clear hx; go_simp; try rfl)
              simp only [Act.put, List.setIfInBounds_toArray, List.set_cons_zero, List.set_cons_succ]
              refine hl_take_np 27 (by kernel_rfl) (by kernel_rfl) rfl (by kernel_rfl) hs3 (v := ?_) ?_ ?_
              rotate_left
              · (rintro x hx; clear hx; go_simp; try rfl)
              simp only [Act.put, List.setIfInBounds_toArray, List.set_cons_zero, List.set_cons_succ]
              refine hl_take_np 28 (by kernel_rfl) (by kernel_rfl) rfl (by kernel_rfl) hs3 (v := ?_) ?_ ?_
              rotate_left
              · (rintro x hx; clear hx; go_simp; try rfl)
              simp only [Act.put, List.setIfInBounds_toArray, List.set_cons_zero, List.set_cons_succ]
              refine hl_take_np 29 (by kernel_rfl) (by kernel_rfl) rfl (by kernel_rfl) hs3 (v := ?_) ?_ ?_
              rotate_left
              · (rintro x hx; clear hx; go_simp; try rfl)
              simp only [Act.put, List.setIfInBounds_toArray, List.set_cons_zero, List.set_cons_succ]
              refine hl_take_np 30 (by kernel_rfl) (by kernel_rfl) rfl (by kernel_rfl) hs3 (v := ?_) ?_ ?_
              rotate_left
              · (rintro x hx; clear hx; go_simp; try rfl)
              simp only [Act.put, List.setIfInBounds_toArray, List.set_cons_zero, List.set_cons_succ]
              refine hl_skip_np 31 (by kernel_rfl) (by kernel_rfl) rfl (by kernel_rfl) hs3 ?_
              simp only [Act.put, List.setIfInBounds_toArray, List.set_cons_zero, List.set_cons_succ]
              refine hl_skip_np 32 (by kernel_rfl) (by kernel_rfl) rfl (by kernel_rfl) hs3 ?_
              simp only [Act.put, List.setIfInBounds_toArray, List.set_cons_zero, List.set_cons_succ]
              refine hl_take_np 33 (by kernel_rfl) (by kernel_rfl) rfl (by kernel_rfl) hs3 (v := ?_) ?_ ?_
              rotate_left
              · (rintro x hx; clear hx; go_simp; try rfl)
              simp only [Act.put, List.setIfInBounds_toArray, List.set_cons_zero, List.set_cons_succ]
              refine hl_take_np 34 (by kernel_rfl) (by kernel_rfl) rfl (by kernel_rfl) hs3 (v := ?_) ?_ ?_
              rotate_left
              · (rintro x hx; clear hx; go_simp; try rfl)
              simp only [Act.put, List.setIfInBounds_toArray, List.set_cons_zero, List.set_cons_succ]
              refine hl_done (by kernel_rfl) ?_ _
              refine NoPanic.normal (HQ0.out _ _ ?_)
              clear HQ0
              have HGB := Lib.hid (HGA.out.trans hs3)
              clear hsD hs2 hs3 HBA HLK HGA
              have HNEW := Lib.hid (show b = false → (∀ p q, p < i → q < n → p ≠ q → ecmp (eat l p) (eat l q) ≠ 0) ∧ (∀ q, q < k + 1 → i ≠ q → ecmp (eat l i) (eat l q) ≠ 0) from fun hb => ⟨(HD.out hb).1, fun q h3 h4 => by
                by_cases h5 : q = k
                · rw [h5, ← HX.out]; decide
                · exact (HD.out hb).2 q (by omega) h4⟩)
              cases b
              · go_wp2_with fail
                go_roundw
                case rel => exact ⟨false, k + 1, by omega, rfl, by go_num, HNEW, HGB.out⟩
                case measure => simp [intOf]; omega
              · go_wp2_with fail
                go_roundw
                case rel => exact ⟨true, k + 1, by omega, rfl, by go_num, HNEW, HGB.out⟩
                case measure => simp [intOf]; omega
            · have hneI : ((i : Int) == (k : Int)) = false := by simp; omega
              have hneJ : ((i : Int) != (k : Int)) = true := by simp; omega
              have hneK : ¬ i = k := h1
              have hw0 : IntKind.i64.wrap (-(-1 : Int)) = 1 := by decide
              have hw1 : IntKind.i64.wrap (1 : Int) = 1 := by decide
              have hneL : (¬ (i : Int) = (k : Int)) := by omega
              rw [show decide ((1 : Int) = 0) = false from by decide] at HLK
              clear HTH HSE
              go_upto_region 13 with fail
              obtain ⟨WD, hWD⟩ : ∃ WD : World, WD = W2.drew := ⟨_, rfl⟩
              have hsD : G W2 WD := by rw [hWD]; exact (G.refl W2).drew
              refine region_hlW (fun w' => G W2 w') 99 35 (by kernel_rfl) rfl ?_
              intro Q0 HQ0
              simp only [List.replicate_succ, List.replicate_zero]
              rw [← hWD]
              clear hWD
              refine hl_take_np 0 (by kernel_rfl) (by kernel_rfl) rfl (by kernel_rfl) hsD (v := ?_) ?_ ?_
              rotate_left
              · (rintro x hx; have k0 := hx.cell a0; have l0 := hx.cell u0; have k1 := hx.cell a1; have l1 := hx.cell u1; have k2 := hx.cell a2; have l2 := hx.cell u2; have k3 := hx.cell a3; have l3 := hx.cell u3; have k4 := hx.cell a4; have l4 := hx.cell u4; clear hx; go_simp; try rfl)
              simp only [Act.put, List.setIfInBounds_toArray, List.set_cons_zero, List.set_cons_succ]
              refine hl_take_np 1 (by kernel_rfl) (by kernel_rfl) rfl (by kernel_rfl) hsD (v := ?_) ?_ ?_
              rotate_left
              · (rintro x hx; have k0 := hx.cell a0; have l0 := hx.cell u0; have k1 := hx.cell a1; have l1 := hx.cell u1; have k2 := hx.cell a2; have l2 := hx.cell u2; have k3 := hx.cell a3; have l3 := hx.cell u3; have k4 := hx.cell a4; have l4 := hx.cell u4; clear hx; go_simp; try rfl)
              simp only [Act.put, List.setIfInBounds_toArray, List.set_cons_zero, List.set_cons_succ]
              refine hl_take_np 2 (by kernel_rfl) (by kernel_rfl) rfl (by kernel_rfl) hsD (v := ?_) ?_ ?_
              rotate_left
              · (rintro x hx; have k0 := hx.cell a0; have l0 := hx.cell u0; have k1 := hx.cell a1; have l1 := hx.cell u1; have k2 := hx.cell a2; have l2 := hx.cell u2; have k3 := hx.cell a3; have l3 := hx.cell u3; have k4 := hx.cell a4; have l4 := hx.cell u4; clear hx; go_simp; try rfl)
              simp only [Act.put, List.setIfInBounds_toArray, List.set_cons_zero, List.set_cons_succ]
              refine hl_take_np 3 (by kernel_rfl) (by kernel_rfl) rfl (by kernel_rfl) hsD (v := ?_) ?_ ?_
              rotate_left
              · (rintro x hx; have k0 := hx.cell a0; have l0 := hx.cell u0; have k1 := hx.cell a1; have l1 := hx.cell u1; have k2 := hx.cell a2; have l2 := hx.cell u2; have k3 := hx.cell a3; have l3 := hx.cell u3; have k4 := hx.cell a4; have l4 := hx.cell u4; clear hx; go_simp; try rfl)
              simp only [Act.put, List.setIfInBounds_toArray, List.set_cons_zero, List.set_cons_succ]
              refine hl_take_np 4 (by kernel_rfl) (by kernel_rfl) rfl (by kernel_rfl) hsD (v := ?_) ?_ ?_
              rotate_left
              · (rintro x hx; have k0 := hx.cell a0; have l0 := hx.cell u0; have k1 := hx.cell a1; have l1 := hx.cell u1; have k2 := hx.cell a2; have l2 := hx.cell u2; have k3 := hx.cell a3; have l3 := hx.cell u3; have k4 := hx.cell a4; have l4 := hx.cell u4; clear hx; go_simp; try rfl)
              simp only [Act.put, List.setIfInBounds_toArray, List.set_cons_zero, List.set_cons_succ]
              refine hl_take_np 5 (by kernel_rfl) (by kernel_rfl) rfl (by kernel_rfl) hsD (v := ?_) ?_ ?_
              rotate_left
              · (rintro x hx; have k0 := hx.cell a0; have l0 := hx.cell u0; have k1 := hx.cell a1; have l1 := hx.cell u1; have k2 := hx.cell a2; have l2 := hx.cell u2; have k3 := hx.cell a3; have l3 := hx.cell u3; have k4 := hx.cell a4; have l4 := hx.cell u4; clear hx; go_simp; try rfl)
              simp only [Act.put, List.setIfInBounds_toArray, List.set_cons_zero, List.set_cons_succ]
              refine hl_take_np 6 (by kernel_rfl) (by kernel_rfl) rfl (by kernel_rfl) hsD (v := ?_) ?_ ?_
              rotate_left
              · (rintro x hx; have k0 := hx.cell a0; have l0 := hx.cell u0; have k1 := hx.cell a1; have l1 := hx.cell u1; have k2 := hx.cell a2; have l2 := hx.cell u2; have k3 := hx.cell a3; have l3 := hx.cell u3; have k4 := hx.cell a4; have l4 := hx.cell u4; clear hx; go_simp; try rfl)
              simp only [Act.put, List.setIfInBounds_toArray, List.set_cons_zero, List.set_cons_succ]
              refine hl_take_np 7 (by kernel_rfl) (by kernel_rfl) rfl (by kernel_rfl) hsD (v := ?_) ?_ ?_
              rotate_left
              · (rintro x hx; have k0 := hx.cell a0; have l0 := hx.cell u0; have k1 := hx.cell a1; have l1 := hx.cell u1; have k2 := hx.cell a2; have l2 := hx.cell u2; have k3 := hx.cell a3; have l3 := hx.cell u3; have k4 := hx.cell a4; have l4 := hx.cell u4; clear hx; go_simp; try rfl)
              simp only [Act.put, List.setIfInBounds_toArray, List.set_cons_zero, List.set_cons_succ]
              refine hl_take_np 8 (by kernel_rfl) (by kernel_rfl) rfl (by kernel_rfl) hsD (v := ?_) ?_ ?_
              rotate_left
              · (rintro x hx; have k0 := hx.cell a0; have l0 := hx.cell u0; have k1 := hx.cell a1; have l1 := hx.cell u1; have k2 := hx.cell a2; have l2 := hx.cell u2; have k3 := hx.cell a3; have l3 := hx.cell u3; have k4 := hx.cell a4; have l4 := hx.cell u4; clear hx; go_simp; try rfl)
              simp only [Act.put, List.setIfInBounds_toArray, List.set_cons_zero, List.set_cons_succ]
              refine hl_stepW 9 (by kernel_rfl) rfl (by kernel_rfl) ?_
              intro K hK
              go_simp
              refine (HBA.out WD).mono ?_
              rintro e W3 ⟨rfl, hgx⟩
              have hs2 : G W2 W3 := hsD.trans hgx
              refine hK _ _ (fun _ => hs2) ?_
              clear hK K hgx
              simp only [Act.put, List.setIfInBounds_toArray, List.set_cons_zero, List.set_cons_succ]
              refine hl_take_np 10 (by kernel_rfl) (by kernel_rfl) rfl (by kernel_rfl) hs2 (v := ?_) ?_ ?_
              rotate_left
              · (rintro x hx; have k0 := hx.cell a0; have l0 := hx.cell u0; have k1 := hx.cell a1; have l1 := hx.cell u1; have k2 := hx.cell a2; have l2 := hx.cell u2; have k3 := hx.cell a3; have l3 := hx.cell u3; have k4 := hx.cell a4; have l4 := hx.cell u4; clear hx; go_simp; try rfl)
              simp only [Act.put, List.setIfInBounds_toArray, List.set_cons_zero, List.set_cons_succ]
              refine hl_take_np 11 (by kernel_rfl) (by kernel_rfl) rfl (by kernel_rfl) hs2 (v := ?_) ?_ ?_
              rotate_left
              · (rintro x hx; have k0 := hx.cell a0; have l0 := hx.cell u0; have k1 := hx.cell a1; have l1 := hx.cell u1; have k2 := hx.cell a2; have l2 := hx.cell u2; have k3 := hx.cell a3; have l3 := hx.cell u3; have k4 := hx.cell a4; have l4 := hx.cell u4; clear hx; go_simp; try rfl)
              simp only [Act.put, List.setIfInBounds_toArray, List.set_cons_zero, List.set_cons_succ]
              refine hl_take_np 12 (by kernel_rfl) (by kernel_rfl) rfl (by kernel_rfl) hs2 (v := ?_) ?_ ?_
              rotate_left
              · (rintro x hx; have k0 := hx.cell a0; have l0 := hx.cell u0; have k1 := hx.cell a1; have l1 := hx.cell u1; have k2 := hx.cell a2; have l2 := hx.cell u2; have k3 := hx.cell a3; have l3 := hx.cell u3; have k4 := hx.cell a4; have l4 := hx.cell u4; clear hx; go_simp; try rfl)
              simp only [Act.put, List.setIfInBounds_toArray, List.set_cons_zero, List.set_cons_succ]
              refine hl_take_np 13 (by kernel_rfl) (by kernel_rfl) rfl (by kernel_rfl) hs2 (v := ?_) ?_ ?_
              rotate_left
              · (rintro x hx; have k0 := hx.cell a0; have l0 := hx.cell u0; have k1 := hx.cell a1; have l1 := hx.cell u1; have k2 := hx.cell a2; have l2 := hx.cell u2; have k3 := hx.cell a3; have l3 := hx.cell u3; have k4 := hx.cell a4; have l4 := hx.cell u4; clear hx; go_simp; try rfl)
              simp only [Act.put, List.setIfInBounds_toArray, List.set_cons_zero, List.set_cons_succ]
              refine hl_take_np 14 (by kernel_rfl) (by kernel_rfl) rfl (by kernel_rfl) hs2 (v := ?_) ?_ ?_
              rotate_left
              · (rintro x hx; have k0 := hx.cell a0; have l0 := hx.cell u0; have k1 := hx.cell a1; have l1 := hx.cell u1; have k2 := hx.cell a2; have l2 := hx.cell u2; have k3 := hx.cell a3; have l3 := hx.cell u3; have k4 := hx.cell a4; have l4 := hx.cell u4; clear hx; go_simp; try rfl)
              simp only [Act.put, List.setIfInBounds_toArray, List.set_cons_zero, List.set_cons_succ]
              refine hl_take_np 15 (by kernel_rfl) (by kernel_rfl) rfl (by kernel_rfl) hs2 (v := ?_) ?_ ?_
              rotate_left
              · (rintro x hx; have k0 := hx.cell a0; have l0 := hx.cell u0; have k1 := hx.cell a1; have l1 := hx.cell u1; have k2 := hx.cell a2; have l2 := hx.cell u2; have k3 := hx.cell a3; have l3 := hx.cell u3; have k4 := hx.cell a4; have l4 := hx.cell u4; clear hx; go_simp; try rfl)
              simp only [Act.put, List.setIfInBounds_toArray, List.set_cons_zero, List.set_cons_succ]
              refine hl_take_np 16 (by kernel_rfl) (by kernel_rfl) rfl (by kernel_rfl) hs2 (v := ?_) ?_ ?_
              rotate_left
              · (rintro x hx; have k0 := hx.cell a0; have l0 := hx.cell u0; have k1 := hx.cell a1; have l1 := hx.cell u1; have k2 := hx.cell a2; have l2 := hx.cell u2; have k3 := hx.cell a3; have l3 := hx.cell u3; have k4 := hx.cell a4; have l4 := hx.cell u4; clear hx; go_simp; try rfl)
              simp only [Act.put, List.setIfInBounds_toArray, List.set_cons_zero, List.set_cons_succ]
              refine hl_take_np 17 (by kernel_rfl) (by kernel_rfl) rfl (by kernel_rfl) hs2 (v := ?_) ?_ ?_
              rotate_left
              · (rintro x hx; have k0 := hx.cell a0; have l0 := hx.cell u0; have k1 := hx.cell a1; have l1 := hx.cell u1; have k2 := hx.cell a2; have l2 := hx.cell u2; have k3 := hx.cell a3; have l3 := hx.cell u3; have k4 := hx.cell a4; have l4 := hx.cell u4; clear hx; go_simp; try rfl)
              simp only [Act.put, List.setIfInBounds_toArray, List.set_cons_zero, List.set_cons_succ]
              refine hl_take_np 18 (by kernel_rfl) (by kernel_rfl) rfl (by kernel_rfl) hs2 (v := ?_) ?_ ?_
              rotate_left
              · (rintro x hx; have k0 := hx.cell a0; have l0 := hx.cell u0; have k1 := hx.cell a1; have l1 := hx.cell u1; have k2 := hx.cell a2; have l2 := hx.cell u2; have k3 := hx.cell a3; have l3 := hx.cell u3; have k4 := hx.cell a4; have l4 := hx.cell u4; clear hx; go_simp; try rfl)
              simp only [Act.put, List.setIfInBounds_toArray, List.set_cons_zero, List.set_cons_succ]
              refine hl_take_np 19 (by kernel_rfl) (by kernel_rfl) rfl (by kernel_rfl) hs2 (v := ?_) ?_ ?_
              rotate_left
              · (rintro x hx; have k0 := hx.cell a0; have l0 := hx.cell u0; have k1 := hx.cell a1; have l1 := hx.cell u1; have k2 := hx.cell a2; have l2 := hx.cell u2; have k3 := hx.cell a3; have l3 := hx.cell u3; have k4 := hx.cell a4; have l4 := hx.cell u4; clear hx; go_simp; try rfl)
              simp only [Act.put, List.setIfInBounds_toArray, List.set_cons_zero, List.set_cons_succ]
              refine hl_take_np 20 (by kernel_rfl) (by kernel_rfl) rfl (by kernel_rfl) hs2 (v := ?_) ?_ ?_
              rotate_left
              · (rintro x hx; have k0 := hx.cell a0; have l0 := hx.cell u0; have k1 := hx.cell a1; have l1 := hx.cell u1; have k2 := hx.cell a2; have l2 := hx.cell u2; have k3 := hx.cell a3; have l3 := hx.cell u3; have k4 := hx.cell a4; have l4 := hx.cell u4; clear hx; go_simp; try rfl)
              simp only [Act.put, List.setIfInBounds_toArray, List.set_cons_zero, List.set_cons_succ]
              refine hl_take_np 21 (by kernel_rfl) (by kernel_rfl) rfl (by kernel_rfl) hs2 (v := ?_) ?_ ?_
              rotate_left
              · (rintro x hx; have k0 := hx.cell a0; have l0 := hx.cell u0; have k1 := hx.cell a1; have l1 := hx.cell u1; have k2 := hx.cell a2; have l2 := hx.cell u2; have k3 := hx.cell a3; have l3 := hx.cell u3; have k4 := hx.cell a4; have l4 := hx.cell u4; clear hx; go_simp; try rfl)
              simp only [Act.put, List.setIfInBounds_toArray, List.set_cons_zero, List.set_cons_succ]
              refine hl_take_np 22 (by kernel_rfl) (by kernel_rfl) rfl (by kernel_rfl) hs2 (v := ?_) ?_ ?_
              rotate_left
              · (rintro x hx; have k0 := hx.cell a0; have l0 := hx.cell u0; have k1 := hx.cell a1; have l1 := hx.cell u1; have k2 := hx.cell a2; have l2 := hx.cell u2; have k3 := hx.cell a3; have l3 := hx.cell u3; have k4 := hx.cell a4; have l4 := hx.cell u4; clear hx; go_simp; try rfl)
              simp only [Act.put, List.setIfInBounds_toArray, List.set_cons_zero, List.set_cons_succ]
              refine hl_stepW 23 (by kernel_rfl) rfl (by kernel_rfl) ?_
              intro K hK
              go_simp
              refine (HLK.out W3).mono ?_
              rintro e W4 ⟨rfl, hgx⟩
              have hs3 : G W2 W4 := hs2.trans hgx
              refine hK _ _ (fun _ => hs3) ?_
              clear hK K hgx
              simp only [Act.put, List.setIfInBounds_toArray, List.set_cons_zero, List.set_cons_succ]
              clear a0 a1 a2 a3 a4 u0 u1 u2 u3 u4
              refine hl_take_np 24 (by kernel_rfl) (by kernel_rfl) rfl (by kernel_rfl) hs3 (v := ?_) ?_ ?_
              rotate_left
              · (rintro x hx; clear hx; go_simp; try rfl)
              simp only [Act.put, List.setIfInBounds_toArray, List.set_cons_zero, List.set_cons_succ]
              refine hl_take_np 25 (by kernel_rfl) (by kernel_rfl) rfl (by kernel_rfl) hs3 (v := ?_) ?_ ?_
              rotate_left
              · (rintro x hx; clear hx; go_simp; try rfl)
              simp only [Act.put, List.setIfInBounds_toArray, List.set_cons_zero, List.set_cons_succ]
              refine hl_take_np 26 (by kernel_rfl) (by kernel_rfl) rfl (by kernel_rfl) hs3 (v := ?_) ?_ ?_
              rotate_left
              · (rintro x hx; clear hx; go_simp; try rfl)
              simp only [Act.put, List.setIfInBounds_toArray, List.set_cons_zero, List.set_cons_succ]
              refine hl_take_np 27 (by kernel_rfl) (by kernel_rfl) rfl (by kernel_rfl) hs3 (v := ?_) ?_ ?_
              rotate_left
              · (rintro x hx; clear hx; go_simp; try rfl)
              simp only [Act.put, List.setIfInBounds_toArray, List.set_cons_zero, List.set_cons_succ]
              refine hl_take_np 28 (by kernel_rfl) (by kernel_rfl) rfl (by kernel_rfl) hs3 (v := ?_) ?_ ?_
              rotate_left
              · (rintro x hx; clear hx; go_simp; try rfl)
              simp only [Act.put, List.setIfInBounds_toArray, List.set_cons_zero, List.set_cons_succ]
              refine hl_take_np 29 (by kernel_rfl) (by kernel_rfl) rfl (by kernel_rfl) hs3 (v := ?_) ?_ ?_
              rotate_left
              · (rintro x hx; clear hx; go_simp; try rfl)
              simp only [Act.put, List.setIfInBounds_toArray, List.set_cons_zero, List.set_cons_succ]
              refine hl_take_np 30 (by kernel_rfl) (by kernel_rfl) rfl (by kernel_rfl) hs3 (v := ?_) ?_ ?_
              rotate_left
              · (rintro x hx; clear hx; go_simp; try rfl)
              simp only [Act.put, List.setIfInBounds_toArray, List.set_cons_zero, List.set_cons_succ]
              refine hl_skip_np 31 (by kernel_rfl) (by kernel_rfl) rfl (by kernel_rfl) hs3 ?_
              simp only [Act.put, List.setIfInBounds_toArray, List.set_cons_zero, List.set_cons_succ]
              refine hl_skip_np 32 (by kernel_rfl) (by kernel_rfl) rfl (by kernel_rfl) hs3 ?_
              simp only [Act.put, List.setIfInBounds_toArray, List.set_cons_zero, List.set_cons_succ]
              refine hl_take_np 33 (by kernel_rfl) (by kernel_rfl) rfl (by kernel_rfl) hs3 (v := ?_) ?_ ?_
              rotate_left
              · (rintro x hx; clear hx; go_simp; try rfl)
              simp only [Act.put, List.setIfInBounds_toArray, List.set_cons_zero, List.set_cons_succ]
              refine hl_take_np 34 (by kernel_rfl) (by kernel_rfl) rfl (by kernel_rfl) hs3 (v := ?_) ?_ ?_
              rotate_left
              · (rintro x hx; clear hx; go_simp; try rfl)
              simp only [Act.put, List.setIfInBounds_toArray, List.set_cons_zero, List.set_cons_succ]
              refine hl_done (by kernel_rfl) ?_ _
              refine NoPanic.normal (HQ0.out _ _ ?_)
              clear HQ0
              have HGB := Lib.hid (HGA.out.trans hs3)
              clear hsD hs2 hs3 HBA HLK HGA
              have HNEW := Lib.hid (show b = false → (∀ p q, p < i → q < n → p ≠ q → ecmp (eat l p) (eat l q) ≠ 0) ∧ (∀ q, q < k + 1 → i ≠ q → ecmp (eat l i) (eat l q) ≠ 0) from fun hb => ⟨(HD.out hb).1, fun q h3 h4 => by
                by_cases h5 : q = k
                · rw [h5, ← HX.out]; decide
                · exact (HD.out hb).2 q (by omega) h4⟩)
              cases b
              · go_wp2_with fail
                go_roundw
                case rel => exact ⟨false, k + 1, by omega, rfl, by go_num, HNEW, HGB.out⟩
                case measure => simp [intOf]; omega
              · go_wp2_with fail
                go_roundw
                case rel => exact ⟨true, k + 1, by omega, rfl, by go_num, HNEW, HGB.out⟩
                case measure => simp [intOf]; omega
            · subst h1
              obtain rfl : A = B := by rw [HAe.out, HBe.out]
              have h9 := a4.symm.trans u4
              cases h9
              have hneI : ((i : Int) == (i : Int)) = true := by simp
              have hw0 : IntKind.i64.wrap (-(0 : Int)) = 0 := by decide
              have hw1 : IntKind.i64.wrap (0 : Int) = 0 := by decide
              rw [show decide ((0 : Int) = 0) = true from by decide] at HLK
              clear HTH HSE
              go_upto_region 13 with fail
              obtain ⟨WD, hWD⟩ : ∃ WD : World, WD = W2.drew := ⟨_, rfl⟩
              have hsD : G W2 WD := by rw [hWD]; exact (G.refl W2).drew
              refine region_hlW (fun w' => G W2 w') 99 35 (by kernel_rfl) rfl ?_
              intro Q0 HQ0
              simp only [List.replicate_succ, List.replicate_zero]
              rw [← hWD]
              clear hWD
              refine hl_take_np 0 (by kernel_rfl) (by kernel_rfl) rfl (by kernel_rfl) hsD (v := ?_) ?_ ?_
              rotate_left
              · (rintro x hx; have k0 := hx.cell a0; have l0 := hx.cell u0; have k1 := hx.cell a1; have l1 := hx.cell u1; have k2 := hx.cell a2; have l2 := hx.cell u2; have k3 := hx.cell a3; have l3 := hx.cell u3; have k4 := hx.cell a4; have l4 := hx.cell u4; clear hx; go_simp; try rfl)
              simp only [Act.put, List.setIfInBounds_toArray, List.set_cons_zero, List.set_cons_succ]
              refine hl_take_np 1 (by kernel_rfl) (by kernel_rfl) rfl (by kernel_rfl) hsD (v := ?_) ?_ ?_
              rotate_left
              · (rintro x hx; have k0 := hx.cell a0; have l0 := hx.cell u0; have k1 := hx.cell a1; have l1 := hx.cell u1; have k2 := hx.cell a2; have l2 := hx.cell u2; have k3 := hx.cell a3; have l3 := hx.cell u3; have k4 := hx.cell a4; have l4 := hx.cell u4; clear hx; go_simp; try rfl)
              simp only [Act.put, List.setIfInBounds_toArray, List.set_cons_zero, List.set_cons_succ]
              refine hl_take_np 2 (by kernel_rfl) (by kernel_rfl) rfl (by kernel_rfl) hsD (v := ?_) ?_ ?_
              rotate_left
              · (rintro x hx; have k0 := hx.cell a0; have l0 := hx.cell u0; have k1 := hx.cell a1; have l1 := hx.cell u1; have k2 := hx.cell a2; have l2 := hx.cell u2; have k3 := hx.cell a3; have l3 := hx.cell u3; have k4 := hx.cell a4; have l4 := hx.cell u4; clear hx; go_simp; try rfl)
              simp only [Act.put, List.setIfInBounds_toArray, List.set_cons_zero, List.set_cons_succ]
              refine hl_take_np 3 (by kernel_rfl) (by kernel_rfl) rfl (by kernel_rfl) hsD (v := ?_) ?_ ?_
              rotate_left
              · (rintro x hx; have k0 := hx.cell a0; have l0 := hx.cell u0; have k1 := hx.cell a1; have l1 := hx.cell u1; have k2 := hx.cell a2; have l2 := hx.cell u2; have k3 := hx.cell a3; have l3 := hx.cell u3; have k4 := hx.cell a4; have l4 := hx.cell u4; clear hx; go_simp; try rfl)
              simp only [Act.put, List.setIfInBounds_toArray, List.set_cons_zero, List.set_cons_succ]
              refine hl_take_np 4 (by kernel_rfl) (by kernel_rfl) rfl (by kernel_rfl) hsD (v := ?_) ?_ ?_
              rotate_left
              · (rintro x hx; have k0 := hx.cell a0; have l0 := hx.cell u0; have k1 := hx.cell a1; have l1 := hx.cell u1; have k2 := hx.cell a2; have l2 := hx.cell u2; have k3 := hx.cell a3; have l3 := hx.cell u3; have k4 := hx.cell a4; have l4 := hx.cell u4; clear hx; go_simp; try rfl)
              simp only [Act.put, List.setIfInBounds_toArray, List.set_cons_zero, List.set_cons_succ]
              refine hl_take_np 5 (by kernel_rfl) (by kernel_rfl) rfl (by kernel_rfl) hsD (v := ?_) ?_ ?_
              rotate_left
              · (rintro x hx; have k0 := hx.cell a0; have l0 := hx.cell u0; have k1 := hx.cell a1; have l1 := hx.cell u1; have k2 := hx.cell a2; have l2 := hx.cell u2; have k3 := hx.cell a3; have l3 := hx.cell u3; have k4 := hx.cell a4; have l4 := hx.cell u4; clear hx; go_simp; try rfl)
              simp only [Act.put, List.setIfInBounds_toArray, List.set_cons_zero, List.set_cons_succ]
              refine hl_take_np 6 (by kernel_rfl) (by kernel_rfl) rfl (by kernel_rfl) hsD (v := ?_) ?_ ?_
              rotate_left
              · (rintro x hx; have k0 := hx.cell a0; have l0 := hx.cell u0; have k1 := hx.cell a1; have l1 := hx.cell u1; have k2 := hx.cell a2; have l2 := hx.cell u2; have k3 := hx.cell a3; have l3 := hx.cell u3; have k4 := hx.cell a4; have l4 := hx.cell u4; clear hx; go_simp; try rfl)
              simp only [Act.put, List.setIfInBounds_toArray, List.set_cons_zero, List.set_cons_succ]
              refine hl_take_np 7 (by kernel_rfl) (by kernel_rfl) rfl (by kernel_rfl) hsD (v := ?_) ?_ ?_
              rotate_left
              · (rintro x hx; have k0 := hx.cell a0; have l0 := hx.cell u0; have k1 := hx.cell a1; have l1 := hx.cell u1; have k2 := hx.cell a2; have l2 := hx.cell u2; have k3 := hx.cell a3; have l3 := hx.cell u3; have k4 := hx.cell a4; have l4 := hx.cell u4; clear hx; go_simp; try rfl)
              simp only [Act.put, List.setIfInBounds_toArray, List.set_cons_zero, List.set_cons_succ]
              refine hl_take_np 8 (by kernel_rfl) (by kernel_rfl) rfl (by kernel_rfl) hsD (v := ?_) ?_ ?_
              rotate_left
              · (rintro x hx; have k0 := hx.cell a0; have l0 := hx.cell u0; have k1 := hx.cell a1; have l1 := hx.cell u1; have k2 := hx.cell a2; have l2 := hx.cell u2; have k3 := hx.cell a3; have l3 := hx.cell u3; have k4 := hx.cell a4; have l4 := hx.cell u4; clear hx; go_simp; try rfl)
              simp only [Act.put, List.setIfInBounds_toArray, List.set_cons_zero, List.set_cons_succ]
              refine hl_stepW 9 (by kernel_rfl) rfl (by kernel_rfl) ?_
              intro K hK
              go_simp
              refine (HBA.out WD).mono ?_
              rintro e W3 ⟨rfl, hgx⟩
              have hs2 : G W2 W3 := hsD.trans hgx
              refine hK _ _ (fun _ => hs2) ?_
              clear hK K hgx
              simp only [Act.put, List.setIfInBounds_toArray, List.set_cons_zero, List.set_cons_succ]
              refine hl_take_np 10 (by kernel_rfl) (by kernel_rfl) rfl (by kernel_rfl) hs2 (v := ?_) ?_ ?_
              rotate_left
              · (rintro x hx; have k0 := hx.cell a0; have l0 := hx.cell u0; have k1 := hx.cell a1; have l1 := hx.cell u1; have k2 := hx.cell a2; have l2 := hx.cell u2; have k3 := hx.cell a3; have l3 := hx.cell u3; have k4 := hx.cell a4; have l4 := hx.cell u4; clear hx; go_simp; try rfl)
              simp only [Act.put, List.setIfInBounds_toArray, List.set_cons_zero, List.set_cons_succ]
              refine hl_take_np 11 (by kernel_rfl) (by kernel_rfl) rfl (by kernel_rfl) hs2 (v := ?_) ?_ ?_
              rotate_left
              · (rintro x hx; have k0 := hx.cell a0; have l0 := hx.cell u0; have k1 := hx.cell a1; have l1 := hx.cell u1; have k2 := hx.cell a2; have l2 := hx.cell u2; have k3 := hx.cell a3; have l3 := hx.cell u3; have k4 := hx.cell a4; have l4 := hx.cell u4; clear hx; go_simp; try rfl)
              simp only [Act.put, List.setIfInBounds_toArray, List.set_cons_zero, List.set_cons_succ]
              refine hl_take_np 12 (by kernel_rfl) (by kernel_rfl) rfl (by kernel_rfl) hs2 (v := ?_) ?_ ?_
              rotate_left
              · (rintro x hx; have k0 := hx.cell a0; have l0 := hx.cell u0; have k1 := hx.cell a1; have l1 := hx.cell u1; have k2 := hx.cell a2; have l2 := hx.cell u2; have k3 := hx.cell a3; have l3 := hx.cell u3; have k4 := hx.cell a4; have l4 := hx.cell u4; clear hx; go_simp; try rfl)
              simp only [Act.put, List.setIfInBounds_toArray, List.set_cons_zero, List.set_cons_succ]
              refine hl_take_np 13 (by kernel_rfl) (by kernel_rfl) rfl (by kernel_rfl) hs2 (v := ?_) ?_ ?_
              rotate_left
              · (rintro x hx; have k0 := hx.cell a0; have l0 := hx.cell u0; have k1 := hx.cell a1; have l1 := hx.cell u1; have k2 := hx.cell a2; have l2 := hx.cell u2; have k3 := hx.cell a3; have l3 := hx.cell u3; have k4 := hx.cell a4; have l4 := hx.cell u4; clear hx; go_simp; try rfl)
              simp only [Act.put, List.setIfInBounds_toArray, List.set_cons_zero, List.set_cons_succ]
              refine hl_take_np 14 (by kernel_rfl) (by kernel_rfl) rfl (by kernel_rfl) hs2 (v := ?_) ?_ ?_
              rotate_left
              · (rintro x hx; have k0 := hx.cell a0; have l0 := hx.cell u0; have k1 := hx.cell a1; have l1 := hx.cell u1; have k2 := hx.cell a2; have l2 := hx.cell u2; have k3 := hx.cell a3; have l3 := hx.cell u3; have k4 := hx.cell a4; have l4 := hx.cell u4; clear hx; go_simp; try rfl)
              simp only [Act.put, List.setIfInBounds_toArray, List.set_cons_zero, List.set_cons_succ]
              refine hl_take_np 15 (by kernel_rfl) (by kernel_rfl) rfl (by kernel_rfl) hs2 (v := ?_) ?_ ?_
              rotate_left
              · (rintro x hx; have k0 := hx.cell a0; have l0 := hx.cell u0; have k1 := hx.cell a1; have l1 := hx.cell u1; have k2 := hx.cell a2; have l2 := hx.cell u2; have k3 := hx.cell a3; have l3 := hx.cell u3; have k4 := hx.cell a4; have l4 := hx.cell u4; clear hx; go_simp; try rfl)
              simp only [Act.put, List.setIfInBounds_toArray, List.set_cons_zero, List.set_cons_succ]
              refine hl_take_np 16 (by kernel_rfl) (by kernel_rfl) rfl (by kernel_rfl) hs2 (v := ?_) ?_ ?_
              rotate_left
              · (rintro x hx; have k0 := hx.cell a0; have l0 := hx.cell u0; have k1 := hx.cell a1; have l1 := hx.cell u1; have k2 := hx.cell a2; have l2 := hx.cell u2; have k3 := hx.cell a3; have l3 := hx.cell u3; have k4 := hx.cell a4; have l4 := hx.cell u4; clear hx; go_simp; try rfl)
              simp only [Act.put, List.setIfInBounds_toArray, List.set_cons_zero, List.set_cons_succ]
              refine hl_take_np 17 (by kernel_rfl) (by kernel_rfl) rfl (by kernel_rfl) hs2 (v := ?_) ?_ ?_
              rotate_left
              · (rintro x hx; have k0 := hx.cell a0; have l0 := hx.cell u0; have k1 := hx.cell a1; have l1 := hx.cell u1; have k2 := hx.cell a2; have l2 := hx.cell u2; have k3 := hx.cell a3; have l3 := hx.cell u3; have k4 := hx.cell a4; have l4 := hx.cell u4; clear hx; go_simp; try rfl)
              simp only [Act.put, List.setIfInBounds_toArray, List.set_cons_zero, List.set_cons_succ]
              refine hl_take_np 18 (by kernel_rfl) (by kernel_rfl) rfl (by kernel_rfl) hs2 (v := ?_) ?_ ?_
              rotate_left
              · (rintro x hx; have k0 := hx.cell a0; have l0 := hx.cell u0; have k1 := hx.cell a1; have l1 := hx.cell u1; have k2 := hx.cell a2; have l2 := hx.cell u2; have k3 := hx.cell a3; have l3 := hx.cell u3; have k4 := hx.cell a4; have l4 := hx.cell u4; clear hx; go_simp; try rfl)
              simp only [Act.put, List.setIfInBounds_toArray, List.set_cons_zero, List.set_cons_succ]
              refine hl_take_np 19 (by kernel_rfl) (by kernel_rfl) rfl (by kernel_rfl) hs2 (v := ?_) ?_ ?_
              rotate_left
              · (rintro x hx; have k0 := hx.cell a0; have l0 := hx.cell u0; have k1 := hx.cell a1; have l1 := hx.cell u1; have k2 := hx.cell a2; have l2 := hx.cell u2; have k3 := hx.cell a3; have l3 := hx.cell u3; have k4 := hx.cell a4; have l4 := hx.cell u4; clear hx; go_simp; try rfl)
              simp only [Act.put, List.setIfInBounds_toArray, List.set_cons_zero, List.set_cons_succ]
              refine hl_take_np 20 (by kernel_rfl) (by kernel_rfl) rfl (by kernel_rfl) hs2 (v := ?_) ?_ ?_
              rotate_left
              · (rintro x hx; have k0 := hx.cell a0; have l0 := hx.cell u0; have k1 := hx.cell a1; have l1 := hx.cell u1; have k2 := hx.cell a2; have l2 := hx.cell u2; have k3 := hx.cell a3; have l3 := hx.cell u3; have k4 := hx.cell a4; have l4 := hx.cell u4; clear hx; go_simp; try rfl)
              simp only [Act.put, List.setIfInBounds_toArray, List.set_cons_zero, List.set_cons_succ]
              refine hl_take_np 21 (by kernel_rfl) (by kernel_rfl) rfl (by kernel_rfl) hs2 (v := ?_) ?_ ?_
              rotate_left
              · (rintro x hx; have k0 := hx.cell a0; have l0 := hx.cell u0; have k1 := hx.cell a1; have l1 := hx.cell u1; have k2 := hx.cell a2; have l2 := hx.cell u2; have k3 := hx.cell a3; have l3 := hx.cell u3; have k4 := hx.cell a4; have l4 := hx.cell u4; clear hx; go_simp; try rfl)
              simp only [Act.put, List.setIfInBounds_toArray, List.set_cons_zero, List.set_cons_succ]
              refine hl_take_np 22 (by kernel_rfl) (by kernel_rfl) rfl (by kernel_rfl) hs2 (v := ?_) ?_ ?_
              rotate_left
              · (rintro x hx; have k0 := hx.cell a0; have l0 := hx.cell u0; have k1 := hx.cell a1; have l1 := hx.cell u1; have k2 := hx.cell a2; have l2 := hx.cell u2; have k3 := hx.cell a3; have l3 := hx.cell u3; have k4 := hx.cell a4; have l4 := hx.cell u4; clear hx; go_simp; try rfl)
              simp only [Act.put, List.setIfInBounds_toArray, List.set_cons_zero, List.set_cons_succ]
              refine hl_stepW 23 (by kernel_rfl) rfl (by kernel_rfl) ?_
              intro K hK
              go_simp
              refine (HLK.out W3).mono ?_
              rintro e W4 ⟨rfl, hgx⟩
              have hs3 : G W2 W4 := hs2.trans hgx
              refine hK _ _ (fun _ => hs3) ?_
              clear hK K hgx
              simp only [Act.put, List.setIfInBounds_toArray, List.set_cons_zero, List.set_cons_succ]
              clear a0 a1 a2 a3 a4 u0 u1 u2 u3 u4
              refine hl_take_np 24 (by kernel_rfl) (by kernel_rfl) rfl (by kernel_rfl) hs3 (v := ?_) ?_ ?_
              rotate_left
              · (rintro x hx; clear hx; go_simp; try rfl)
              simp only [Act.put, List.setIfInBounds_toArray, List.set_cons_zero, List.set_cons_succ]
              refine hl_take_np 25 (by kernel_rfl) (by kernel_rfl) rfl (by kernel_rfl) hs3 (v := ?_) ?_ ?_
              rotate_left
              · (rintro x hx; clear hx; go_simp; try rfl)
              simp only [Act.put, List.setIfInBounds_toArray, List.set_cons_zero, List.set_cons_succ]
              refine hl_take_np 26 (by kernel_rfl) (by kernel_rfl) rfl (by kernel_rfl) hs3 (v := ?_) ?_ ?_
              rotate_left
              · (rintro x hx; clear hx; go_simp; try rfl)
              simp only [Act.put, List.setIfInBounds_toArray, List.set_cons_zero, List.set_cons_succ]
              refine hl_take_np 27 (by kernel_rfl) (by kernel_rfl) rfl (by kernel_rfl) hs3 (v := ?_) ?_ ?_
              rotate_left
              · (rintro x hx; clear hx; go_simp; try rfl)
              simp only [Act.put, List.setIfInBounds_toArray, List.set_cons_zero, List.set_cons_succ]
              refine hl_take_np 28 (by kernel_rfl) (by kernel_rfl) rfl (by kernel_rfl) hs3 (v := ?_) ?_ ?_
              rotate_left
              · (rintro x hx; clear hx; go_simp; try rfl)
              simp only [Act.put, List.setIfInBounds_toArray, List.set_cons_zero, List.set_cons_succ]
              refine hl_take_np 29 (by kernel_rfl) (by kernel_rfl) rfl (by kernel_rfl) hs3 (v := ?_) ?_ ?_
              rotate_left
              · (rintro x hx; clear hx; go_simp; try rfl)
              simp only [Act.put, List.setIfInBounds_toArray, List.set_cons_zero, List.set_cons_succ]
              refine hl_take_np 30 (by kernel_rfl) (by kernel_rfl) rfl (by kernel_rfl) hs3 (v := ?_) ?_ ?_
              rotate_left
              · (rintro x hx; clear hx; go_simp; try rfl)
              simp only [Act.put, List.setIfInBounds_toArray, List.set_cons_zero, List.set_cons_succ]
              refine hl_take_np 31 (by kernel_rfl) (by kernel_rfl) rfl (by kernel_rfl) hs3 (v := ?_) ?_ ?_
              rotate_left
              · (rintro x hx; clear hx; go_simp; try rfl)
              simp only [Act.put, List.setIfInBounds_toArray, List.set_cons_zero, List.set_cons_succ]
              refine hl_take_np 32 (by kernel_rfl) (by kernel_rfl) rfl (by kernel_rfl) hs3 (v := ?_) ?_ ?_
              rotate_left
              · (rintro x hx; clear hx; go_simp; try rfl)
              simp only [Act.put, List.setIfInBounds_toArray, List.set_cons_zero, List.set_cons_succ]
              refine hl_take_np 33 (by kernel_rfl) (by kernel_rfl) rfl (by kernel_rfl) hs3 (v := ?_) ?_ ?_
              rotate_left
              · (rintro x hx; clear hx; go_simp; try rfl)
              simp only [Act.put, List.setIfInBounds_toArray, List.set_cons_zero, List.set_cons_succ]
              refine hl_take_np 34 (by kernel_rfl) (by kernel_rfl) rfl (by kernel_rfl) hs3 (v := ?_) ?_ ?_
              rotate_left
              · (rintro x hx; clear hx; go_simp; try rfl)
              simp only [Act.put, List.setIfInBounds_toArray, List.set_cons_zero, List.set_cons_succ]
              refine hl_done (by kernel_rfl) ?_ _
              refine NoPanic.normal (HQ0.out _ _ ?_)
              clear HQ0
              have HGB := Lib.hid (HGA.out.trans hs3)
              clear hsD hs2 hs3 HBA HLK HGA
              have HNEW := Lib.hid (show b = false → (∀ p q, p < i → q < n → p ≠ q → ecmp (eat l p) (eat l q) ≠ 0) ∧ (∀ q, q < i + 1 → i ≠ q → ecmp (eat l i) (eat l q) ≠ 0) from fun hb => ⟨(HD.out hb).1, fun q h3 h4 => (HD.out hb).2 q (by omega) h4⟩)
              cases b
              · go_wp2_with fail
                go_roundw
                case rel => exact ⟨false, i + 1, by omega, rfl, by go_num, HNEW, HGB.out⟩
                case measure => simp [intOf]; omega
              · go_wp2_with fail
                go_roundw
                case rel => exact ⟨true, i + 1, by omega, rfl, by go_num, HNEW, HGB.out⟩
                case measure => simp [intOf]; omega
          · have hlkI : ¬ (k : Int) < (n : Int) := by omega
            have HNEW := Lib.hid (show b = false → ∀ p q, p < i + 1 → q < n → p ≠ q → ecmp (eat l p) (eat l q) ≠ 0 from fun hb p q h1 h2 h3 => by
              by_cases h4 : p = i
              · subst h4; exact (HD.out hb).2 q (by omega) h3
              · exact (HD.out hb).1 p q (by omega) h2 h3)
            go_wp2_with fail
            go_roundw
            case rel => exact ⟨b, i + 1, by omega, rfl, by go_num, HNEW, hg.trans hga⟩
            case measure => simp [intOf]; omega
      · have hltI : ¬ (i : Int) < (n : Int) := by omega
        have HAP := Lib.hid (show b = false → Apart l from fun hb p q h1 h2 h3 => HB.out hb p q (by have := HN.out; omega) (by rw [HN.out]; exact h2) h3)
        have HSO := Lib.hid (sort_any l _ WA (H.out.g hg) (by have := HNL.out; omega) HPS.out)
        rw [← HN.out] at HSO
        clear HB hg0
        go_wp2_with fail
        refine HSO.out.mono ?_
        rintro e w1 ⟨s, M, L1, rfl, hown, hmo, hst, hsr, hoe, hg1⟩
        have hL1 : L1.length = n := by have := hown.1; rw [ecs_len] at this; omega
        obtain ⟨sp, sc, rfl⟩ := ownsRow_shape hown
        have HR1 := Lib.hid (show RdrE w1 (.slice sp n sc) L1 from ⟨by rw [hL1]; exact rdr_of_owns hown, fun E hE => (hoe E hE).at⟩)
        have HX1 := Lib.hid (And.intro hmo (And.intro hst (And.intro hsr hL1)))
        have HG1 := Lib.hid (hg.trans hg1)
        clear hown hmo hst hsr hoe hL1 hg hg1 HSO
        go_wp2_with fail
        refine (pick_any turn ((n : Int) + 1) w1 (by omega) (by omega)).mono ?_
        rintro e w2 ⟨⟨r, hr, rfl⟩, rfl⟩
        have hrn : r ≤ n := by omega
        have hrI : (r : Int) ≤ (n : Int) := by omega
        have hr0 : (0 : Int) ≤ (r : Int) := by omega
        have hrc : r ≤ c := by omega
        have hncI : (n : Int) ≤ (c : Int) := by omega
        have hrw : IntKind.i64.wrap (r : Int) = r := IntWalk.i64_in _ (by omega)
        clear hr
        have HRL := Lib.hid (show RdrE w1 (.slice p n c) l from H.out.g HG1.out)
        have HDR0 := Lib.hid (rdrE_drop (j := r) (show Rdr w1 5 (.slice p n c) n (ecs l) by have := HRL.out.row; rwa [← HN.out] at this) hc hrn)
        have HTK := Lib.hid (rdrE_take (j := r) (show Rdr w1 5 (.slice p n c) n (ecs l) by have := HRL.out.row; rwa [← HN.out] at this) hrn)
        go_upto_region 18 with fail
        obtain ⟨WD, hWD⟩ : ∃ WD : World, WD = w1.drew := ⟨_, rfl⟩
        have hsD : G w1 WD := by rw [hWD]; exact (G.refl w1).drew
        refine region_hlW (fun w' => G w1 w') 99 11 (by kernel_rfl) rfl ?_
        intro Q0 HQ0
        simp only [List.replicate_succ, List.replicate_zero]
        rw [← hWD]
        clear hWD
        refine hl_take_np 1 (by kernel_rfl) (by kernel_rfl) rfl (by kernel_rfl) hsD (v := ?_) ?_ ?_
        rotate_left
        · (rintro x hx; clear hx; go_simp; try rfl)
        simp only [Act.put, List.setIfInBounds_toArray, List.set_cons_zero, List.set_cons_succ]
        refine hl_take_np 2 (by kernel_rfl) (by kernel_rfl) rfl (by kernel_rfl) hsD (v := ?_) ?_ ?_
        rotate_left
        · (rintro x hx; clear hx; go_simp; try rfl)
        simp only [Act.put, List.setIfInBounds_toArray, List.set_cons_zero, List.set_cons_succ]
        refine hl_take_np 3 (by kernel_rfl) (by kernel_rfl) rfl (by kernel_rfl) hsD (v := ?_) ?_ ?_
        rotate_left
        · (rintro x hx; clear hx; go_simp; try rfl)
        simp only [Act.put, List.setIfInBounds_toArray, List.set_cons_zero, List.set_cons_succ]
        refine hl_take_np 5 (by kernel_rfl) (by kernel_rfl) rfl (by kernel_rfl) hsD (v := ?_) ?_ ?_
        rotate_left
        · (rintro x hx; clear hx; go_simp; try rfl)
        simp only [Act.put, List.setIfInBounds_toArray, List.set_cons_zero, List.set_cons_succ]
        refine hl_take_np 6 (by kernel_rfl) (by kernel_rfl) rfl (by kernel_rfl) hsD (v := ?_) ?_ ?_
        rotate_left
        · (rintro x hx; clear hx; go_simp; try rfl)
        simp only [Act.put, List.setIfInBounds_toArray, List.set_cons_zero, List.set_cons_succ]
        refine hl_take_np 7 (by kernel_rfl) (by kernel_rfl) rfl (by kernel_rfl) hsD (v := ?_) ?_ ?_
        rotate_left
        · (rintro x hx; clear hx; go_simp; try rfl)
        simp only [Act.put, List.setIfInBounds_toArray, List.set_cons_zero, List.set_cons_succ]
        have HDR := HDR0
        clear HDR0
        generalize (if c = r then p else Option.map (fun x => x.add (r * 5)) p) = pt at HDR ⊢
        obtain ⟨X4, hX4⟩ : ∃ X : World, X = WD.alloc (.cells #[] 27) := ⟨_, rfl⟩
        have g4 : G w1 X4 := by rw [hX4]; exact hsD.alloc _
        have HO4 := Lib.hid (show X4.ownsRow WD.heap.size 27 5 (.slice (some ⟨WD.heap.size, 0, none⟩) 0 0) 0 [] by rw [hX4]; exact own_empty WD)
        have HX4 := Lib.hid hX4
        have hzD := hsD.size
        have hzE : WD.heap.size ≤ X4.heap.size := by rw [hX4]; simp
        have HNE := Lib.hid (show ∀ E ∈ l, IsE E from fun E hE => (HRL.out.each E hE).isE)
        refine hl_stepW 0 (by kernel_rfl) rfl (by kernel_rfl) ?_
        intro K hK
        go_simp
        rw [← HX4.out]
        refine hK _ _ (fun _ => g4) ?_
        clear hK K hX4
        simp only [Act.put, List.setIfInBounds_toArray, List.set_cons_zero, List.set_cons_succ]
        refine hl_step 4 (by kernel_rfl) rfl ?_
        refine wpList_appendR X4 rfl _ _ 35 rfl WD.heap.size 27 i0 (.agg #[.string ⟨#[]⟩, .string ⟨#[]⟩, .string ⟨#[]⟩, .int .i64 0, .slice none 0 0]) 5 80 Try.underlying35 HI.out.1 HI.out.2.1 HI.out.2.2.1 HI.out.2.2.2 rfl (by decide) (.slice (some ⟨WD.heap.size, 0, none⟩) 0 0) 0 [] rfl HO4.out (.slice pt (n - r) (c - r)) (n - r) (ecs (l.drop r)) rfl (HDR.out.g g4) (ecs_one _ (fun F hF => HNE.out F (List.mem_of_mem_drop hF))) (by unfold maxLen; omega) (by omega) hzE ?_
        intro p5 c5 X5 hown5 hgrow5 hat5
        have g5 : G w1 X5 := g4.grown hgrow5 (fun k h => by have h1 := (HO4.out.lt k h).1; omega)
        have hz5 : WD.heap.size ≤ X5.heap.size := by have := hgrow5.size; omega
        have HO5 := Lib.hid hown5
        clear hgrow5 hat5 hown5 g4 hzE
        simp only [Nat.zero_add, List.nil_append] at HO5 ⊢
        simp only [Act.put, List.setIfInBounds_toArray, List.set_cons_zero, List.set_cons_succ]
        show _ ∧ _
        refine ⟨(by first | exact g5 | exact fun _ => g5), ?_⟩
        refine hl_step 8 (by kernel_rfl) rfl ?_
        refine wpList_appendR X5 rfl _ _ 35 rfl WD.heap.size 27 i0 (.agg #[.string ⟨#[]⟩, .string ⟨#[]⟩, .string ⟨#[]⟩, .int .i64 0, .slice none 0 0]) 5 80 Try.underlying35 HI.out.1 HI.out.2.1 HI.out.2.2.1 HI.out.2.2.2 rfl (by decide) (.slice p5 (n - r) c5) (n - r) (ecs (l.drop r)) rfl HO5.out (.slice p r c) r (ecs (l.take r)) rfl (HTK.out.g g5) (ecs_one _ (fun F hF => HNE.out F (List.mem_of_mem_take hF))) (by unfold maxLen; omega) (by omega) hz5 ?_
        intro p6 c6 X6 hown6 hgrow6 hat6
        have g6 : G w1 X6 := g5.grown hgrow6 (fun k h => by have h1 := (HO5.out.lt k h).1; omega)
        rw [show n - r + r = n by omega] at hown6 ⊢
        have HO6 := Lib.hid hown6
        clear hgrow6 hat6 hown6 g5 hz5
        simp only [Act.put, List.setIfInBounds_toArray, List.set_cons_zero, List.set_cons_succ]
        show _ ∧ _
        refine ⟨(by first | exact g6 | exact fun _ => g6), ?_⟩
        have HTL := Lib.hid (show (l.drop r ++ l.take r).length = n by rw [turn_len, ← HN.out])
        have HS2 := Lib.hid (sort_any (l.drop r ++ l.take r) (.slice p6 n c6) X6 ⟨by rw [HTL.out, ecs_app]; exact rdr_of_owns HO6.out, fun E hE => (HRL.out.each E (turn_mem hE)).g g6⟩ (by rw [HTL.out]; omega) (fun E hE => HPS.out E (turn_mem hE)))
        rw [HTL.out] at HS2
        clear HO4 HO5 HO6 HDR HTK
        refine hl_stepW 9 (by kernel_rfl) rfl (by kernel_rfl) ?_
        intro K hK
        go_simp
        refine HS2.out.mono ?_
        rintro e W7 ⟨t, N, L2, rfl, hown, hmo, hst, hsr, hoe, hg7⟩
        have g7 : G w1 W7 := g6.trans hg7
        refine hK _ _ (fun _ => g7) ?_
        clear hK K
        have hL2 : L2.length = n := by have := hown.1; rw [ecs_len] at this; omega
        obtain ⟨tp, tc, rfl⟩ := ownsRow_shape hown
        have HR2 := Lib.hid (show RdrE W7 (.slice tp n tc) L2 from ⟨by rw [hL2]; exact rdr_of_owns hown, fun E hE => (hoe E hE).at⟩)
        have HSAME := Lib.hid (show b = false → L1.map outE = L2.map outE from fun hb => turn_same HN.out.symm (HAP.out hb) HX1.out.1 HX1.out.2.1 HX1.out.2.2.1 HX1.out.2.2.2 hmo hst hsr hL2)
        have HL2 := Lib.hid hL2
        clear hown hmo hst hsr hoe hL2 hg7 HS2 g6
        simp only [Act.put, List.setIfInBounds_toArray, List.set_cons_zero, List.set_cons_succ]
        refine hl_take_np 10 (by kernel_rfl) (by kernel_rfl) rfl (by kernel_rfl) g7 (v := ?_) ?_ ?_
        rotate_left
        · (rintro x hx; clear hx; go_simp; try rfl)
        simp only [Act.put, List.setIfInBounds_toArray, List.set_cons_zero, List.set_cons_succ]
        refine hl_done (by kernel_rfl) ?_ _
        refine NoPanic.normal (HQ0.out _ _ ?_)
        clear HQ0
        clear hsD hzD
        have HR1 := Lib.hid (HR1.out.g g7)
        have HRL := Lib.hid (HRL.out.g g7)
        have HG7 := Lib.hid (HG1.out.trans g7)
        clear g7 HG1 HAP H
        go_wp2_with fail
        go_loopw [12] (fun iv wr => ∃ i : Nat, i ≤ n ∧ iv = .int .i64 ((i : Int) + 1) ∧ G W7 wr) (fun iv _ => n + 1 - (intOf iv).toNat)
        case atStart => exact ⟨0, by omega, rfl, G.refl _⟩
        case round =>
          obtain ⟨j, hjn, rfl, hg3⟩ := hrel
          by_cases hlj : j + 1 < n
          · have hljI : (j : Int) + 1 < (n : Int) := by omega
            have hA := eat_get (L := L1) (k := j) (by rw [HX1.out.2.2.2]; omega)
            have hB := eat_get (L := L1) (k := j + 1) (by rw [HX1.out.2.2.2]; exact hlj)
            obtain ⟨b1, o1, hp1, a0, a1, a2, a3, a4⟩ := (HR1.out.g hg3).at hA
            obtain ⟨b2, o2, hp2, u0, u1, u2, u3, u4⟩ := (HR1.out.g hg3).at hB
            subst hp1
            cases hp2
            have hea := ((HR1.out.g hg3).each _ (List.mem_of_getElem? hA)).isE
            have heb := ((HR1.out.g hg3).each _ (List.mem_of_getElem? hB)).isE
            have HAB := Lib.hid (fun X => ecmp_any (eat L1 j) (eat L1 (j + 1)) X hea heb)
            have hst := srt_step HX1.out.2.2.1 hlj
            obtain ⟨pa, na, ca, hva⟩ := hea
            obtain ⟨pb, nb, cb, hvb⟩ := heb
            unfold ev at HAB
            rw [hva, hvb] at HAB
            rw [hva] at a4
            rw [hvb] at u4
            obtain ⟨x, hx⟩ : ∃ x, x = ecmp (eat L1 j) (eat L1 (j + 1)) := ⟨_, rfl⟩
            rw [← hx] at HAB hst
            obtain ⟨A, hAe⟩ : ∃ A, A = eat L1 j := ⟨_, rfl⟩
            obtain ⟨B, hBe⟩ : ∃ B, B = eat L1 (j + 1) := ⟨_, rfl⟩
            rw [← hAe] at a0 a1 a2 a3
            rw [← hAe, ← hBe] at HAB
            rw [← hBe] at u0 u1 u2 u3
            clear hA hB hva hvb hx hAe hBe
            obtain ⟨k, hk⟩ : ∃ k, k = j + 1 := ⟨_, rfl⟩
            have hkI : (j : Int) + 1 = (k : Int) := by omega
            have hjI : (k : Int) - 1 = (j : Int) := by omega
            have hjw : IntKind.i64.wrap (j : Int) = j := IntWalk.i64_in _ (by omega)
            rw [← hk] at u0 u1 u2 u3 u4
            rw [hkI] at hljI ⊢
            have hlkN : k < n := by omega
            have hljN : j < n := by omega
            have HK := Lib.hid hk
            clear hk
            go_upto_region 22 with fail
            obtain ⟨WD, hWD⟩ : ∃ WD : World, WD = wr.drew := ⟨_, rfl⟩
            have hsD : G wr WD := by rw [hWD]; exact (G.refl wr).drew
            refine region_hlW (fun w' => G wr w') 99 11 (by kernel_rfl) rfl ?_
            intro Q0 HQ0
            simp only [List.replicate_succ, List.replicate_zero]
            rw [← hWD]
            clear hWD
            refine hl_take_np 0 (by kernel_rfl) (by kernel_rfl) rfl (by kernel_rfl) hsD (v := ?_) ?_ ?_
            rotate_left
            · (rintro x hx; have k0 := hx.cell a0; have l0 := hx.cell u0; have k1 := hx.cell a1; have l1 := hx.cell u1; have k2 := hx.cell a2; have l2 := hx.cell u2; have k3 := hx.cell a3; have l3 := hx.cell u3; have k4 := hx.cell a4; have l4 := hx.cell u4; clear hx; go_simp; try rfl)
            simp only [Act.put, List.setIfInBounds_toArray, List.set_cons_zero, List.set_cons_succ]
            refine hl_take_np 1 (by kernel_rfl) (by kernel_rfl) rfl (by kernel_rfl) hsD (v := ?_) ?_ ?_
            rotate_left
            · (rintro x hx; have k0 := hx.cell a0; have l0 := hx.cell u0; have k1 := hx.cell a1; have l1 := hx.cell u1; have k2 := hx.cell a2; have l2 := hx.cell u2; have k3 := hx.cell a3; have l3 := hx.cell u3; have k4 := hx.cell a4; have l4 := hx.cell u4; clear hx; go_simp; try rfl)
            simp only [Act.put, List.setIfInBounds_toArray, List.set_cons_zero, List.set_cons_succ]
            refine hl_take_np 2 (by kernel_rfl) (by kernel_rfl) rfl (by kernel_rfl) hsD (v := ?_) ?_ ?_
            rotate_left
            · (rintro x hx; have k0 := hx.cell a0; have l0 := hx.cell u0; have k1 := hx.cell a1; have l1 := hx.cell u1; have k2 := hx.cell a2; have l2 := hx.cell u2; have k3 := hx.cell a3; have l3 := hx.cell u3; have k4 := hx.cell a4; have l4 := hx.cell u4; clear hx; go_simp; try rfl)
            simp only [Act.put, List.setIfInBounds_toArray, List.set_cons_zero, List.set_cons_succ]
            refine hl_take_np 3 (by kernel_rfl) (by kernel_rfl) rfl (by kernel_rfl) hsD (v := ?_) ?_ ?_
            rotate_left
            · (rintro x hx; have k0 := hx.cell a0; have l0 := hx.cell u0; have k1 := hx.cell a1; have l1 := hx.cell u1; have k2 := hx.cell a2; have l2 := hx.cell u2; have k3 := hx.cell a3; have l3 := hx.cell u3; have k4 := hx.cell a4; have l4 := hx.cell u4; clear hx; go_simp; try rfl)
            simp only [Act.put, List.setIfInBounds_toArray, List.set_cons_zero, List.set_cons_succ]
            refine hl_take_np 4 (by kernel_rfl) (by kernel_rfl) rfl (by kernel_rfl) hsD (v := ?_) ?_ ?_
            rotate_left
            · (rintro x hx; have k0 := hx.cell a0; have l0 := hx.cell u0; have k1 := hx.cell a1; have l1 := hx.cell u1; have k2 := hx.cell a2; have l2 := hx.cell u2; have k3 := hx.cell a3; have l3 := hx.cell u3; have k4 := hx.cell a4; have l4 := hx.cell u4; clear hx; go_simp; try rfl)
            simp only [Act.put, List.setIfInBounds_toArray, List.set_cons_zero, List.set_cons_succ]
            refine hl_take_np 5 (by kernel_rfl) (by kernel_rfl) rfl (by kernel_rfl) hsD (v := ?_) ?_ ?_
            rotate_left
            · (rintro x hx; have k0 := hx.cell a0; have l0 := hx.cell u0; have k1 := hx.cell a1; have l1 := hx.cell u1; have k2 := hx.cell a2; have l2 := hx.cell u2; have k3 := hx.cell a3; have l3 := hx.cell u3; have k4 := hx.cell a4; have l4 := hx.cell u4; clear hx; go_simp; try rfl)
            simp only [Act.put, List.setIfInBounds_toArray, List.set_cons_zero, List.set_cons_succ]
            refine hl_take_np 6 (by kernel_rfl) (by kernel_rfl) rfl (by kernel_rfl) hsD (v := ?_) ?_ ?_
            rotate_left
            · (rintro x hx; have k0 := hx.cell a0; have l0 := hx.cell u0; have k1 := hx.cell a1; have l1 := hx.cell u1; have k2 := hx.cell a2; have l2 := hx.cell u2; have k3 := hx.cell a3; have l3 := hx.cell u3; have k4 := hx.cell a4; have l4 := hx.cell u4; clear hx; go_simp; try rfl)
            simp only [Act.put, List.setIfInBounds_toArray, List.set_cons_zero, List.set_cons_succ]
            refine hl_take_np 7 (by kernel_rfl) (by kernel_rfl) rfl (by kernel_rfl) hsD (v := ?_) ?_ ?_
            rotate_left
            · (rintro x hx; have k0 := hx.cell a0; have l0 := hx.cell u0; have k1 := hx.cell a1; have l1 := hx.cell u1; have k2 := hx.cell a2; have l2 := hx.cell u2; have k3 := hx.cell a3; have l3 := hx.cell u3; have k4 := hx.cell a4; have l4 := hx.cell u4; clear hx; go_simp; try rfl)
            simp only [Act.put, List.setIfInBounds_toArray, List.set_cons_zero, List.set_cons_succ]
            refine hl_take_np 8 (by kernel_rfl) (by kernel_rfl) rfl (by kernel_rfl) hsD (v := ?_) ?_ ?_
            rotate_left
            · (rintro x hx; have k0 := hx.cell a0; have l0 := hx.cell u0; have k1 := hx.cell a1; have l1 := hx.cell u1; have k2 := hx.cell a2; have l2 := hx.cell u2; have k3 := hx.cell a3; have l3 := hx.cell u3; have k4 := hx.cell a4; have l4 := hx.cell u4; clear hx; go_simp; try rfl)
            simp only [Act.put, List.setIfInBounds_toArray, List.set_cons_zero, List.set_cons_succ]
            refine hl_stepW 9 (by kernel_rfl) rfl (by kernel_rfl) ?_
            intro K hK
            go_simp
            refine (HAB.out WD).mono ?_
            rintro e W2 ⟨rfl, hgx⟩
            have hs2 : G wr W2 := hsD.trans hgx
            refine hK _ _ (fun _ => hs2) ?_
            clear hK K hgx
            simp only [Act.put, List.setIfInBounds_toArray, List.set_cons_zero, List.set_cons_succ]
            refine hl_take_np 10 (by kernel_rfl) (by kernel_rfl) rfl (by kernel_rfl) hs2 (v := ?_) ?_ ?_
            rotate_left
            · (rintro x hx; clear hx; go_simp; try rfl)
            simp only [Act.put, List.setIfInBounds_toArray, List.set_cons_zero, List.set_cons_succ]
            refine hl_done (by kernel_rfl) ?_ _
            refine NoPanic.normal (HQ0.out _ _ ?_)
            clear HQ0
            have hg4 := hg3.trans hs2
            clear a0 a1 a2 a3 a4 u0 u1 u2 u3 u4 hsD hs2 HAB
            go_wp2_with fail
            go_roundw
            case rel => exact ⟨j + 1, by omega, by first | go_num | (rw [HK.out]; go_num) | (have := HK.out; go_num), hg4⟩
            case measure => simp [intOf]; omega
          · have hljI : ¬ (j : Int) + 1 < (n : Int) := by omega
            go_wp2_with fail
            go_loopw [13] (fun iv wr => ∃ i : Nat, i ≤ n ∧ iv = .int .i64 i ∧ G W7 wr) (fun iv _ => n - (intOf iv).toNat)
            case atStart => exact ⟨0, by omega, rfl, hg3⟩
            case round =>
              obtain ⟨i, hin, rfl, hg4⟩ := hrel
              obtain ⟨WB, rfl⟩ : ∃ WB : World, WB = wr := ⟨_, rfl⟩
              by_cases hli : i < n
              · have hliI : (i : Int) < (n : Int) := by omega
                have HFN := Lib.hid (found_at HX1.out.1 HX1.out.2.1 (List.mem_of_getElem? (eat_get (L := l) (k := i) (by rw [← HN.out]; exact hli))))
                go_wp2_with fail
                go_loopw [14, 15] (fun fv kv wr => ∃ (f : Bool) (k : Nat), k ≤ n ∧ fv = .bool f ∧ kv = .int .i64 k ∧ Hid (f = false → ∀ q, q < k → sameE (eat l i) (eat L1 q) = false) ∧ G WB wr) (fun _ kv _ => n - (intOf kv).toNat)
                case atStart => exact ⟨false, 0, by omega, rfl, rfl, Lib.hid (fun _ q h1 => by omega), G.refl _⟩
                case round =>
                  obtain ⟨f, k, hkn, rfl, rfl, HF, hg5⟩ := hrel
                  have hg6 := hg4.trans hg5
                  cases f
                  · by_cases hlk : k < n
                    · have hlkI : (k : Int) < (n : Int) := by omega
                      have hA := eat_get (L := l) (k := i) (by rw [← HN.out]; exact hli)
                      have hB := eat_get (L := L1) (k := k) (by rw [HX1.out.2.2.2]; exact hlk)
                      obtain ⟨b1, o1, hp1, a0, a1, a2, a3, a4⟩ := (HRL.out.g hg6).at hA
                      obtain ⟨b2, o2, hp2, u0, u1, u2, u3, u4⟩ := (HR1.out.g hg6).at hB
                      subst hp1
                      subst hp2
                      have hea := (HRL.out.g hg6).each _ (List.mem_of_getElem? hA)
                      have heb := (HR1.out.g hg6).each _ (List.mem_of_getElem? hB)
                      have HSM := Lib.hid (fun X (hX : G wr X) => sameE_any (eat l i) (eat L1 k) X (hea.g hX) (heb.g hX))
                      obtain ⟨pa, na, ca, hva⟩ := hea.isE
                      obtain ⟨pb, nb, cb, hvb⟩ := heb.isE
                      unfold ev at HSM
                      rw [hva, hvb] at HSM
                      rw [hva] at a4
                      rw [hvb] at u4
                      obtain ⟨x, hx⟩ : ∃ x, x = sameE (eat l i) (eat L1 k) := ⟨_, rfl⟩
                      rw [← hx] at HSM
                      obtain ⟨A, hAe⟩ : ∃ A, A = eat l i := ⟨_, rfl⟩
                      obtain ⟨B, hBe⟩ : ∃ B, B = eat L1 k := ⟨_, rfl⟩
                      rw [← hAe] at a0 a1 a2 a3
                      rw [← hAe, ← hBe] at HSM
                      rw [← hBe] at u0 u1 u2 u3
                      have HX := Lib.hid hx
                      clear hA hB hva hvb hx hAe hBe hea heb
                      go_upto_region 31 with fail
                      obtain ⟨WD, hWD⟩ : ∃ WD : World, WD = wr.drew := ⟨_, rfl⟩
                      have hsD : G wr WD := by rw [hWD]; exact (G.refl wr).drew
                      refine region_hlW (fun w' => G wr w') 99 10 (by kernel_rfl) rfl ?_
                      intro Q0 HQ0
                      simp only [List.replicate_succ, List.replicate_zero]
                      rw [← hWD]
                      clear hWD
                      refine hl_take_np 0 (by kernel_rfl) (by kernel_rfl) rfl (by kernel_rfl) hsD (v := ?_) ?_ ?_
                      rotate_left
                      · (rintro x hx; have k0 := hx.cell a0; have l0 := hx.cell u0; have k1 := hx.cell a1; have l1 := hx.cell u1; have k2 := hx.cell a2; have l2 := hx.cell u2; have k3 := hx.cell a3; have l3 := hx.cell u3; have k4 := hx.cell a4; have l4 := hx.cell u4; clear hx; go_simp; try rfl)
                      simp only [Act.put, List.setIfInBounds_toArray, List.set_cons_zero, List.set_cons_succ]
                      refine hl_take_np 1 (by kernel_rfl) (by kernel_rfl) rfl (by kernel_rfl) hsD (v := ?_) ?_ ?_
                      rotate_left
                      · (rintro x hx; have k0 := hx.cell a0; have l0 := hx.cell u0; have k1 := hx.cell a1; have l1 := hx.cell u1; have k2 := hx.cell a2; have l2 := hx.cell u2; have k3 := hx.cell a3; have l3 := hx.cell u3; have k4 := hx.cell a4; have l4 := hx.cell u4; clear hx; go_simp; try rfl)
                      simp only [Act.put, List.setIfInBounds_toArray, List.set_cons_zero, List.set_cons_succ]
                      refine hl_take_np 2 (by kernel_rfl) (by kernel_rfl) rfl (by kernel_rfl) hsD (v := ?_) ?_ ?_
                      rotate_left
                      · (rintro x hx; have k0 := hx.cell a0; have l0 := hx.cell u0; have k1 := hx.cell a1; have l1 := hx.cell u1; have k2 := hx.cell a2; have l2 := hx.cell u2; have k3 := hx.cell a3; have l3 := hx.cell u3; have k4 := hx.cell a4; have l4 := hx.cell u4; clear hx; go_simp; try rfl)
                      simp only [Act.put, List.setIfInBounds_toArray, List.set_cons_zero, List.set_cons_succ]
                      refine hl_take_np 3 (by kernel_rfl) (by kernel_rfl) rfl (by kernel_rfl) hsD (v := ?_) ?_ ?_
                      rotate_left
                      · (rintro x hx; have k0 := hx.cell a0; have l0 := hx.cell u0; have k1 := hx.cell a1; have l1 := hx.cell u1; have k2 := hx.cell a2; have l2 := hx.cell u2; have k3 := hx.cell a3; have l3 := hx.cell u3; have k4 := hx.cell a4; have l4 := hx.cell u4; clear hx; go_simp; try rfl)
                      simp only [Act.put, List.setIfInBounds_toArray, List.set_cons_zero, List.set_cons_succ]
                      refine hl_take_np 4 (by kernel_rfl) (by kernel_rfl) rfl (by kernel_rfl) hsD (v := ?_) ?_ ?_
                      rotate_left
                      · (rintro x hx; have k0 := hx.cell a0; have l0 := hx.cell u0; have k1 := hx.cell a1; have l1 := hx.cell u1; have k2 := hx.cell a2; have l2 := hx.cell u2; have k3 := hx.cell a3; have l3 := hx.cell u3; have k4 := hx.cell a4; have l4 := hx.cell u4; clear hx; go_simp; try rfl)
                      simp only [Act.put, List.setIfInBounds_toArray, List.set_cons_zero, List.set_cons_succ]
                      refine hl_take_np 5 (by kernel_rfl) (by kernel_rfl) rfl (by kernel_rfl) hsD (v := ?_) ?_ ?_
                      rotate_left
                      · (rintro x hx; have k0 := hx.cell a0; have l0 := hx.cell u0; have k1 := hx.cell a1; have l1 := hx.cell u1; have k2 := hx.cell a2; have l2 := hx.cell u2; have k3 := hx.cell a3; have l3 := hx.cell u3; have k4 := hx.cell a4; have l4 := hx.cell u4; clear hx; go_simp; try rfl)
                      simp only [Act.put, List.setIfInBounds_toArray, List.set_cons_zero, List.set_cons_succ]
                      refine hl_take_np 6 (by kernel_rfl) (by kernel_rfl) rfl (by kernel_rfl) hsD (v := ?_) ?_ ?_
                      rotate_left
                      · (rintro x hx; have k0 := hx.cell a0; have l0 := hx.cell u0; have k1 := hx.cell a1; have l1 := hx.cell u1; have k2 := hx.cell a2; have l2 := hx.cell u2; have k3 := hx.cell a3; have l3 := hx.cell u3; have k4 := hx.cell a4; have l4 := hx.cell u4; clear hx; go_simp; try rfl)
                      simp only [Act.put, List.setIfInBounds_toArray, List.set_cons_zero, List.set_cons_succ]
                      refine hl_take_np 7 (by kernel_rfl) (by kernel_rfl) rfl (by kernel_rfl) hsD (v := ?_) ?_ ?_
                      rotate_left
                      · (rintro x hx; have k0 := hx.cell a0; have l0 := hx.cell u0; have k1 := hx.cell a1; have l1 := hx.cell u1; have k2 := hx.cell a2; have l2 := hx.cell u2; have k3 := hx.cell a3; have l3 := hx.cell u3; have k4 := hx.cell a4; have l4 := hx.cell u4; clear hx; go_simp; try rfl)
                      simp only [Act.put, List.setIfInBounds_toArray, List.set_cons_zero, List.set_cons_succ]
                      refine hl_stepW 8 (by kernel_rfl) rfl (by kernel_rfl) ?_
                      intro K hK
                      go_simp
                      refine (HSM.out WD hsD).mono ?_
                      rintro e W2 ⟨rfl, hgx⟩
                      have hs2 : G wr W2 := hsD.trans hgx
                      refine hK _ _ (fun _ => hs2) ?_
                      clear hK K hgx
                      simp only [Act.put, List.setIfInBounds_toArray, List.set_cons_zero, List.set_cons_succ]
                      refine hl_take_np 9 (by kernel_rfl) (by kernel_rfl) rfl (by kernel_rfl) hs2 (v := ?_) ?_ ?_
                      rotate_left
                      · (rintro x hx; clear hx; go_simp; try rfl)
                      simp only [Act.put, List.setIfInBounds_toArray, List.set_cons_zero, List.set_cons_succ]
                      refine hl_done (by kernel_rfl) ?_ _
                      refine NoPanic.normal (HQ0.out _ _ ?_)
                      clear HQ0
                      have hg7 := hg5.trans hs2
                      have HF2 := Lib.hid (show x = false → ∀ q, q < k + 1 → sameE (eat l i) (eat L1 q) = false from fun hb q h1 => by
                        by_cases h2 : q = k
                        · rw [h2, ← HX.out, hb]
                        · exact HF.out rfl q (by omega))
                      clear a0 a1 a2 a3 a4 u0 u1 u2 u3 u4 hsD hs2 HSM
                      go_wp2_with fail
                      go_roundw
                      case rel => exact ⟨x, k + 1, by omega, rfl, by go_num, HF2, hg7⟩
                      case measure => simp [intOf]; omega
                    · exfalso
                      obtain ⟨q, h1, h2⟩ := HFN.out
                      rw [HF.out rfl q (by rw [HX1.out.2.2.2] at h1; omega)] at h2
                      cases h2
                  · by_cases hlk : k < n
                    · have hlkI : (k : Int) < (n : Int) := by omega
                      go_wp2_with fail
                      go_roundw
                      case rel => exact ⟨i + 1, by omega, by go_num, hg6⟩
                      case measure => simp [intOf]; omega
                    · have hlkI : ¬ (k : Int) < (n : Int) := by omega
                      go_wp2_with fail
                      go_roundw
                      case rel => exact ⟨i + 1, by omega, by go_num, hg6⟩
                      case measure => simp [intOf]; omega
              · have hliI : ¬ (i : Int) < (n : Int) := by omega
                cases b
                · have HSE := Lib.hid (sameEs_any L1 L2 (.slice sp n sc) (.slice tp n tc) WB (HR1.out.g hg4) (HR2.out.g hg4) (by rw [HX1.out.2.2.2]; omega) (by rw [HL2.out]; omega))
                  rw [sameL_out.2 (HSAME.out rfl)] at HSE
                  go_wp2_with fail
                  refine HSE.out.mono ?_
                  rintro e w9 ⟨rfl, hg9⟩
                  go_wp2_with fail
                  go_ret
                  exact ⟨rfl, HG7.out.trans (hg4.trans hg9)⟩
                · go_wp2_with fail
                  go_ret
                  exact ⟨rfl, HG7.out.trans hg4⟩
end Go.Proofs.Ytfdajignnnhnmaa
