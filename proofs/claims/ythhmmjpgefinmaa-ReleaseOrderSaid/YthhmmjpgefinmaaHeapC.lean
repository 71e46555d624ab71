/- laid together: HeapC -/
import Derived.Test.YthhmmjpgefinmaaHeapB
/- an item sinks -/
namespace Go.Proofs.Ythhmmjpgefinmaa
set_option linter.unusedVariables false
set_option linter.unusedSimpArgs false
open Go.RowKit Go.Shelf
attribute [local go_sem] Oper.semAt_some

/-- the least, of the first kids -/
def lf (ks : List Item) (k : Nat) : Nat → Nat
  | 0 => k
  | 1 => lsr ks k (2 * k + 1)
  | _ => lst ks k
theorem lf_succ (ks : List Item) (k j : Nat) (hj : j < 2) : lf ks k (j + 1) = lsr ks (lf ks k j) (2 * k + 1 + j) := by
  rcases (by omega : j = 0 ∨ j = 1) with rfl | rfl <;> rfl
theorem lsr_yes {ks : List Item} {l kid : Nat} (h : kid < ks.length) (hc : icmp (at' ks kid) (at' ks l) < 0) : lsr ks l kid = kid := by unfold lsr; exact if_pos ⟨h, hc⟩
theorem lsr_no {ks : List Item} {l kid : Nat} (hc : ¬ (kid < ks.length ∧ icmp (at' ks kid) (at' ks l) < 0)) : lsr ks l kid = l := by unfold lsr; exact if_neg hc

set_option maxHeartbeats 2000000 in
theorem sink_any (S : Nat → Prop) (B : Nat) (v : Value) (hs : List Item) (w : World) (h : HeapAt S w B v hs) (hn : hs.length ≤ 1000000) :
    Calls Try.prog 92 #[.pointer (some ⟨B, 0, none⟩)] w fun e w' => (∃ u, e = .returned u) ∧ HeapAt S w' B v (sink hs 0) ∧ Fr S w w' := by
  obtain ⟨p, c, hv⟩ := ownsRow_shape h.own
  subst hv
  obtain ⟨n, hnn⟩ : ∃ n, n = hs.length := ⟨_, rfl⟩
  rw [← hnn] at hn h ⊢
  have HN := Lib.hid hnn
  have H := Lib.hid h
  clear hnn h
  have ix0 : ∀ (a b : Value) (w : World), (Instr.index 140 (.agg #[a, b]) (.int .i64 0)).run Try.prog w = .ok a w := fun a b w => by kernel_rfl
  have ix1 : ∀ (a b : Value) (w : World), (Instr.index 140 (.agg #[a, b]) (.int .i64 1)).run Try.prog w = .ok b w := fun a b w => by kernel_rfl
  go_enter Try.func92, Try.ntmps92
  go_wp2_with fail
  go_step3
  go_wp2_with fail
  go_step3
  go_wp2_with fail
  go_loopg [2] (n + 1) (fun g i wr => ∃ (k : Nat) (ks : List Item), g = n + 1 - k ∧ (k < n ∨ k = 0) ∧ i = .int .i64 k ∧ Hid (HeapAt S wr B (.slice p n c) ks ∧ ks.length = n ∧ sink ks k = sink hs 0) ∧ Fr S w wr)
  case atStart => exact ⟨0, hs, by omega, .inr rfl, rfl, (⟨H.out, HN.out.symm, rfl⟩ : HeapAt S w B (.slice p n c) hs ∧ hs.length = n ∧ sink hs 0 = sink hs 0), Fr.refl _ _⟩
  case round =>
    obtain ⟨k, ks, rfl, hk, rfl, HI, hf⟩ := hrel
    obtain ⟨cb, -, -, -⟩ := box2 HI.out.1.box
    have hk6 : k ≤ 1000000 := by omega
    go_wp2_with fail
    obtain ⟨wo, hwo⟩ : ∃ wo : World, wo = wr := ⟨_, rfl⟩
    rw [← hwo] at HI hf cb ⊢
    clear hwo
    go_loopg [3, 14] 3 (fun g le i wi => ∃ (j l : Nat), g = 3 - j ∧ j ≤ 2 ∧ i = .int .i64 j ∧ le = .int .i64 l ∧ Hid (l = lf ks k j) ∧ (l = k ∨ l < n) ∧ G wo wi)
    case atStart => exact ⟨0, k, by omega, by omega, rfl, rfl, (rfl : k = lf ks k 0), .inl rfl, G.refl _⟩
    case round =>
      obtain ⟨j, l, rfl, hj, rfl, rfl, HL, hl, hgi⟩ := hrel
      have cbi := hgi.cell cb
      by_cases hj2 : j < 2
      · have HSU := Lib.hid (lf_succ ks k j hj2)
        rw [← HL.out] at HSU
        by_cases hkid : 2 * k + 1 + j < n
        · have hln : l < n := by omega
          obtain ⟨g, hp, ck0, ck1⟩ := own_at HI.out.1.own (k := 2 * k + 1 + j) (by rw [HI.out.2.1]; exact hkid)
          subst hp
          obtain ⟨g', hp, cl0, cl1⟩ := own_at HI.out.1.own (k := l) (by rw [HI.out.2.1]; exact hln)
          cases hp
          have ck0 := hgi.cell ck0
          have ck1 := hgi.cell ck1
          have cl0 := hgi.cell cl0
          have cl1 := hgi.cell cl1
          generalize hxk : at' ks (2 * k + 1 + j) = xk at ck0 ck1
          generalize hxl : at' ks l = xl at cl0 cl1
          obtain ⟨r, hr⟩ : ∃ r, r = icmp xk xl := ⟨_, rfl⟩
          have HRY : Hid (r < 0 → lf ks k (j + 1) = 2 * k + 1 + j) := Lib.hid (fun h => by rw [HSU.out]; exact lsr_yes (by rw [HI.out.2.1]; exact hkid) (by rw [hxk, hxl, ← hr]; exact h))
          have HRN : Hid (¬ r < 0 → lf ks k (j + 1) = l) := Lib.hid (fun h => by rw [HSU.out]; exact lsr_no (fun h' => h (by have := h'.2; rw [hxk, hxl, ← hr] at this; exact this)))
          have HR := Lib.hid hr
          clear hxk hxl hr HSU cb
          obtain ⟨xk0, xk1⟩ := xk
          obtain ⟨xl0, xl1⟩ := xl
          simp only at ck0 ck1 cl0 cl1
          have hkI : 2 * (k : Int) + 1 + (j : Int) < (n : Int) := by omega
          rcases (by omega : j = 0 ∨ j = 1) with rfl | rfl
          · have e0 : 2 * k + 1 + 0 = 2 * k + 1 := by omega
            rw [e0] at ck0 ck1 hkid HRY
            have hkn : 2 * (k : Int) + 1 < (n : Int) := by omega
            have hkp : (0 : Int) ≤ 2 * (k : Int) + 1 := by omega
            have hkt : (2 * (k : Int) + 1).toNat = 2 * k + 1 := by omega
            clear hkI e0
            go_upto_region 6 with fail
            refine region_hl (fun w' => G wr w') 99 16 (by kernel_rfl) rfl ?_
            simp only [List.replicate_succ, List.replicate_zero]
            have hs0 : (fun w' => G wr w') wr.drew := (G.refl wr).drew
            refine hl_take_np 0 (by kernel_rfl) (by kernel_rfl) rfl (by kernel_rfl) hs0 (v := ?_) ?_ ?_
            rotate_left
            · (rintro x hx; have k0 := hx.cell cbi; have k1 := hx.cell ck0; have k2 := hx.cell ck1; have k3 := hx.cell cl0; have k4 := hx.cell cl1; clear hx; go_simp; try rfl)
            simp only [Act.put, List.setIfInBounds_toArray, List.set_cons_zero, List.set_cons_succ]
            refine hl_take_np 1 (by kernel_rfl) (by kernel_rfl) rfl (by kernel_rfl) hs0 (v := ?_) ?_ ?_
            rotate_left
            · (rintro x hx; have k0 := hx.cell cbi; have k1 := hx.cell ck0; have k2 := hx.cell ck1; have k3 := hx.cell cl0; have k4 := hx.cell cl1; clear hx; go_simp; try rfl)
            simp only [Act.put, List.setIfInBounds_toArray, List.set_cons_zero, List.set_cons_succ]
            refine hl_take_np 2 (by kernel_rfl) (by kernel_rfl) rfl (by kernel_rfl) hs0 (v := ?_) ?_ ?_
            rotate_left
            · (rintro x hx; have k0 := hx.cell cbi; have k1 := hx.cell ck0; have k2 := hx.cell ck1; have k3 := hx.cell cl0; have k4 := hx.cell cl1; clear hx; go_simp; try rfl)
            simp only [Act.put, List.setIfInBounds_toArray, List.set_cons_zero, List.set_cons_succ]
            refine hl_take_np 3 (by kernel_rfl) (by kernel_rfl) rfl (by kernel_rfl) hs0 (v := ?_) ?_ ?_
            rotate_left
            · (rintro x hx; have k0 := hx.cell cbi; have k1 := hx.cell ck0; have k2 := hx.cell ck1; have k3 := hx.cell cl0; have k4 := hx.cell cl1; clear hx; go_simp; try rfl)
            simp only [Act.put, List.setIfInBounds_toArray, List.set_cons_zero, List.set_cons_succ]
            refine hl_take_np 4 (by kernel_rfl) (by kernel_rfl) rfl (by kernel_rfl) hs0 (v := ?_) ?_ ?_
            rotate_left
            · (rintro x hx; have k0 := hx.cell cbi; have k1 := hx.cell ck0; have k2 := hx.cell ck1; have k3 := hx.cell cl0; have k4 := hx.cell cl1; clear hx; go_simp; try rfl)
            simp only [Act.put, List.setIfInBounds_toArray, List.set_cons_zero, List.set_cons_succ]
            refine hl_take_np 5 (by kernel_rfl) (by kernel_rfl) rfl (by kernel_rfl) hs0 (v := ?_) ?_ ?_
            rotate_left
            · (rintro x hx; have k0 := hx.cell cbi; have k1 := hx.cell ck0; have k2 := hx.cell ck1; have k3 := hx.cell cl0; have k4 := hx.cell cl1; clear hx; go_simp; try rfl)
            simp only [Act.put, List.setIfInBounds_toArray, List.set_cons_zero, List.set_cons_succ]
            refine hl_take_np 6 (by kernel_rfl) (by kernel_rfl) rfl (by kernel_rfl) hs0 (v := ?_) ?_ ?_
            rotate_left
            · (rintro x hx; have k0 := hx.cell cbi; have k1 := hx.cell ck0; have k2 := hx.cell ck1; have k3 := hx.cell cl0; have k4 := hx.cell cl1; clear hx; go_simp; try rfl)
            simp only [Act.put, List.setIfInBounds_toArray, List.set_cons_zero, List.set_cons_succ]
            refine hl_take_np 7 (by kernel_rfl) (by kernel_rfl) rfl (by kernel_rfl) hs0 (v := ?_) ?_ ?_
            rotate_left
            · (rintro x hx; have k0 := hx.cell cbi; have k1 := hx.cell ck0; have k2 := hx.cell ck1; have k3 := hx.cell cl0; have k4 := hx.cell cl1; clear hx; go_simp; try rfl)
            simp only [Act.put, List.setIfInBounds_toArray, List.set_cons_zero, List.set_cons_succ]
            refine hl_take_np 8 (by kernel_rfl) (by kernel_rfl) rfl (by kernel_rfl) hs0 (v := ?_) ?_ ?_
            rotate_left
            · (rintro x hx; have k0 := hx.cell cbi; have k1 := hx.cell ck0; have k2 := hx.cell ck1; have k3 := hx.cell cl0; have k4 := hx.cell cl1; clear hx; go_simp; try rfl)
            simp only [Act.put, List.setIfInBounds_toArray, List.set_cons_zero, List.set_cons_succ]
            refine hl_take_np 9 (by kernel_rfl) (by kernel_rfl) rfl (by kernel_rfl) hs0 (v := ?_) ?_ ?_
            rotate_left
            · (rintro x hx; have k0 := hx.cell cbi; have k1 := hx.cell ck0; have k2 := hx.cell ck1; have k3 := hx.cell cl0; have k4 := hx.cell cl1; clear hx; go_simp; try rfl)
            simp only [Act.put, List.setIfInBounds_toArray, List.set_cons_zero, List.set_cons_succ]
            refine hl_take_np 10 (by kernel_rfl) (by kernel_rfl) rfl (by kernel_rfl) hs0 (v := ?_) ?_ ?_
            rotate_left
            · (rintro x hx; have k0 := hx.cell cbi; have k1 := hx.cell ck0; have k2 := hx.cell ck1; have k3 := hx.cell cl0; have k4 := hx.cell cl1; clear hx; go_simp; try rfl)
            simp only [Act.put, List.setIfInBounds_toArray, List.set_cons_zero, List.set_cons_succ]
            refine hl_take_np 11 (by kernel_rfl) (by kernel_rfl) rfl (by kernel_rfl) hs0 (v := ?_) ?_ ?_
            rotate_left
            · (rintro x hx; have k0 := hx.cell cbi; have k1 := hx.cell ck0; have k2 := hx.cell ck1; have k3 := hx.cell cl0; have k4 := hx.cell cl1; clear hx; go_simp; try rfl)
            simp only [Act.put, List.setIfInBounds_toArray, List.set_cons_zero, List.set_cons_succ]
            refine hl_take_np 12 (by kernel_rfl) (by kernel_rfl) rfl (by kernel_rfl) hs0 (v := ?_) ?_ ?_
            rotate_left
            · (rintro x hx; have k0 := hx.cell cbi; have k1 := hx.cell ck0; have k2 := hx.cell ck1; have k3 := hx.cell cl0; have k4 := hx.cell cl1; clear hx; go_simp; try rfl)
            simp only [Act.put, List.setIfInBounds_toArray, List.set_cons_zero, List.set_cons_succ]
            refine hl_take_np 13 (by kernel_rfl) (by kernel_rfl) rfl (by kernel_rfl) hs0 (v := ?_) ?_ ?_
            rotate_left
            · (rintro x hx; have k0 := hx.cell cbi; have k1 := hx.cell ck0; have k2 := hx.cell ck1; have k3 := hx.cell cl0; have k4 := hx.cell cl1; clear hx; go_simp; try rfl)
            simp only [Act.put, List.setIfInBounds_toArray, List.set_cons_zero, List.set_cons_succ]
            refine hl_stepW 14 (by kernel_rfl) rfl (by kernel_rfl) ?_
            intro K hK
            go_simp
            refine (order_any (xk0, xk1) (xl0, xl1) _).mono ?_
            rintro e w' ⟨rfl, hga⟩
            have hs1 : G wr w' := hs0.trans hga
            refine hK _ _ (fun _ => hs1) ?_
            clear hK
            simp only [Act.put, List.setIfInBounds_toArray, List.set_cons_zero, List.set_cons_succ]
            rw [← HR.out]
            refine hl_take_np 15 (by kernel_rfl) (by kernel_rfl) rfl (by kernel_rfl) hs1 (v := ?_) ?_ ?_
            rotate_left
            · (rintro x hx; clear hx; go_simp; try rfl)
            simp only [Act.put, List.setIfInBounds_toArray, List.set_cons_zero, List.set_cons_succ]
            refine hl_done (by kernel_rfl) ?_ _
            refine NoPanic.normal ?_
            have hgo := hgi.trans hs1
            clear hs0 hs1 hga hgi cbi ck0 ck1 cl0 cl1
            by_cases hr0 : r < 0
            · have HX := Lib.hid (HRY.out hr0)
              go_wp2_with fail
              go_roundg (3 - (0 + 1))
              case rel => exact ⟨0 + 1, 2 * k + 1, rfl, by omega, by go_num, by go_num, Lib.hid HX.out.symm, .inr hkid, hgo⟩
              all_goals omega
            · have HX := Lib.hid (HRN.out hr0)
              have hrd : decide (r < 0) = false := by simpa using hr0
              go_wp2_with fail
              go_roundg (3 - (0 + 1))
              case rel => exact ⟨0 + 1, l, rfl, by omega, by go_num, rfl, Lib.hid HX.out.symm, hl, hgo⟩
              all_goals omega
          · have e0 : 2 * k + 1 + 1 = 2 * k + 2 := by omega
            rw [e0] at ck0 ck1 hkid HRY
            have hkn : 2 * (k : Int) + 2 < (n : Int) := by omega
            have hkp : (0 : Int) ≤ 2 * (k : Int) + 2 := by omega
            have hkt : (2 * (k : Int) + 2).toNat = 2 * k + 2 := by omega
            clear hkI e0
            go_upto_region 6 with fail
            refine region_hl (fun w' => G wr w') 99 16 (by kernel_rfl) rfl ?_
            simp only [List.replicate_succ, List.replicate_zero]
            have hs0 : (fun w' => G wr w') wr.drew := (G.refl wr).drew
            refine hl_take_np 0 (by kernel_rfl) (by kernel_rfl) rfl (by kernel_rfl) hs0 (v := ?_) ?_ ?_
            rotate_left
            · (rintro x hx; have k0 := hx.cell cbi; have k1 := hx.cell ck0; have k2 := hx.cell ck1; have k3 := hx.cell cl0; have k4 := hx.cell cl1; clear hx; go_simp; try rfl)
            simp only [Act.put, List.setIfInBounds_toArray, List.set_cons_zero, List.set_cons_succ]
            refine hl_take_np 1 (by kernel_rfl) (by kernel_rfl) rfl (by kernel_rfl) hs0 (v := ?_) ?_ ?_
            rotate_left
            · (rintro x hx; have k0 := hx.cell cbi; have k1 := hx.cell ck0; have k2 := hx.cell ck1; have k3 := hx.cell cl0; have k4 := hx.cell cl1; clear hx; go_simp; try rfl)
            simp only [Act.put, List.setIfInBounds_toArray, List.set_cons_zero, List.set_cons_succ]
            refine hl_take_np 2 (by kernel_rfl) (by kernel_rfl) rfl (by kernel_rfl) hs0 (v := ?_) ?_ ?_
            rotate_left
            · (rintro x hx; have k0 := hx.cell cbi; have k1 := hx.cell ck0; have k2 := hx.cell ck1; have k3 := hx.cell cl0; have k4 := hx.cell cl1; clear hx; go_simp; try rfl)
            simp only [Act.put, List.setIfInBounds_toArray, List.set_cons_zero, List.set_cons_succ]
            refine hl_take_np 3 (by kernel_rfl) (by kernel_rfl) rfl (by kernel_rfl) hs0 (v := ?_) ?_ ?_
            rotate_left
            · (rintro x hx; have k0 := hx.cell cbi; have k1 := hx.cell ck0; have k2 := hx.cell ck1; have k3 := hx.cell cl0; have k4 := hx.cell cl1; clear hx; go_simp; try rfl)
            simp only [Act.put, List.setIfInBounds_toArray, List.set_cons_zero, List.set_cons_succ]
            refine hl_take_np 4 (by kernel_rfl) (by kernel_rfl) rfl (by kernel_rfl) hs0 (v := ?_) ?_ ?_
            rotate_left
            · (rintro x hx; have k0 := hx.cell cbi; have k1 := hx.cell ck0; have k2 := hx.cell ck1; have k3 := hx.cell cl0; have k4 := hx.cell cl1; clear hx; go_simp; try rfl)
            simp only [Act.put, List.setIfInBounds_toArray, List.set_cons_zero, List.set_cons_succ]
            refine hl_take_np 5 (by kernel_rfl) (by kernel_rfl) rfl (by kernel_rfl) hs0 (v := ?_) ?_ ?_
            rotate_left
            · (rintro x hx; have k0 := hx.cell cbi; have k1 := hx.cell ck0; have k2 := hx.cell ck1; have k3 := hx.cell cl0; have k4 := hx.cell cl1; clear hx; go_simp; try rfl)
            simp only [Act.put, List.setIfInBounds_toArray, List.set_cons_zero, List.set_cons_succ]
            refine hl_take_np 6 (by kernel_rfl) (by kernel_rfl) rfl (by kernel_rfl) hs0 (v := ?_) ?_ ?_
            rotate_left
            · (rintro x hx; have k0 := hx.cell cbi; have k1 := hx.cell ck0; have k2 := hx.cell ck1; have k3 := hx.cell cl0; have k4 := hx.cell cl1; clear hx; go_simp; try rfl)
            simp only [Act.put, List.setIfInBounds_toArray, List.set_cons_zero, List.set_cons_succ]
            refine hl_take_np 7 (by kernel_rfl) (by kernel_rfl) rfl (by kernel_rfl) hs0 (v := ?_) ?_ ?_
            rotate_left
            · (rintro x hx; have k0 := hx.cell cbi; have k1 := hx.cell ck0; have k2 := hx.cell ck1; have k3 := hx.cell cl0; have k4 := hx.cell cl1; clear hx; go_simp; try rfl)
            simp only [Act.put, List.setIfInBounds_toArray, List.set_cons_zero, List.set_cons_succ]
            refine hl_take_np 8 (by kernel_rfl) (by kernel_rfl) rfl (by kernel_rfl) hs0 (v := ?_) ?_ ?_
            rotate_left
            · (rintro x hx; have k0 := hx.cell cbi; have k1 := hx.cell ck0; have k2 := hx.cell ck1; have k3 := hx.cell cl0; have k4 := hx.cell cl1; clear hx; go_simp; try rfl)
            simp only [Act.put, List.setIfInBounds_toArray, List.set_cons_zero, List.set_cons_succ]
            refine hl_take_np 9 (by kernel_rfl) (by kernel_rfl) rfl (by kernel_rfl) hs0 (v := ?_) ?_ ?_
            rotate_left
            · (rintro x hx; have k0 := hx.cell cbi; have k1 := hx.cell ck0; have k2 := hx.cell ck1; have k3 := hx.cell cl0; have k4 := hx.cell cl1; clear hx; go_simp; try rfl)
            simp only [Act.put, List.setIfInBounds_toArray, List.set_cons_zero, List.set_cons_succ]
            refine hl_take_np 10 (by kernel_rfl) (by kernel_rfl) rfl (by kernel_rfl) hs0 (v := ?_) ?_ ?_
            rotate_left
            · (rintro x hx; have k0 := hx.cell cbi; have k1 := hx.cell ck0; have k2 := hx.cell ck1; have k3 := hx.cell cl0; have k4 := hx.cell cl1; clear hx; go_simp; try rfl)
            simp only [Act.put, List.setIfInBounds_toArray, List.set_cons_zero, List.set_cons_succ]
            refine hl_take_np 11 (by kernel_rfl) (by kernel_rfl) rfl (by kernel_rfl) hs0 (v := ?_) ?_ ?_
            rotate_left
            · (rintro x hx; have k0 := hx.cell cbi; have k1 := hx.cell ck0; have k2 := hx.cell ck1; have k3 := hx.cell cl0; have k4 := hx.cell cl1; clear hx; go_simp; try rfl)
            simp only [Act.put, List.setIfInBounds_toArray, List.set_cons_zero, List.set_cons_succ]
            refine hl_take_np 12 (by kernel_rfl) (by kernel_rfl) rfl (by kernel_rfl) hs0 (v := ?_) ?_ ?_
            rotate_left
            · (rintro x hx; have k0 := hx.cell cbi; have k1 := hx.cell ck0; have k2 := hx.cell ck1; have k3 := hx.cell cl0; have k4 := hx.cell cl1; clear hx; go_simp; try rfl)
            simp only [Act.put, List.setIfInBounds_toArray, List.set_cons_zero, List.set_cons_succ]
            refine hl_take_np 13 (by kernel_rfl) (by kernel_rfl) rfl (by kernel_rfl) hs0 (v := ?_) ?_ ?_
            rotate_left
            · (rintro x hx; have k0 := hx.cell cbi; have k1 := hx.cell ck0; have k2 := hx.cell ck1; have k3 := hx.cell cl0; have k4 := hx.cell cl1; clear hx; go_simp; try rfl)
            simp only [Act.put, List.setIfInBounds_toArray, List.set_cons_zero, List.set_cons_succ]
            refine hl_stepW 14 (by kernel_rfl) rfl (by kernel_rfl) ?_
            intro K hK
            go_simp
            refine (order_any (xk0, xk1) (xl0, xl1) _).mono ?_
            rintro e w' ⟨rfl, hga⟩
            have hs1 : G wr w' := hs0.trans hga
            refine hK _ _ (fun _ => hs1) ?_
            clear hK
            simp only [Act.put, List.setIfInBounds_toArray, List.set_cons_zero, List.set_cons_succ]
            rw [← HR.out]
            refine hl_take_np 15 (by kernel_rfl) (by kernel_rfl) rfl (by kernel_rfl) hs1 (v := ?_) ?_ ?_
            rotate_left
            · (rintro x hx; clear hx; go_simp; try rfl)
            simp only [Act.put, List.setIfInBounds_toArray, List.set_cons_zero, List.set_cons_succ]
            refine hl_done (by kernel_rfl) ?_ _
            refine NoPanic.normal ?_
            have hgo := hgi.trans hs1
            clear hs0 hs1 hga hgi cbi ck0 ck1 cl0 cl1
            by_cases hr0 : r < 0
            · have HX := Lib.hid (HRY.out hr0)
              go_wp2_with fail
              go_roundg (3 - (1 + 1))
              case rel => exact ⟨1 + 1, 2 * k + 2, rfl, by omega, by go_num, by go_num, Lib.hid HX.out.symm, .inr hkid, hgo⟩
              all_goals omega
            · have HX := Lib.hid (HRN.out hr0)
              have hrd : decide (r < 0) = false := by simpa using hr0
              go_wp2_with fail
              go_roundg (3 - (1 + 1))
              case rel => exact ⟨1 + 1, l, rfl, by omega, by go_num, rfl, Lib.hid HX.out.symm, hl, hgo⟩
              all_goals omega
        · rcases (by omega : j = 0 ∨ j = 1) with rfl | rfl
          · have HX : Hid (lf ks k (0 + 1) = l) := Lib.hid (by rw [HSU.out]; exact lsr_no (fun h' => hkid (by have := h'.1; rw [HI.out.2.1] at this; exact this)))
            have hkn : (n : Int) ≤ 2 * (k : Int) + 1 := by omega
            clear HSU cb
            go_wp2_with fail
            go_roundg (3 - (0 + 1))
            case rel => exact ⟨0 + 1, l, rfl, by omega, by go_num, rfl, Lib.hid HX.out.symm, hl, hgi⟩
            all_goals omega
          · have HX : Hid (lf ks k (1 + 1) = l) := Lib.hid (by rw [HSU.out]; exact lsr_no (fun h' => hkid (by have := h'.1; rw [HI.out.2.1] at this; exact this)))
            have hkn : (n : Int) ≤ 2 * (k : Int) + 2 := by omega
            clear HSU cb
            go_wp2_with fail
            go_roundg (3 - (1 + 1))
            case rel => exact ⟨1 + 1, l, rfl, by omega, by go_num, rfl, Lib.hid HX.out.symm, hl, hgi⟩
            all_goals omega
      · obtain rfl : j = 2 := by omega
        clear hj2 hj
        have HLS : Hid (l = lst ks k) := Lib.hid HL.out
        have HIi := Lib.hid (HI.out.1.g hgi)
        have hfi : Fr S w wr := hf.trans (hgi.fr S) (fun _ _ h => h)
        by_cases hlk : l = k
        · subst hlk
          have HR : Hid (sink hs 0 = ks) := Lib.hid (by rw [← HI.out.2.2, sink, dif_pos HLS.out.symm])
          go_wp2_with fail
          try rw [Exit.noGoto_normal]
          go_returns
          exact ⟨⟨_, rfl⟩, by rw [HR.out]; exact HIi.out, hfi⟩
        · have hlkI : ((l : Int) == (k : Int)) = false := by simp; omega
          have hln : l < n := by omega
          have hkl : k < l := by
            have := lst_cases ks k
            have e := HLS.out
            omega
          have hkn : k < n := by omega
          have HR : Hid (sink (swp ks k l) l = sink hs 0) := Lib.hid (by
            rw [← HI.out.2.2, sink.eq_1 ks k, dif_neg (by rw [← HLS.out]; exact hlk), ← HLS.out])
          obtain ⟨g, hp, ck0, ck1⟩ := own_at HIi.out.own (k := k) (by rw [HI.out.2.1]; exact hkn)
          subst hp
          obtain ⟨g', hp, cl0, cl1⟩ := own_at HIi.out.own (k := l) (by rw [HI.out.2.1]; exact hln)
          cases hp
          have f0 : wr.frozen? ⟨g, k * 2, none⟩ = false := hown_froz HIi.out.own
          have f1 : wr.frozen? ⟨g, k * 2 + 1, none⟩ = false := hown_froz HIi.out.own
          have f2 : wr.frozen? ⟨g, l * 2, none⟩ = false := hown_froz HIi.out.own
          have f3 : wr.frozen? ⟨g, l * 2 + 1, none⟩ = false := hown_froz HIi.out.own
          have hgB := (HIi.out.inV g rfl).2
          have HS := Lib.hid (HIi.out.swap (i := k) (j := l) HI.out.2.1.symm)
          generalize hxk : at' ks k = xk at ck0 ck1 HS
          generalize hxl : at' ks l = xl at cl0 cl1 HS
          clear hxk hxl
          obtain ⟨xk0, xk1⟩ := xk
          obtain ⟨xl0, xl1⟩ := xl
          simp only at ck0 ck1 cl0 cl1
          have HFS := Lib.hid (hfi.trans (Fr.set4 (S := S) (W := wr) (g := g) (a := k * 2) (b := k * 2 + 1) (c := l * 2) (d := l * 2 + 1) (u := .int .i64 xl0) (v := .int .i64 xl1) (x := .int .i64 xk0) (y := .int .i64 xk1) (HIi.out.inV g rfl).1) (fun _ _ h => h))
          have HLN : Hid ((swp ks k l).length = n) := Lib.hid (by rw [swp_len]; exact HI.out.2.1)
          have hcb := cbi
          clear hf hfi hgi cb hk
          go_wp2_with fail
          go_region
          go_wp2_with fail
          go_roundg (n + 1 - l)
          case rel => exact ⟨l, swp ks k l, rfl, .inl hln, rfl, (⟨HS.out.g (G.drew (G.refl _)), HLN.out, HR.out⟩ : HeapAt S _ B (.slice (some ⟨g, 0, none⟩) n c) (swp ks k l) ∧ (swp ks k l).length = n ∧ sink (swp ks k l) l = sink hs 0), HFS.out.drew⟩
          all_goals omega
end Go.Proofs.Ythhmmjpgefinmaa
