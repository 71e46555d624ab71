/- the buffer: find, Has -/
import Derived.Test.YtahdodijpmkddaaBufB
set_option maxRecDepth 10000
namespace Go.Proofs.Ytahdodijpmkddaa
set_option linter.unusedVariables false
set_option linter.unusedSimpArgs false
open Go.RowKit Go.Shelf
attribute [local go_sem] Oper.semAt_some

def InR (t : Int) : Prop := -9223372036854775808 ≤ t ∧ t ≤ 9223372036854775807
set_option maxHeartbeats 4000000 in
theorem find_any (S P : Nat → Prop) (B : Nat) (s : List Out) (p : Bp) (E : Edg) (w : World) (h : BufIn S P w B s p) (hE : IsE E) (ht : InR E.tm) (hn : s.length ≤ 1000000) :
    Calls Try.prog 31 #[.pointer (some ⟨B, 0, none⟩), ev E] w fun e w' => ∃ k : Nat, Spot (p.R E.tm) E k ∧ e = .returned (.tuple #[.int .i64 k, .bool (hasO (okey (outE E)) s)]) ∧ G w w' := by
  have HS : Hid (∀ X, G w X → Calls Try.prog 57 #[p.m E.tm, ev E, CMPF] X fun e w' => ∃ k : Nat, Spot (p.R E.tm) E k ∧ e = .returned (.tuple #[.int .i64 k, .bool (hasO (okey (outE E)) s)]) ∧ G X w') := Lib.hid (fun X hX => by
    have hst : OStr ((p.R E.tm).map outE) := by rw [h.out]; exact gr_str h.str
    refine (search_any (p.R E.tm) (p.m E.tm) E X (((h.rows E.tm).fr (hX.fr (fun _ => False)) (fun _ _ h => h)).rdr) (h.rows E.tm).isE hE (by have := h.lenle E.tm; omega) (str_down hst E)).mono ?_
    rintro e w' ⟨k, hk, rfl, hg⟩
    refine ⟨k, hk, ?_, hg⟩
    rw [spot_is hst hk, h.out, show E.tm = (okey (outE E)).1 from rfl, hasO_gr])
  obtain ⟨bc0, bc1⟩ := box2b h
  have HM := Lib.hid (show ∀ X, G w X → (Instr.lookup 54 (.map (some p.M)) (.int .i64 E.tm) false).run Try.prog X = .ok (p.m E.tm) X from fun X hX => ((h.map.g hX).look ht).1)
  obtain ⟨rp, rn, rc, hrow⟩ := (h.map.look ht).2
  obtain ⟨ef, et, el, em, evv, eps⟩ := E
  obtain ⟨pe, ne, ce, hev⟩ := id hE
  simp only at hev hrow HM HS ⊢
  subst hev
  generalize p.m em = row at hrow HM HS
  subst hrow
  unfold ev at HS ⊢
  simp only at HS ⊢
  generalize hasO (okey (outE ⟨ef, et, el, em, .slice pe ne ce, eps⟩)) s = is at HS ⊢
  generalize p.M = M at bc1 HM
  have hgB : G w (w.alloc (.cells #[.string ef, .string et, .string el, .int .i64 em, .slice pe ne ce] 33)) := (G.refl w).alloc _
  have d0 := cell_alloc_at w [.string ef, .string et, .string el, .int .i64 em, .slice pe ne ce] 33 (0, 0) 0 _ rfl
  have d1 := cell_alloc_at w [.string ef, .string et, .string el, .int .i64 em, .slice pe ne ce] 33 (0, 0) 1 _ rfl
  have d2 := cell_alloc_at w [.string ef, .string et, .string el, .int .i64 em, .slice pe ne ce] 33 (0, 0) 2 _ rfl
  have d3 := cell_alloc_at w [.string ef, .string et, .string el, .int .i64 em, .slice pe ne ce] 33 (0, 0) 3 _ rfl
  have d4 := cell_alloc_at w [.string ef, .string et, .string el, .int .i64 em, .slice pe ne ce] 33 (0, 0) 4 _ rfl
  simp only [Nat.zero_add] at d0 d1 d2 d3 d4
  clear h hE ht hn bc0
  go_enter Try.func31, Try.ntmps31
  go_upto_region 1 with fail
  have bc1 := hgB.cell bc1
  generalize (w.alloc (.cells #[.string ef, .string et, .string el, .int .i64 em, .slice pe ne ce] 33)) = WB at hgB d0 d1 d2 d3 d4 bc1 ⊢
  obtain ⟨WD, hWD⟩ : ∃ WD : World, WD = WB.drew := ⟨_, rfl⟩
  have hsD : G WB WD := by rw [hWD]; exact (G.refl WB).drew
  refine region_hlW (fun w' => G WB w') 99 13 (by kernel_rfl) rfl ?_
  intro Q0 HQ0
  simp only [List.replicate_succ, List.replicate_zero]
  rw [← hWD]
  clear hWD
  refine hl_take_np 0 (by kernel_rfl) (by kernel_rfl) rfl (by kernel_rfl) hsD (v := ?_) ?_ ?_
  rotate_left
  · (rintro x hx; have k_d0 := hx.cell d0; have k_d1 := hx.cell d1; have k_d2 := hx.cell d2; have k_d3 := hx.cell d3; have k_d4 := hx.cell d4; have k_bc1 := hx.cell bc1; clear hx; go_simp; try rfl)
  simp only [Act.put, List.setIfInBounds_toArray, List.set_cons_zero, List.set_cons_succ]
  refine hl_take_np 1 (by kernel_rfl) (by kernel_rfl) rfl (by kernel_rfl) hsD (v := ?_) ?_ ?_
  rotate_left
  · (rintro x hx; have k_d0 := hx.cell d0; have k_d1 := hx.cell d1; have k_d2 := hx.cell d2; have k_d3 := hx.cell d3; have k_d4 := hx.cell d4; have k_bc1 := hx.cell bc1; clear hx; go_simp; try rfl)
  simp only [Act.put, List.setIfInBounds_toArray, List.set_cons_zero, List.set_cons_succ]
  refine hl_take_np 2 (by kernel_rfl) (by kernel_rfl) rfl (by kernel_rfl) hsD (v := ?_) ?_ ?_
  rotate_left
  · (rintro x hx; have k_d0 := hx.cell d0; have k_d1 := hx.cell d1; have k_d2 := hx.cell d2; have k_d3 := hx.cell d3; have k_d4 := hx.cell d4; have k_bc1 := hx.cell bc1; clear hx; go_simp; try rfl)
  simp only [Act.put, List.setIfInBounds_toArray, List.set_cons_zero, List.set_cons_succ]
  refine hl_take_np 3 (by kernel_rfl) (by kernel_rfl) rfl (by kernel_rfl) hsD (v := ?_) ?_ ?_
  rotate_left
  · (rintro x hx; have k_d0 := hx.cell d0; have k_d1 := hx.cell d1; have k_d2 := hx.cell d2; have k_d3 := hx.cell d3; have k_d4 := hx.cell d4; have k_bc1 := hx.cell bc1; clear hx; go_simp; try rfl)
  simp only [Act.put, List.setIfInBounds_toArray, List.set_cons_zero, List.set_cons_succ]
  refine hl_take_np 4 (by kernel_rfl) (by kernel_rfl) rfl (by kernel_rfl) hsD (v := ?_) ?_ ?_
  rotate_left
  · (rintro x hx; have k_d0 := hx.cell d0; have k_d1 := hx.cell d1; have k_d2 := hx.cell d2; have k_d3 := hx.cell d3; have k_d4 := hx.cell d4; have k_bc1 := hx.cell bc1; clear hx; go_simp; try rfl)
  simp only [Act.put, List.setIfInBounds_toArray, List.set_cons_zero, List.set_cons_succ]
  refine hl_take_np 5 (by kernel_rfl) (by kernel_rfl) rfl (by kernel_rfl) hsD (v := ?_) ?_ ?_
  rotate_left
  · (rintro x hx; have k_d0 := hx.cell d0; have k_d1 := hx.cell d1; have k_d2 := hx.cell d2; have k_d3 := hx.cell d3; have k_d4 := hx.cell d4; have k_bc1 := hx.cell bc1; clear hx; go_simp; try rfl)
  simp only [Act.put, List.setIfInBounds_toArray, List.set_cons_zero, List.set_cons_succ]
  refine hl_take_np 6 (by kernel_rfl) (by kernel_rfl) rfl (by kernel_rfl) hsD (v := ?_) ?_ ?_
  rotate_left
  · (rintro x hx; have hlk := HM.out x (hgB.trans hx); clear hx; go_simp; try rfl)
  simp only [Act.put, List.setIfInBounds_toArray, List.set_cons_zero, List.set_cons_succ]
  refine hl_take_np 7 (by kernel_rfl) (by kernel_rfl) rfl (by kernel_rfl) hsD (v := ?_) ?_ ?_
  rotate_left
  · (rintro x hx; have k_d0 := hx.cell d0; have k_d1 := hx.cell d1; have k_d2 := hx.cell d2; have k_d3 := hx.cell d3; have k_d4 := hx.cell d4; have k_bc1 := hx.cell bc1; clear hx; go_simp; try rfl)
  simp only [Act.put, List.setIfInBounds_toArray, List.set_cons_zero, List.set_cons_succ]
  refine hl_stepW 8 (by kernel_rfl) rfl (by kernel_rfl) ?_
  intro K hK
  go_simp
  refine (HS.out WD (hgB.trans hsD)).mono ?_
  rintro e W2 ⟨k, hsp, rfl, hga⟩
  have hs2 : G WB W2 := hsD.trans hga
  refine hK _ _ (fun _ => hs2) ?_
  clear hK K hga d0 d1 d2 d3 d4 bc1 HM HS
  simp only [Act.put, List.setIfInBounds_toArray, List.set_cons_zero, List.set_cons_succ]
  refine hl_take_np 9 (by kernel_rfl) (by kernel_rfl) rfl (by kernel_rfl) hs2 (v := ?_) ?_ ?_
  rotate_left
  · (rintro x hx; clear hx; go_simp; try rfl)
  simp only [Act.put, List.setIfInBounds_toArray, List.set_cons_zero, List.set_cons_succ]
  refine hl_take_np 10 (by kernel_rfl) (by kernel_rfl) rfl (by kernel_rfl) hs2 (v := ?_) ?_ ?_
  rotate_left
  · (rintro x hx; clear hx; go_simp; try rfl)
  simp only [Act.put, List.setIfInBounds_toArray, List.set_cons_zero, List.set_cons_succ]
  refine hl_take_np 11 (by kernel_rfl) (by kernel_rfl) rfl (by kernel_rfl) hs2 (v := ?_) ?_ ?_
  rotate_left
  · (rintro x hx; clear hx; go_simp; try rfl)
  simp only [Act.put, List.setIfInBounds_toArray, List.set_cons_zero, List.set_cons_succ]
  refine hl_take_np 12 (by kernel_rfl) (by kernel_rfl) rfl (by kernel_rfl) hs2 (v := ?_) ?_ ?_
  rotate_left
  · (rintro x hx; clear hx; go_simp; try rfl)
  simp only [Act.put, List.setIfInBounds_toArray, List.set_cons_zero, List.set_cons_succ]
  refine hl_done (by kernel_rfl) ?_ _
  refine NoPanic.normal (HQ0.out _ _ ?_)
  clear HQ0
  have hE2 := hgB.trans hs2
  clear hsD hs2
  have HSP := Lib.hid hsp
  clear hsp
  go_wp2_with fail
  refine bodyPost_ret (v := .tuple #[.int .i64 k, .bool is]) ?_ rfl ⟨k, HSP.out, rfl, hE2⟩
  simp [results, Try.results31, go_sem]
theorem bhas_any (S P : Nat → Prop) (B : Nat) (s : List Out) (p : Bp) (E : Edg) (w : World) (h : BufIn S P w B s p) (hE : IsE E) (ht : InR E.tm) (hn : s.length ≤ 1000000) :
    Calls Try.prog 42 #[.pointer (some ⟨B, 0, none⟩), ev E] w fun e w' => e = .returned (.bool (hasO (okey (outE E)) s)) ∧ G w w' := by
  have HF := Lib.hid (fun X (hX : G w X) => find_any S P B s p E X (h.g hX) hE ht hn)
  obtain ⟨bc0, bc1⟩ := box2b h
  obtain ⟨ef, et, el, em, evv, eps⟩ := E
  obtain ⟨pe, ne, ce, hev⟩ := id hE
  simp only at hev
  subst hev
  unfold ev at HF ⊢
  simp only at HF ⊢
  generalize hasO (okey (outE ⟨ef, et, el, em, .slice pe ne ce, eps⟩)) s = is at HF ⊢
  have hgB : G w (w.alloc (.cells #[.string ef, .string et, .string el, .int .i64 em, .slice pe ne ce] 33)) := (G.refl w).alloc _
  have d0 := cell_alloc_at w [.string ef, .string et, .string el, .int .i64 em, .slice pe ne ce] 33 (0, 0) 0 _ rfl
  have d1 := cell_alloc_at w [.string ef, .string et, .string el, .int .i64 em, .slice pe ne ce] 33 (0, 0) 1 _ rfl
  have d2 := cell_alloc_at w [.string ef, .string et, .string el, .int .i64 em, .slice pe ne ce] 33 (0, 0) 2 _ rfl
  have d3 := cell_alloc_at w [.string ef, .string et, .string el, .int .i64 em, .slice pe ne ce] 33 (0, 0) 3 _ rfl
  have d4 := cell_alloc_at w [.string ef, .string et, .string el, .int .i64 em, .slice pe ne ce] 33 (0, 0) 4 _ rfl
  simp only [Nat.zero_add] at d0 d1 d2 d3 d4
  clear h hE ht hn bc0
  go_enter Try.func42, Try.ntmps42
  go_upto_region 1 with fail
  have bc1 := hgB.cell bc1
  have HF := Lib.hid (HF.out _ hgB)
  generalize (w.alloc (.cells #[.string ef, .string et, .string el, .int .i64 em, .slice pe ne ce] 33)) = WB at hgB d0 d1 d2 d3 d4 bc1 HF ⊢
  go_wp2_with fail
  refine (bmade_any bc1).mono ?_
  rintro e w' ⟨rfl, rfl⟩
  go_wp2_with fail
  refine HF.out.mono ?_
  rintro e w2 ⟨k, -, rfl, hg2⟩
  have hgE := hgB.trans hg2
  clear hgB hg2 HF d0 d1 d2 d3 d4 bc1
  go_wp2_with fail
  go_ret
  exact ⟨rfl, hgE⟩
end Go.Proofs.Ytahdodijpmkddaa
