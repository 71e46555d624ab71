/- the buffer: Put -/
import Derived.Test.YthhmmjpgefinmaaBufV
set_option maxRecDepth 10000
namespace Go.Proofs.Ythhmmjpgefinmaa
set_option linter.unusedVariables false
set_option linter.unusedSimpArgs false
open Go.RowKit Go.Shelf
attribute [local go_sem] Oper.semAt_some

theorem EdgAt.frn {S : Nat → Prop} {W W' : World} {E : Edg} (h : EdgAt W E) (hf : Fr S W W') (hs : 0 < E.ps.length → ∀ g, E.v.ownBlock = some g → ¬ S g) : EdgAt W' E := by
  rcases Nat.eq_zero_or_pos E.ps.length with h0 | h0
  · obtain ⟨h1, p, c, h2, -⟩ := h.rdr
    exact ⟨⟨h1, p, c, h2, fun h3 => by omega⟩, h.n, h.ps, h.f, h.t, h.l⟩
  · exact h.fr hf (hs h0)
/-- what Put shows -/
def PutOut (S P : Nat → Prop) (B : Nat) (s : List Out) (E : Edg) (w : World) (e : Ending) (w' : World) : Prop :=
  (checkE E ≠ 0 ∧ e = .returned (.int .i64 (checkE E)) ∧ G w w') ∨ (checkE E = 0 ∧ hasO (okey (outE E)) s = true ∧ e = .returned (.int .i64 9) ∧ G w w') ∨
    (checkE E = 0 ∧ hasO (okey (outE E)) s = false ∧ e = .returned (.int .i64 0) ∧ ∃ S' P' p', BufIn S' P' w' B (insO (outE E) s) p' ∧ (∀ k, S' k → S k ∨ w.heap.size ≤ k) ∧ (∀ k, P' k → P k ∨ w.heap.size ≤ k) ∧ (∀ k, S k → S' k) ∧ Fr S w w')
set_option maxHeartbeats 8000000 in
theorem bput_any (S P : Nat → Prop) (B : Nat) (s : List Out) (p : Bp) (E : Edg) (w : World) (h : BufIn S P w B s p) (hE : EdgAt w E) (ht : InR E.tm) (hn : s.length ≤ 100000) (hnp : E.ps.length ≤ 1000000) (hES : 0 < E.ps.length → ∀ g, E.v.ownBlock = some g → ¬ S g) :
    Calls Try.prog 33 #[.pointer (some ⟨B, 0, none⟩), ev E] w (PutOut S P B s E w) := by
  have HC := Lib.hid (fun X (hX : G w X) => check_any E X (hE.g hX))
  have HF := Lib.hid (fun X (hX : G w X) => find_any S P B s p E X (h.g hX) hE.isE ht (by omega))
  have HCO : Hid (∀ X, EdgAt X E → Calls Try.prog 37 #[ev E] X fun e w' => ∃ u, e = .returned (ev (lentE E u)) ∧ OwnE w' X.heap.size (lentE E u) ∧ G X w') := Lib.hid (fun X hX => copied_any E X hX hnp)
  have HES := Lib.hid hES
  have hrowlt : ∀ g, (p.m E.tm).ownBlock = some g → g < w.heap.size := fun g hg => h.lt g (.inl (h.sR _ g hg))
  have hrowne := h.ne.2 E.tm
  have hSHlt : ∀ g, p.SH g → g < w.heap.size := fun g hg => h.lt g (.inl (h.sH g hg))
  have hkmem : (p.R E.tm).length = 0 ↔ E.tm ∉ p.ks := by
    rw [List.length_eq_zero_iff, ← List.map_eq_nil_iff (f := outE), h.out, gr_nil, h.keys]
  have hBSH := h.hB
  have HKL := Lib.hid (show p.ks.length ≤ 100000 by have := h.klen; omega)
  obtain ⟨bc0, bc1⟩ := box2b h
  have HH := Lib.hid h
  have HEA := Lib.hid hE
  have HLK0 : Hid (∀ X, MapS X p.M p.m p.ks → (Instr.lookup 79 (.map (some p.M)) (.int .i64 E.tm) false).run Try.prog X = .ok (p.m E.tm) X) := Lib.hid (fun X hX => (hX.look ht).1)
  obtain ⟨rp, rc, hsh⟩ := (h.rows E.tm).shape
  obtain ⟨n, hnn⟩ : ∃ n, n = (p.R E.tm).length := ⟨_, rfl⟩
  rw [← hnn] at hsh
  rw [hsh] at HLK0 hrowlt hrowne
  rw [← hnn] at hkmem
  have HNN := Lib.hid hnn
  have HROW := Lib.hid hsh
  have HE0 := Lib.hid (show IsE E from hE.isE)
  obtain ⟨ck, hck⟩ : ∃ c, c = checkE E := ⟨_, rfl⟩
  obtain ⟨is, his⟩ : ∃ b, b = hasO (okey (outE E)) s := ⟨_, rfl⟩
  have HCK := Lib.hid hck
  have HIS := Lib.hid his
  rw [← hck] at HC
  rw [← his] at HF
  have hbB : B < w.heap.size := h.lt B (.inl h.sB)
  obtain ⟨pe, ne, ce, hev⟩ := id hE.isE
  have hEv : ev E = .agg #[.string E.f, .string E.t, .string E.l, .int .i64 E.tm, .slice pe ne ce] := by unfold ev; rw [hev]
  rw [hEv] at HC HF HCO ⊢
  obtain ⟨ef, hef⟩ : ∃ x, x = E.f := ⟨_, rfl⟩
  obtain ⟨et, het⟩ : ∃ x, x = E.t := ⟨_, rfl⟩
  obtain ⟨el, hel⟩ : ∃ x, x = E.l := ⟨_, rfl⟩
  obtain ⟨em, hem⟩ : ∃ x, x = E.tm := ⟨_, rfl⟩
  rw [← hef, ← het, ← hel, ← hem] at HC HF HCO ⊢
  rw [← hem] at HLK0 hkmem
  have HRG := Lib.hid (show InR em by rw [hem]; exact ht)
  have HPS := Lib.hid (show E.f = ef ∧ E.t = et ∧ E.l = el ∧ E.tm = em from ⟨hef.symm, het.symm, hel.symm, hem.symm⟩)
  have hgB : G w (w.alloc (.cells #[.string ef, .string et, .string el, .int .i64 em, .slice pe ne ce] 51)) := (G.refl w).alloc _
  have d0 := cell_alloc_at w [.string ef, .string et, .string el, .int .i64 em, .slice pe ne ce] 51 (0, 0) 0 _ rfl
  have d1 := cell_alloc_at w [.string ef, .string et, .string el, .int .i64 em, .slice pe ne ce] 51 (0, 0) 1 _ rfl
  have d2 := cell_alloc_at w [.string ef, .string et, .string el, .int .i64 em, .slice pe ne ce] 51 (0, 0) 2 _ rfl
  have d3 := cell_alloc_at w [.string ef, .string et, .string el, .int .i64 em, .slice pe ne ce] 51 (0, 0) 3 _ rfl
  have d4 := cell_alloc_at w [.string ef, .string et, .string el, .int .i64 em, .slice pe ne ce] 51 (0, 0) 4 _ rfl
  simp only [Nat.zero_add] at d0 d1 d2 d3 d4
  obtain ⟨M, hM⟩ : ∃ M, M = p.M := ⟨_, rfl⟩
  obtain ⟨HB, hHB⟩ : ∃ M, M = p.H := ⟨_, rfl⟩
  have HM := Lib.hid hM
  have HHB := Lib.hid hHB
  rw [← hM] at bc1
  rw [← hHB] at bc0
  rw [← hM] at HLK0
  clear h hE hnp hES hsh hnn hck his hev hEv hef het hel hem hM hHB
  go_enter Try.func33, Try.ntmps33
  go_upto_region 1 with fail
  have bc1 := hgB.cell bc1
  have bc0 := hgB.cell bc0
  generalize (w.alloc (.cells #[.string ef, .string et, .string el, .int .i64 em, .slice pe ne ce] 51)) = WB at hgB d0 d1 d2 d3 d4 bc1 bc0 ⊢
  go_wp2_with fail
  refine (bmade_any bc1).mono ?_
  rintro e w' ⟨rfl, rfl⟩
  go_wp2_with fail
  refine (HC.out _ hgB).mono ?_
  rintro e w2 ⟨rfl, hg2⟩
  have d0 := hg2.cell d0
  have d1 := hg2.cell d1
  have d2 := hg2.cell d2
  have d3 := hg2.cell d3
  have d4 := hg2.cell d4
  have bc0 := hg2.cell bc0
  have bc1 := hg2.cell bc1
  have hgw := hgB.trans hg2
  clear hg2 hgB HC
  by_cases hck0 : ck = 0
  · subst hck0
    go_wp2_with fail
    refine (HF.out _ hgw).mono ?_
    rintro e w3 ⟨k, hsp, rfl, hg3⟩
    have d0 := hg3.cell d0
    have d1 := hg3.cell d1
    have d2 := hg3.cell d2
    have d3 := hg3.cell d3
    have d4 := hg3.cell d4
    have bc0 := hg3.cell bc0
    have bc1 := hg3.cell bc1
    have hgx := hgw.trans hg3
    have HSP := Lib.hid hsp
    clear hg3 hsp HF hgw
    cases is
    · have HMAP := Lib.hid (show MapS w3 M p.m p.ks by rw [HM.out]; exact HH.out.map.g hgx)
      go_upto_region 9 with fail
      obtain ⟨WD, hWD⟩ : ∃ WD : World, WD = w3.drew := ⟨_, rfl⟩
      have hsD : G w3 WD := by rw [hWD]; exact (G.refl w3).drew
      refine region_hlW (fun w' => G w3 w') 99 9 (by kernel_rfl) rfl ?_
      intro Q0 HQ0
      simp only [List.replicate_succ, List.replicate_zero]
      rw [← hWD]
      clear hWD
      refine hl_take_np 0 (by kernel_rfl) (by kernel_rfl) rfl (by kernel_rfl) hsD (v := ?_) ?_ ?_
      rotate_left
      · (rintro x hx; have k_bc1 := hx.cell bc1; have k_d0 := hx.cell d0; have k_d1 := hx.cell d1; have k_d2 := hx.cell d2; have k_d3 := hx.cell d3; have k_d4 := hx.cell d4; clear hx; go_simp; try rfl)
      simp only [Act.put, List.setIfInBounds_toArray, List.set_cons_zero, List.set_cons_succ]
      refine hl_take_np 1 (by kernel_rfl) (by kernel_rfl) rfl (by kernel_rfl) hsD (v := ?_) ?_ ?_
      rotate_left
      · (rintro x hx; have k_bc1 := hx.cell bc1; have k_d0 := hx.cell d0; have k_d1 := hx.cell d1; have k_d2 := hx.cell d2; have k_d3 := hx.cell d3; have k_d4 := hx.cell d4; clear hx; go_simp; try rfl)
      simp only [Act.put, List.setIfInBounds_toArray, List.set_cons_zero, List.set_cons_succ]
      refine hl_take_np 2 (by kernel_rfl) (by kernel_rfl) rfl (by kernel_rfl) hsD (v := ?_) ?_ ?_
      rotate_left
      · (rintro x hx; have k_bc1 := hx.cell bc1; have k_d0 := hx.cell d0; have k_d1 := hx.cell d1; have k_d2 := hx.cell d2; have k_d3 := hx.cell d3; have k_d4 := hx.cell d4; clear hx; go_simp; try rfl)
      simp only [Act.put, List.setIfInBounds_toArray, List.set_cons_zero, List.set_cons_succ]
      refine hl_take_np 3 (by kernel_rfl) (by kernel_rfl) rfl (by kernel_rfl) hsD (v := ?_) ?_ ?_
      rotate_left
      · (rintro x hx; have k_bc1 := hx.cell bc1; have k_d0 := hx.cell d0; have k_d1 := hx.cell d1; have k_d2 := hx.cell d2; have k_d3 := hx.cell d3; have k_d4 := hx.cell d4; clear hx; go_simp; try rfl)
      simp only [Act.put, List.setIfInBounds_toArray, List.set_cons_zero, List.set_cons_succ]
      refine hl_take_np 4 (by kernel_rfl) (by kernel_rfl) rfl (by kernel_rfl) hsD (v := ?_) ?_ ?_
      rotate_left
      · (rintro x hx; have k_bc1 := hx.cell bc1; have k_d0 := hx.cell d0; have k_d1 := hx.cell d1; have k_d2 := hx.cell d2; have k_d3 := hx.cell d3; have k_d4 := hx.cell d4; clear hx; go_simp; try rfl)
      simp only [Act.put, List.setIfInBounds_toArray, List.set_cons_zero, List.set_cons_succ]
      refine hl_take_np 5 (by kernel_rfl) (by kernel_rfl) rfl (by kernel_rfl) hsD (v := ?_) ?_ ?_
      rotate_left
      · (rintro x hx; have k_bc1 := hx.cell bc1; have k_d0 := hx.cell d0; have k_d1 := hx.cell d1; have k_d2 := hx.cell d2; have k_d3 := hx.cell d3; have k_d4 := hx.cell d4; clear hx; go_simp; try rfl)
      simp only [Act.put, List.setIfInBounds_toArray, List.set_cons_zero, List.set_cons_succ]
      refine hl_take_np 6 (by kernel_rfl) (by kernel_rfl) rfl (by kernel_rfl) hsD (v := ?_) ?_ ?_
      rotate_left
      · (rintro x hx; have hlk := HLK0.out x (HMAP.out.g hx); clear hx; go_simp; try rfl)
      simp only [Act.put, List.setIfInBounds_toArray, List.set_cons_zero, List.set_cons_succ]
      refine hl_take_np 7 (by kernel_rfl) (by kernel_rfl) rfl (by kernel_rfl) hsD (v := ?_) ?_ ?_
      rotate_left
      · (rintro x hx; clear hx; go_simp; try rfl)
      simp only [Act.put, List.setIfInBounds_toArray, List.set_cons_zero, List.set_cons_succ]
      have HSZ0 := Lib.hid (show w.heap.size ≤ w3.heap.size from hgx.size)
      by_cases hn0 : n = 0
      · subst hn0
        refine hl_take_np 8 (by kernel_rfl) (by kernel_rfl) rfl (by kernel_rfl) hsD (v := ?_) ?_ ?_
        rotate_left
        · (rintro x hx; clear hx; go_simp; try rfl)
        simp only [Act.put, List.setIfInBounds_toArray, List.set_cons_zero, List.set_cons_succ]
        refine hl_done (by kernel_rfl) ?_ _
        refine NoPanic.normal (HQ0.out _ _ ?_)
        clear HQ0
        have hg9 := hgx.trans hsD
        have d0 := hsD.cell d0
        have d1 := hsD.cell d1
        have d2 := hsD.cell d2
        have d3 := hsD.cell d3
        have d4 := hsD.cell d4
        have bc0 := hsD.cell bc0
        have bc1 := hsD.cell bc1
        clear hsD hgx HMAP
        have hkm : em ∉ p.ks := hkmem.1 rfl
        go_upto_region 10 with fail
        obtain ⟨W9, hW9⟩ : ∃ W9 : World, W9 = WD := ⟨_, rfl⟩
        rw [← hW9] at hg9 d0 d1 d2 d3 d4 bc0 bc1 ⊢
        clear hW9
        clear WD
        have hDSH : ¬ p.SH w.heap.size := fun hc => by have := hSHlt _ hc; omega
        obtain ⟨WD, hWD⟩ : ∃ WD : World, WD = W9.drew := ⟨_, rfl⟩
        have hsD : G W9 WD := by rw [hWD]; exact (G.refl W9).drew
        have hsF : Fr p.SH W9 WD := hsD.fr _
        refine region_hlW (fun w' => Fr p.SH W9 w') 99 10 (by kernel_rfl) rfl ?_
        intro Q0 HQ0
        simp only [List.replicate_succ, List.replicate_zero]
        rw [← hWD]
        clear hWD
        refine hl_take_np 0 (by kernel_rfl) (by kernel_rfl) rfl (by kernel_rfl) hsF (v := ?_) ?_ ?_
        rotate_left
        · (rintro x hx; have kbc0 := Fr.cell hx hBSH bc0; have kd0 := Fr.cell hx hDSH d0; have kd1 := Fr.cell hx hDSH d1; have kd2 := Fr.cell hx hDSH d2; have kd3 := Fr.cell hx hDSH d3; have kd4 := Fr.cell hx hDSH d4; clear hx; go_simp; try rfl)
        simp only [Act.put, List.setIfInBounds_toArray, List.set_cons_zero, List.set_cons_succ]
        refine hl_take_np 1 (by kernel_rfl) (by kernel_rfl) rfl (by kernel_rfl) hsF (v := ?_) ?_ ?_
        rotate_left
        · (rintro x hx; have kbc0 := Fr.cell hx hBSH bc0; have kd0 := Fr.cell hx hDSH d0; have kd1 := Fr.cell hx hDSH d1; have kd2 := Fr.cell hx hDSH d2; have kd3 := Fr.cell hx hDSH d3; have kd4 := Fr.cell hx hDSH d4; clear hx; go_simp; try rfl)
        simp only [Act.put, List.setIfInBounds_toArray, List.set_cons_zero, List.set_cons_succ]
        refine hl_take_np 2 (by kernel_rfl) (by kernel_rfl) rfl (by kernel_rfl) hsF (v := ?_) ?_ ?_
        rotate_left
        · (rintro x hx; have kbc0 := Fr.cell hx hBSH bc0; have kd0 := Fr.cell hx hDSH d0; have kd1 := Fr.cell hx hDSH d1; have kd2 := Fr.cell hx hDSH d2; have kd3 := Fr.cell hx hDSH d3; have kd4 := Fr.cell hx hDSH d4; clear hx; go_simp; try rfl)
        simp only [Act.put, List.setIfInBounds_toArray, List.set_cons_zero, List.set_cons_succ]
        refine hl_take_np 3 (by kernel_rfl) (by kernel_rfl) rfl (by kernel_rfl) hsF (v := ?_) ?_ ?_
        rotate_left
        · (rintro x hx; have kbc0 := Fr.cell hx hBSH bc0; have kd0 := Fr.cell hx hDSH d0; have kd1 := Fr.cell hx hDSH d1; have kd2 := Fr.cell hx hDSH d2; have kd3 := Fr.cell hx hDSH d3; have kd4 := Fr.cell hx hDSH d4; clear hx; go_simp; try rfl)
        simp only [Act.put, List.setIfInBounds_toArray, List.set_cons_zero, List.set_cons_succ]
        refine hl_take_np 4 (by kernel_rfl) (by kernel_rfl) rfl (by kernel_rfl) hsF (v := ?_) ?_ ?_
        rotate_left
        · (rintro x hx; have kbc0 := Fr.cell hx hBSH bc0; have kd0 := Fr.cell hx hDSH d0; have kd1 := Fr.cell hx hDSH d1; have kd2 := Fr.cell hx hDSH d2; have kd3 := Fr.cell hx hDSH d3; have kd4 := Fr.cell hx hDSH d4; clear hx; go_simp; try rfl)
        simp only [Act.put, List.setIfInBounds_toArray, List.set_cons_zero, List.set_cons_succ]
        refine hl_take_np 5 (by kernel_rfl) (by kernel_rfl) rfl (by kernel_rfl) hsF (v := ?_) ?_ ?_
        rotate_left
        · (rintro x hx; have kbc0 := Fr.cell hx hBSH bc0; have kd0 := Fr.cell hx hDSH d0; have kd1 := Fr.cell hx hDSH d1; have kd2 := Fr.cell hx hDSH d2; have kd3 := Fr.cell hx hDSH d3; have kd4 := Fr.cell hx hDSH d4; clear hx; go_simp; try rfl)
        simp only [Act.put, List.setIfInBounds_toArray, List.set_cons_zero, List.set_cons_succ]
        refine hl_take_np 6 (by kernel_rfl) (by kernel_rfl) rfl (by kernel_rfl) hsF (v := ?_) ?_ ?_
        rotate_left
        · (rintro x hx; have kbc0 := Fr.cell hx hBSH bc0; have kd0 := Fr.cell hx hDSH d0; have kd1 := Fr.cell hx hDSH d1; have kd2 := Fr.cell hx hDSH d2; have kd3 := Fr.cell hx hDSH d3; have kd4 := Fr.cell hx hDSH d4; clear hx; go_simp; try rfl)
        simp only [Act.put, List.setIfInBounds_toArray, List.set_cons_zero, List.set_cons_succ]
        refine hl_take_np 7 (by kernel_rfl) (by kernel_rfl) rfl (by kernel_rfl) hsF (v := ?_) ?_ ?_
        rotate_left
        · (rintro x hx; have kbc0 := Fr.cell hx hBSH bc0; have kd0 := Fr.cell hx hDSH d0; have kd1 := Fr.cell hx hDSH d1; have kd2 := Fr.cell hx hDSH d2; have kd3 := Fr.cell hx hDSH d3; have kd4 := Fr.cell hx hDSH d4; clear hx; go_simp; try rfl)
        simp only [Act.put, List.setIfInBounds_toArray, List.set_cons_zero, List.set_cons_succ]
        refine hl_stepW 8 (by kernel_rfl) rfl (by kernel_rfl) ?_
        intro K hK
        go_simp
        refine hK _ _ (fun _ => (hsD.alloc _).fr _) ?_
        clear hK K
        simp only [Act.put, List.setIfInBounds_toArray, List.set_cons_zero, List.set_cons_succ]
        have HPU := Lib.hid (push_any p.SH p.H p.v p.hs [(em, 0)] (.slice (some ⟨WD.heap.size, 0, none⟩) 1 1) (WD.alloc (.cells #[.int .i64 em, .int .i64 0] 94)) (HH.out.hat.g ((hg9.trans hsD).alloc _)) (rdr_alloc WD [.int .i64 em, .int .i64 0] 94 (0, 0) 2 1 1 rfl) (fun _ q hq hc => by obtain rfl : WD.heap.size = q := (by cases hq; rfl); have h1 := hSHlt _ hc; have h2 := hg9.size; have h3 := hsD.size; omega) (by have := HH.out.hlen; simp; omega))
        rw [← HHB.out] at HPU
        refine hl_stepW 9 (by kernel_rfl) rfl (by kernel_rfl) ?_
        intro K hK
        go_simp
        refine HPU.out.mono ?_
        rintro e W4 ⟨rfl, v', SH', hat4, hgr4, hf4⟩
        have hf4w : Fr p.SH w W4 := (((hg9.trans hsD).alloc _).fr _).trans hf4 (fun _ _ h => h)
        have hf94 : Fr p.SH W9 W4 := ((hsD.alloc _).fr _).trans hf4 (fun _ _ h => h)
        refine hK _ _ (fun _ => hf94) ?_
        clear hK K HPU
        simp only [Act.put, List.setIfInBounds_toArray, List.set_cons_zero, List.set_cons_succ]
        refine hl_done (by kernel_rfl) ?_ _
        refine NoPanic.normal (HQ0.out _ _ ?_)
        clear HQ0
        have d0 := hf94.cell hDSH d0
        have d1 := hf94.cell hDSH d1
        have d2 := hf94.cell hDSH d2
        have d3 := hf94.cell hDSH d3
        have d4 := hf94.cell hDSH d4
        have bc0 := hf94.cell hBSH bc0
        have bc1 := hf94.cell hBSH bc1
        have HX : Hid (EdgAt W4 E ∧ RowV W4 (.slice rp 0 rc) (p.R em) ∧ MapS W4 M p.m p.ks) := Lib.hid ⟨HEA.out.frn hf4w (fun h0 g hg hc => HES.out h0 g hg (HH.out.sH g hc)), by have := (HH.out.rows E.tm).fr hf4w (HH.out.hR E.tm); rw [HROW.out, HPS.out.2.2.2] at this; exact this, by rw [HM.out]; exact HH.out.map.fr hf4w HH.out.hM⟩
        have HY : Hid (Fr p.SH w W4 ∧ ∃ v' SH' hs' L', HeapAt SH' W4 p.H v' hs' ∧ HeapKeys hs' (kset p.ks em) L' ∧ ∀ q, SH' q → p.SH q ∨ w.heap.size ≤ q) := Lib.hid ⟨hf4w, v', SH', _, _, by rw [← HHB.out]; exact hat4, HH.out.hk.push hkm, fun q hq => (hgr4.new q hq).imp id (fun h => by have h2 := hg9.size; have h3 := hsD.size; simp at h; omega)⟩
        have HSZ := Lib.hid (show w.heap.size ≤ W4.heap.size from hf4w.size)
        have HLE := Lib.hid (show (p.R em).length ≤ 100000 by have := HH.out.lenle em; omega)
        clear hsD hsF hg9 hf4 hf94 hf4w hat4 hgr4
        obtain ⟨n, hn0⟩ : ∃ n : Nat, n = 0 := ⟨_, rfl⟩
        rw [← hn0] at HX HLK0 hrowlt hrowne HNN HROW hkmem
        clear hn0 hkm hkmem
        have hneB : ¬ (Value.slice rp n rc).ownBlock = some B := fun e => (hrowne B e).1 rfl
        have hneD : ¬ (Value.slice rp n rc).ownBlock = some w.heap.size := fun e => by have := hrowlt _ e; omega
        have HLK : Hid (∀ X, Fr (fun q => (Value.slice rp n rc).ownBlock = some q) W4 X → (Instr.lookup 79 (.map (some M)) (.int .i64 em) false).run Try.prog X = .ok (.slice rp n rc) X) := Lib.hid (fun X hX => HLK0.out X ((HX.out.2.2.fr hX (fun e => (hrowne M e).2 HM.out))))
        go_upto_region 11 with fail
        obtain ⟨WD, hWD⟩ : ∃ WD : World, WD = W4.drew := ⟨_, rfl⟩
        have hsD0 : G W4 WD := by rw [hWD]; exact (G.refl W4).drew
        have hsD : Fr (fun q => (Value.slice rp n rc).ownBlock = some q) W4 WD := hsD0.fr _
        refine region_hlW (fun w' => Fr (fun q => (Value.slice rp n rc).ownBlock = some q) W4 w') 18 19 (by kernel_rfl) rfl ?_
        intro Q0 HQ0
        simp only [List.replicate_succ, List.replicate_zero]
        rw [← hWD]
        clear hWD
        refine hl_take_np 0 (by kernel_rfl) (by kernel_rfl) rfl (by kernel_rfl) hsD (v := ?_) ?_ ?_
        rotate_left
        · (rintro x hx; have kbc1 := Fr.cell hx hneB bc1; have kd0 := Fr.cell hx hneD d0; have kd1 := Fr.cell hx hneD d1; have kd2 := Fr.cell hx hneD d2; have kd3 := Fr.cell hx hneD d3; have kd4 := Fr.cell hx hneD d4; clear hx; go_simp; try rfl)
        simp only [Act.put, List.setIfInBounds_toArray, List.set_cons_zero, List.set_cons_succ]
        refine hl_take_np 1 (by kernel_rfl) (by kernel_rfl) rfl (by kernel_rfl) hsD (v := ?_) ?_ ?_
        rotate_left
        · (rintro x hx; have kbc1 := Fr.cell hx hneB bc1; have kd0 := Fr.cell hx hneD d0; have kd1 := Fr.cell hx hneD d1; have kd2 := Fr.cell hx hneD d2; have kd3 := Fr.cell hx hneD d3; have kd4 := Fr.cell hx hneD d4; clear hx; go_simp; try rfl)
        simp only [Act.put, List.setIfInBounds_toArray, List.set_cons_zero, List.set_cons_succ]
        refine hl_take_np 2 (by kernel_rfl) (by kernel_rfl) rfl (by kernel_rfl) hsD (v := ?_) ?_ ?_
        rotate_left
        · (rintro x hx; have kbc1 := Fr.cell hx hneB bc1; have kd0 := Fr.cell hx hneD d0; have kd1 := Fr.cell hx hneD d1; have kd2 := Fr.cell hx hneD d2; have kd3 := Fr.cell hx hneD d3; have kd4 := Fr.cell hx hneD d4; clear hx; go_simp; try rfl)
        simp only [Act.put, List.setIfInBounds_toArray, List.set_cons_zero, List.set_cons_succ]
        refine hl_take_np 3 (by kernel_rfl) (by kernel_rfl) rfl (by kernel_rfl) hsD (v := ?_) ?_ ?_
        rotate_left
        · (rintro x hx; have kbc1 := Fr.cell hx hneB bc1; have kd0 := Fr.cell hx hneD d0; have kd1 := Fr.cell hx hneD d1; have kd2 := Fr.cell hx hneD d2; have kd3 := Fr.cell hx hneD d3; have kd4 := Fr.cell hx hneD d4; clear hx; go_simp; try rfl)
        simp only [Act.put, List.setIfInBounds_toArray, List.set_cons_zero, List.set_cons_succ]
        refine hl_take_np 4 (by kernel_rfl) (by kernel_rfl) rfl (by kernel_rfl) hsD (v := ?_) ?_ ?_
        rotate_left
        · (rintro x hx; have kbc1 := Fr.cell hx hneB bc1; have kd0 := Fr.cell hx hneD d0; have kd1 := Fr.cell hx hneD d1; have kd2 := Fr.cell hx hneD d2; have kd3 := Fr.cell hx hneD d3; have kd4 := Fr.cell hx hneD d4; clear hx; go_simp; try rfl)
        simp only [Act.put, List.setIfInBounds_toArray, List.set_cons_zero, List.set_cons_succ]
        refine hl_take_np 5 (by kernel_rfl) (by kernel_rfl) rfl (by kernel_rfl) hsD (v := ?_) ?_ ?_
        rotate_left
        · (rintro x hx; have kbc1 := Fr.cell hx hneB bc1; have kd0 := Fr.cell hx hneD d0; have kd1 := Fr.cell hx hneD d1; have kd2 := Fr.cell hx hneD d2; have kd3 := Fr.cell hx hneD d3; have kd4 := Fr.cell hx hneD d4; clear hx; go_simp; try rfl)
        simp only [Act.put, List.setIfInBounds_toArray, List.set_cons_zero, List.set_cons_succ]
        refine hl_take_np 6 (by kernel_rfl) (by kernel_rfl) rfl (by kernel_rfl) hsD (v := ?_) ?_ ?_
        rotate_left
        · (rintro x hx; have kbc1 := Fr.cell hx hneB bc1; have kd0 := Fr.cell hx hneD d0; have kd1 := Fr.cell hx hneD d1; have kd2 := Fr.cell hx hneD d2; have kd3 := Fr.cell hx hneD d3; have kd4 := Fr.cell hx hneD d4; clear hx; go_simp; try rfl)
        simp only [Act.put, List.setIfInBounds_toArray, List.set_cons_zero, List.set_cons_succ]
        refine hl_take_np 7 (by kernel_rfl) (by kernel_rfl) rfl (by kernel_rfl) hsD (v := ?_) ?_ ?_
        rotate_left
        · (rintro x hx; have kbc1 := Fr.cell hx hneB bc1; have kd0 := Fr.cell hx hneD d0; have kd1 := Fr.cell hx hneD d1; have kd2 := Fr.cell hx hneD d2; have kd3 := Fr.cell hx hneD d3; have kd4 := Fr.cell hx hneD d4; clear hx; go_simp; try rfl)
        simp only [Act.put, List.setIfInBounds_toArray, List.set_cons_zero, List.set_cons_succ]
        refine hl_take_np 8 (by kernel_rfl) (by kernel_rfl) rfl (by kernel_rfl) hsD (v := ?_) ?_ ?_
        rotate_left
        · (rintro x hx; have kbc1 := Fr.cell hx hneB bc1; have kd0 := Fr.cell hx hneD d0; have kd1 := Fr.cell hx hneD d1; have kd2 := Fr.cell hx hneD d2; have kd3 := Fr.cell hx hneD d3; have kd4 := Fr.cell hx hneD d4; clear hx; go_simp; try rfl)
        simp only [Act.put, List.setIfInBounds_toArray, List.set_cons_zero, List.set_cons_succ]
        refine hl_take_np 9 (by kernel_rfl) (by kernel_rfl) rfl (by kernel_rfl) hsD (v := ?_) ?_ ?_
        rotate_left
        · (rintro x hx; have kbc1 := Fr.cell hx hneB bc1; have kd0 := Fr.cell hx hneD d0; have kd1 := Fr.cell hx hneD d1; have kd2 := Fr.cell hx hneD d2; have kd3 := Fr.cell hx hneD d3; have kd4 := Fr.cell hx hneD d4; clear hx; go_simp; try rfl)
        simp only [Act.put, List.setIfInBounds_toArray, List.set_cons_zero, List.set_cons_succ]
        refine hl_take_np 10 (by kernel_rfl) (by kernel_rfl) rfl (by kernel_rfl) hsD (v := ?_) ?_ ?_
        rotate_left
        · (rintro x hx; have kbc1 := Fr.cell hx hneB bc1; have kd0 := Fr.cell hx hneD d0; have kd1 := Fr.cell hx hneD d1; have kd2 := Fr.cell hx hneD d2; have kd3 := Fr.cell hx hneD d3; have kd4 := Fr.cell hx hneD d4; clear hx; go_simp; try rfl)
        simp only [Act.put, List.setIfInBounds_toArray, List.set_cons_zero, List.set_cons_succ]
        refine hl_take_np 11 (by kernel_rfl) (by kernel_rfl) rfl (by kernel_rfl) hsD (v := ?_) ?_ ?_
        rotate_left
        · (rintro x hx; have kbc1 := Fr.cell hx hneB bc1; have kd0 := Fr.cell hx hneD d0; have kd1 := Fr.cell hx hneD d1; have kd2 := Fr.cell hx hneD d2; have kd3 := Fr.cell hx hneD d3; have kd4 := Fr.cell hx hneD d4; clear hx; go_simp; try rfl)
        simp only [Act.put, List.setIfInBounds_toArray, List.set_cons_zero, List.set_cons_succ]
        refine hl_take_np 12 (by kernel_rfl) (by kernel_rfl) rfl (by kernel_rfl) hsD (v := ?_) ?_ ?_
        rotate_left
        · (rintro x hx; have hlk := HLK.out x hx; clear hx; go_simp; try rfl)
        simp only [Act.put, List.setIfInBounds_toArray, List.set_cons_zero, List.set_cons_succ]
        refine hl_take_np 13 (by kernel_rfl) (by kernel_rfl) rfl (by kernel_rfl) hsD (v := ?_) ?_ ?_
        rotate_left
        · (rintro x hx; have kbc1 := Fr.cell hx hneB bc1; have kd0 := Fr.cell hx hneD d0; have kd1 := Fr.cell hx hneD d1; have kd2 := Fr.cell hx hneD d2; have kd3 := Fr.cell hx hneD d3; have kd4 := Fr.cell hx hneD d4; clear hx; go_simp; try rfl)
        simp only [Act.put, List.setIfInBounds_toArray, List.set_cons_zero, List.set_cons_succ]
        refine hl_take_np 14 (by kernel_rfl) (by kernel_rfl) rfl (by kernel_rfl) hsD (v := ?_) ?_ ?_
        rotate_left
        · (rintro x hx; have kbc1 := Fr.cell hx hneB bc1; have kd0 := Fr.cell hx hneD d0; have kd1 := Fr.cell hx hneD d1; have kd2 := Fr.cell hx hneD d2; have kd3 := Fr.cell hx hneD d3; have kd4 := Fr.cell hx hneD d4; clear hx; go_simp; try rfl)
        simp only [Act.put, List.setIfInBounds_toArray, List.set_cons_zero, List.set_cons_succ]
        refine hl_stepW 15 (by kernel_rfl) rfl (by kernel_rfl) ?_
        intro K hK
        go_simp
        refine (HCO.out WD (HX.out.1.g hsD0)).mono ?_
        rintro e W5 ⟨u, rfl, hown, hga⟩
        have hs5 : G W4 W5 := hsD0.trans hga
        refine hK _ _ (fun _ => hs5.fr _) ?_
        have HGA := Lib.hid hga
        clear hK K hga d0 d1 d2 d3 d4 bc0 bc1
        simp only [Act.put, List.setIfInBounds_toArray, List.set_cons_zero, List.set_cons_succ]
        obtain ⟨up, uc, hu⟩ := ownsRow_shape hown.own
        have hev2 : ev (lentE E u) = .agg #[.string ef, .string et, .string el, .int .i64 em, .slice up (lentE E u).ps.length uc] := by
          have h1 : (lentE E u).v = .slice up (lentE E u).ps.length uc := hu
          unfold ev; rw [h1]; simp only [lentE, HPS.out]
        rw [hev2]
        have HOW := Lib.hid hown
        have HW5 := Lib.hid hs5
        have HEC := Lib.hid (show ecs [lentE E u] = [.string ef, .string et, .string el, .int .i64 em, .slice up (lentE E u).ps.length uc] by
          have h1 : (lentE E u).v = .slice up (lentE E u).ps.length uc := hu
          simp only [ecs]; rw [h1]; simp only [lentE, HPS.out])
        generalize (lentE E u).ps.length = un at HEC ⊢
        clear hown hu hev2
        refine hl_stepW 16 (by kernel_rfl) rfl (by kernel_rfl) ?_
        intro K hK
        go_simp
        refine hK _ _ (fun _ => (hs5.alloc _).fr _) ?_
        clear hK K
        simp only [Act.put, List.setIfInBounds_toArray, List.set_cons_zero, List.set_cons_succ]
        obtain ⟨W6, hW6⟩ : ∃ X, X = W5.alloc (.cells #[.string ef, .string et, .string el, .int .i64 em, .slice up un uc] 51) := ⟨_, rfl⟩
        rw [← hW6]
        have hg6 : G W4 W6 := by rw [hW6]; exact hs5.alloc _
        have HIN := Lib.hid (insert_any (.slice rp n rc) (p.R em) (lentE E u) k W5.heap.size W6 (by have := (HX.out.2.1).fr (hg6.fr (fun _ => False)) (fun _ _ h => h); exact this) HSP.out.le (by rw [hW6, HEC.out]; exact alloc_new _ _) (by exact HOW.out.isE) (fun e => by have h1 := hrowlt _ e; have h2 := hs5.size; have h3 := HSZ.out; omega) (by have := HLE.out; omega))
        have HW6 := Lib.hid hW6
        clear hW6
        refine hl_stepW 17 (by kernel_rfl) rfl (by kernel_rfl) ?_
        intro K hK
        go_simp
        refine HIN.out.mono ?_
        rintro e W7 ⟨g, off, c, rfl, hra, hf7, hg7⟩
        have hf47 : Fr (fun q => (Value.slice rp n rc).ownBlock = some q) W4 W7 := (hg6.fr _).trans hf7 (fun i hi e => by
          have e2 : i = g := e
          rcases hg7 with h1 | h1
          · rw [e2]; exact h1
          · have := hg6.size; omega)
        refine hK _ _ (fun _ => hf47) ?_
        clear hK K
        simp only [Act.put, List.setIfInBounds_toArray, List.set_cons_zero, List.set_cons_succ]
        obtain ⟨W8, hr8, hm8, hf8⟩ := (HX.out.2.2.fr hf47 (fun e => (hrowne M e).2 HM.out)).store (t := em) HRG.out (by have := HKL.out; unfold maxLen; omega) (some ⟨g, off, none⟩) ((p.R em).length + 1) c
        have HFIN := Lib.hid (show ∃ S' P' p', BufIn S' P' W8 B (insO (outE E) s) p' ∧ (∀ k, S' k → S k ∨ w.heap.size ≤ k) ∧ (∀ k, P' k → P k ∨ w.heap.size ≤ k) ∧ (∀ k, S k → S' k) ∧ Fr S w W8 by
          obtain ⟨hf4w, v4, SH4, hs4, L4, hat4, hk4, hgr4⟩ := HY.out
          have e1 := HPS.out.2.2.2
          rw [← e1] at hk4 hra hm8
          rw [HM.out] at hm8 hf8
          exact put_fin HH.out hf4w hat4 hk4 hgr4 hsD0 HOW.out HGA.out (by rw [HW6.out]; exact (G.refl _).alloc _) hra hf7 (by rw [HROW.out]; exact hg7) hm8 hf8 (by rw [e1]; exact HSP.out) HIS.out.symm (by rw [e1]; exact HRG.out))
        clear hra hf7 hg7 hf47 hm8 hf8 HX HY HIN
        refine hl_stepW 18 (by kernel_rfl) rfl (by kernel_rfl) ?_
        intro K hK
        go_simp
        refine hK _ _ (fun h => absurd rfl h) ?_
        clear hK K
        simp only [Act.put, List.setIfInBounds_toArray, List.set_cons_zero, List.set_cons_succ]
        refine hl_done (by kernel_rfl) ?_ _
        refine NoPanic.normal (HQ0.out _ _ ?_)
        clear HQ0
        go_wp2_with fail
        go_ret
        exact .inr (.inr ⟨HCK.out.symm, HIS.out.symm, rfl, HFIN.out⟩)
      · have hn1 : ¬ (n : Int) = 0 := by omega
        refine hl_take_np 8 (by kernel_rfl) (by kernel_rfl) rfl (by kernel_rfl) hsD (v := ?_) ?_ ?_
        rotate_left
        · (rintro x hx; clear hx; go_simp; try rfl)
        simp only [Act.put, List.setIfInBounds_toArray, List.set_cons_zero, List.set_cons_succ]
        refine hl_done (by kernel_rfl) ?_ _
        refine NoPanic.normal (HQ0.out _ _ ?_)
        clear HQ0
        have hg9 := hgx.trans hsD
        have d0 := hsD.cell d0
        have d1 := hsD.cell d1
        have d2 := hsD.cell d2
        have d3 := hsD.cell d3
        have d4 := hsD.cell d4
        have bc0 := hsD.cell bc0
        have bc1 := hsD.cell bc1
        clear hsD hgx HMAP
        have hkm : em ∈ p.ks := by
          by_cases hc : em ∈ p.ks
          · exact hc
          · exact absurd (hkmem.2 hc) hn0
        obtain ⟨W4, hW9⟩ : ∃ W9 : World, W9 = WD := ⟨_, rfl⟩
        rw [← hW9] at hg9 d0 d1 d2 d3 d4 bc0 bc1 ⊢
        clear hW9
        clear WD
        have HX : Hid (EdgAt W4 E ∧ RowV W4 (.slice rp n rc) (p.R em) ∧ MapS W4 M p.m p.ks) := Lib.hid ⟨HEA.out.g hg9, by have := (HH.out.rows E.tm).fr (hg9.fr (fun _ => False)) (fun _ _ h => h); rw [HROW.out, HPS.out.2.2.2] at this; exact this, by rw [HM.out]; exact HH.out.map.g hg9⟩
        have HY : Hid (Fr p.SH w W4 ∧ ∃ v' SH' hs' L', HeapAt SH' W4 p.H v' hs' ∧ HeapKeys hs' (kset p.ks em) L' ∧ ∀ q, SH' q → p.SH q ∨ w.heap.size ≤ q) := Lib.hid ⟨hg9.fr _, _, _, _, _, HH.out.hat.g hg9, by rw [show kset p.ks em = p.ks from if_pos hkm]; exact HH.out.hk, fun q hq => .inl hq⟩
        have HSZ := Lib.hid (show w.heap.size ≤ W4.heap.size from hg9.size)
        have HLE := Lib.hid (show (p.R em).length ≤ 100000 by have := HH.out.lenle em; omega)
        clear hg9 hkm hkmem
        have hneB : ¬ (Value.slice rp n rc).ownBlock = some B := fun e => (hrowne B e).1 rfl
        have hneD : ¬ (Value.slice rp n rc).ownBlock = some w.heap.size := fun e => by have := hrowlt _ e; omega
        have HLK : Hid (∀ X, Fr (fun q => (Value.slice rp n rc).ownBlock = some q) W4 X → (Instr.lookup 79 (.map (some M)) (.int .i64 em) false).run Try.prog X = .ok (.slice rp n rc) X) := Lib.hid (fun X hX => HLK0.out X ((HX.out.2.2.fr hX (fun e => (hrowne M e).2 HM.out))))
        go_upto_region 11 with fail
        obtain ⟨WD, hWD⟩ : ∃ WD : World, WD = W4.drew := ⟨_, rfl⟩
        have hsD0 : G W4 WD := by rw [hWD]; exact (G.refl W4).drew
        have hsD : Fr (fun q => (Value.slice rp n rc).ownBlock = some q) W4 WD := hsD0.fr _
        refine region_hlW (fun w' => Fr (fun q => (Value.slice rp n rc).ownBlock = some q) W4 w') 18 19 (by kernel_rfl) rfl ?_
        intro Q0 HQ0
        simp only [List.replicate_succ, List.replicate_zero]
        rw [← hWD]
        clear hWD
        refine hl_take_np 0 (by kernel_rfl) (by kernel_rfl) rfl (by kernel_rfl) hsD (v := ?_) ?_ ?_
        rotate_left
        · (rintro x hx; have kbc1 := Fr.cell hx hneB bc1; have kd0 := Fr.cell hx hneD d0; have kd1 := Fr.cell hx hneD d1; have kd2 := Fr.cell hx hneD d2; have kd3 := Fr.cell hx hneD d3; have kd4 := Fr.cell hx hneD d4; clear hx; go_simp; try rfl)
        simp only [Act.put, List.setIfInBounds_toArray, List.set_cons_zero, List.set_cons_succ]
        refine hl_take_np 1 (by kernel_rfl) (by kernel_rfl) rfl (by kernel_rfl) hsD (v := ?_) ?_ ?_
        rotate_left
        · (rintro x hx; have kbc1 := Fr.cell hx hneB bc1; have kd0 := Fr.cell hx hneD d0; have kd1 := Fr.cell hx hneD d1; have kd2 := Fr.cell hx hneD d2; have kd3 := Fr.cell hx hneD d3; have kd4 := Fr.cell hx hneD d4; clear hx; go_simp; try rfl)
        simp only [Act.put, List.setIfInBounds_toArray, List.set_cons_zero, List.set_cons_succ]
        refine hl_take_np 2 (by kernel_rfl) (by kernel_rfl) rfl (by kernel_rfl) hsD (v := ?_) ?_ ?_
        rotate_left
        · (rintro x hx; have kbc1 := Fr.cell hx hneB bc1; have kd0 := Fr.cell hx hneD d0; have kd1 := Fr.cell hx hneD d1; have kd2 := Fr.cell hx hneD d2; have kd3 := Fr.cell hx hneD d3; have kd4 := Fr.cell hx hneD d4; clear hx; go_simp; try rfl)
        simp only [Act.put, List.setIfInBounds_toArray, List.set_cons_zero, List.set_cons_succ]
        refine hl_take_np 3 (by kernel_rfl) (by kernel_rfl) rfl (by kernel_rfl) hsD (v := ?_) ?_ ?_
        rotate_left
        · (rintro x hx; have kbc1 := Fr.cell hx hneB bc1; have kd0 := Fr.cell hx hneD d0; have kd1 := Fr.cell hx hneD d1; have kd2 := Fr.cell hx hneD d2; have kd3 := Fr.cell hx hneD d3; have kd4 := Fr.cell hx hneD d4; clear hx; go_simp; try rfl)
        simp only [Act.put, List.setIfInBounds_toArray, List.set_cons_zero, List.set_cons_succ]
        refine hl_take_np 4 (by kernel_rfl) (by kernel_rfl) rfl (by kernel_rfl) hsD (v := ?_) ?_ ?_
        rotate_left
        · (rintro x hx; have kbc1 := Fr.cell hx hneB bc1; have kd0 := Fr.cell hx hneD d0; have kd1 := Fr.cell hx hneD d1; have kd2 := Fr.cell hx hneD d2; have kd3 := Fr.cell hx hneD d3; have kd4 := Fr.cell hx hneD d4; clear hx; go_simp; try rfl)
        simp only [Act.put, List.setIfInBounds_toArray, List.set_cons_zero, List.set_cons_succ]
        refine hl_take_np 5 (by kernel_rfl) (by kernel_rfl) rfl (by kernel_rfl) hsD (v := ?_) ?_ ?_
        rotate_left
        · (rintro x hx; have kbc1 := Fr.cell hx hneB bc1; have kd0 := Fr.cell hx hneD d0; have kd1 := Fr.cell hx hneD d1; have kd2 := Fr.cell hx hneD d2; have kd3 := Fr.cell hx hneD d3; have kd4 := Fr.cell hx hneD d4; clear hx; go_simp; try rfl)
        simp only [Act.put, List.setIfInBounds_toArray, List.set_cons_zero, List.set_cons_succ]
        refine hl_take_np 6 (by kernel_rfl) (by kernel_rfl) rfl (by kernel_rfl) hsD (v := ?_) ?_ ?_
        rotate_left
        · (rintro x hx; have kbc1 := Fr.cell hx hneB bc1; have kd0 := Fr.cell hx hneD d0; have kd1 := Fr.cell hx hneD d1; have kd2 := Fr.cell hx hneD d2; have kd3 := Fr.cell hx hneD d3; have kd4 := Fr.cell hx hneD d4; clear hx; go_simp; try rfl)
        simp only [Act.put, List.setIfInBounds_toArray, List.set_cons_zero, List.set_cons_succ]
        refine hl_take_np 7 (by kernel_rfl) (by kernel_rfl) rfl (by kernel_rfl) hsD (v := ?_) ?_ ?_
        rotate_left
        · (rintro x hx; have kbc1 := Fr.cell hx hneB bc1; have kd0 := Fr.cell hx hneD d0; have kd1 := Fr.cell hx hneD d1; have kd2 := Fr.cell hx hneD d2; have kd3 := Fr.cell hx hneD d3; have kd4 := Fr.cell hx hneD d4; clear hx; go_simp; try rfl)
        simp only [Act.put, List.setIfInBounds_toArray, List.set_cons_zero, List.set_cons_succ]
        refine hl_take_np 8 (by kernel_rfl) (by kernel_rfl) rfl (by kernel_rfl) hsD (v := ?_) ?_ ?_
        rotate_left
        · (rintro x hx; have kbc1 := Fr.cell hx hneB bc1; have kd0 := Fr.cell hx hneD d0; have kd1 := Fr.cell hx hneD d1; have kd2 := Fr.cell hx hneD d2; have kd3 := Fr.cell hx hneD d3; have kd4 := Fr.cell hx hneD d4; clear hx; go_simp; try rfl)
        simp only [Act.put, List.setIfInBounds_toArray, List.set_cons_zero, List.set_cons_succ]
        refine hl_take_np 9 (by kernel_rfl) (by kernel_rfl) rfl (by kernel_rfl) hsD (v := ?_) ?_ ?_
        rotate_left
        · (rintro x hx; have kbc1 := Fr.cell hx hneB bc1; have kd0 := Fr.cell hx hneD d0; have kd1 := Fr.cell hx hneD d1; have kd2 := Fr.cell hx hneD d2; have kd3 := Fr.cell hx hneD d3; have kd4 := Fr.cell hx hneD d4; clear hx; go_simp; try rfl)
        simp only [Act.put, List.setIfInBounds_toArray, List.set_cons_zero, List.set_cons_succ]
        refine hl_take_np 10 (by kernel_rfl) (by kernel_rfl) rfl (by kernel_rfl) hsD (v := ?_) ?_ ?_
        rotate_left
        · (rintro x hx; have kbc1 := Fr.cell hx hneB bc1; have kd0 := Fr.cell hx hneD d0; have kd1 := Fr.cell hx hneD d1; have kd2 := Fr.cell hx hneD d2; have kd3 := Fr.cell hx hneD d3; have kd4 := Fr.cell hx hneD d4; clear hx; go_simp; try rfl)
        simp only [Act.put, List.setIfInBounds_toArray, List.set_cons_zero, List.set_cons_succ]
        refine hl_take_np 11 (by kernel_rfl) (by kernel_rfl) rfl (by kernel_rfl) hsD (v := ?_) ?_ ?_
        rotate_left
        · (rintro x hx; have kbc1 := Fr.cell hx hneB bc1; have kd0 := Fr.cell hx hneD d0; have kd1 := Fr.cell hx hneD d1; have kd2 := Fr.cell hx hneD d2; have kd3 := Fr.cell hx hneD d3; have kd4 := Fr.cell hx hneD d4; clear hx; go_simp; try rfl)
        simp only [Act.put, List.setIfInBounds_toArray, List.set_cons_zero, List.set_cons_succ]
        refine hl_take_np 12 (by kernel_rfl) (by kernel_rfl) rfl (by kernel_rfl) hsD (v := ?_) ?_ ?_
        rotate_left
        · (rintro x hx; have hlk := HLK.out x hx; clear hx; go_simp; try rfl)
        simp only [Act.put, List.setIfInBounds_toArray, List.set_cons_zero, List.set_cons_succ]
        refine hl_take_np 13 (by kernel_rfl) (by kernel_rfl) rfl (by kernel_rfl) hsD (v := ?_) ?_ ?_
        rotate_left
        · (rintro x hx; have kbc1 := Fr.cell hx hneB bc1; have kd0 := Fr.cell hx hneD d0; have kd1 := Fr.cell hx hneD d1; have kd2 := Fr.cell hx hneD d2; have kd3 := Fr.cell hx hneD d3; have kd4 := Fr.cell hx hneD d4; clear hx; go_simp; try rfl)
        simp only [Act.put, List.setIfInBounds_toArray, List.set_cons_zero, List.set_cons_succ]
        refine hl_take_np 14 (by kernel_rfl) (by kernel_rfl) rfl (by kernel_rfl) hsD (v := ?_) ?_ ?_
        rotate_left
        · (rintro x hx; have kbc1 := Fr.cell hx hneB bc1; have kd0 := Fr.cell hx hneD d0; have kd1 := Fr.cell hx hneD d1; have kd2 := Fr.cell hx hneD d2; have kd3 := Fr.cell hx hneD d3; have kd4 := Fr.cell hx hneD d4; clear hx; go_simp; try rfl)
        simp only [Act.put, List.setIfInBounds_toArray, List.set_cons_zero, List.set_cons_succ]
        refine hl_stepW 15 (by kernel_rfl) rfl (by kernel_rfl) ?_
        intro K hK
        go_simp
        refine (HCO.out WD (HX.out.1.g hsD0)).mono ?_
        rintro e W5 ⟨u, rfl, hown, hga⟩
        have hs5 : G W4 W5 := hsD0.trans hga
        refine hK _ _ (fun _ => hs5.fr _) ?_
        have HGA := Lib.hid hga
        clear hK K hga d0 d1 d2 d3 d4 bc0 bc1
        simp only [Act.put, List.setIfInBounds_toArray, List.set_cons_zero, List.set_cons_succ]
        obtain ⟨up, uc, hu⟩ := ownsRow_shape hown.own
        have hev2 : ev (lentE E u) = .agg #[.string ef, .string et, .string el, .int .i64 em, .slice up (lentE E u).ps.length uc] := by
          have h1 : (lentE E u).v = .slice up (lentE E u).ps.length uc := hu
          unfold ev; rw [h1]; simp only [lentE, HPS.out]
        rw [hev2]
        have HOW := Lib.hid hown
        have HW5 := Lib.hid hs5
        have HEC := Lib.hid (show ecs [lentE E u] = [.string ef, .string et, .string el, .int .i64 em, .slice up (lentE E u).ps.length uc] by
          have h1 : (lentE E u).v = .slice up (lentE E u).ps.length uc := hu
          simp only [ecs]; rw [h1]; simp only [lentE, HPS.out])
        generalize (lentE E u).ps.length = un at HEC ⊢
        clear hown hu hev2
        refine hl_stepW 16 (by kernel_rfl) rfl (by kernel_rfl) ?_
        intro K hK
        go_simp
        refine hK _ _ (fun _ => (hs5.alloc _).fr _) ?_
        clear hK K
        simp only [Act.put, List.setIfInBounds_toArray, List.set_cons_zero, List.set_cons_succ]
        obtain ⟨W6, hW6⟩ : ∃ X, X = W5.alloc (.cells #[.string ef, .string et, .string el, .int .i64 em, .slice up un uc] 51) := ⟨_, rfl⟩
        rw [← hW6]
        have hg6 : G W4 W6 := by rw [hW6]; exact hs5.alloc _
        have HIN := Lib.hid (insert_any (.slice rp n rc) (p.R em) (lentE E u) k W5.heap.size W6 (by have := (HX.out.2.1).fr (hg6.fr (fun _ => False)) (fun _ _ h => h); exact this) HSP.out.le (by rw [hW6, HEC.out]; exact alloc_new _ _) (by exact HOW.out.isE) (fun e => by have h1 := hrowlt _ e; have h2 := hs5.size; have h3 := HSZ.out; omega) (by have := HLE.out; omega))
        have HW6 := Lib.hid hW6
        clear hW6
        refine hl_stepW 17 (by kernel_rfl) rfl (by kernel_rfl) ?_
        intro K hK
        go_simp
        refine HIN.out.mono ?_
        rintro e W7 ⟨g, off, c, rfl, hra, hf7, hg7⟩
        have hf47 : Fr (fun q => (Value.slice rp n rc).ownBlock = some q) W4 W7 := (hg6.fr _).trans hf7 (fun i hi e => by
          have e2 : i = g := e
          rcases hg7 with h1 | h1
          · rw [e2]; exact h1
          · have := hg6.size; omega)
        refine hK _ _ (fun _ => hf47) ?_
        clear hK K
        simp only [Act.put, List.setIfInBounds_toArray, List.set_cons_zero, List.set_cons_succ]
        obtain ⟨W8, hr8, hm8, hf8⟩ := (HX.out.2.2.fr hf47 (fun e => (hrowne M e).2 HM.out)).store (t := em) HRG.out (by have := HKL.out; unfold maxLen; omega) (some ⟨g, off, none⟩) ((p.R em).length + 1) c
        have HFIN := Lib.hid (show ∃ S' P' p', BufIn S' P' W8 B (insO (outE E) s) p' ∧ (∀ k, S' k → S k ∨ w.heap.size ≤ k) ∧ (∀ k, P' k → P k ∨ w.heap.size ≤ k) ∧ (∀ k, S k → S' k) ∧ Fr S w W8 by
          obtain ⟨hf4w, v4, SH4, hs4, L4, hat4, hk4, hgr4⟩ := HY.out
          have e1 := HPS.out.2.2.2
          rw [← e1] at hk4 hra hm8
          rw [HM.out] at hm8 hf8
          exact put_fin HH.out hf4w hat4 hk4 hgr4 hsD0 HOW.out HGA.out (by rw [HW6.out]; exact (G.refl _).alloc _) hra hf7 (by rw [HROW.out]; exact hg7) hm8 hf8 (by rw [e1]; exact HSP.out) HIS.out.symm (by rw [e1]; exact HRG.out))
        clear hra hf7 hg7 hf47 hm8 hf8 HX HY HIN
        refine hl_stepW 18 (by kernel_rfl) rfl (by kernel_rfl) ?_
        intro K hK
        go_simp
        refine hK _ _ (fun h => absurd rfl h) ?_
        clear hK K
        simp only [Act.put, List.setIfInBounds_toArray, List.set_cons_zero, List.set_cons_succ]
        refine hl_done (by kernel_rfl) ?_ _
        refine NoPanic.normal (HQ0.out _ _ ?_)
        clear HQ0
        go_wp2_with fail
        go_ret
        exact .inr (.inr ⟨HCK.out.symm, HIS.out.symm, rfl, HFIN.out⟩)
    · go_wp2_with fail
      go_ret
      exact .inr (.inl ⟨HCK.out.symm, HIS.out.symm, rfl, hgx⟩)
  · have hckI : ¬ (ck = 0) := hck0
    go_wp2_with fail
    go_ret
    exact .inl ⟨by rw [← HCK.out]; exact hck0, by rw [← HCK.out]; rfl, hgw⟩
end Go.Proofs.Ythhmmjpgefinmaa
