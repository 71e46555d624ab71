/- the document's buffer: Put -/
import Derived.Test.YtahdodijpmkddaaBufM
import Derived.Test.YtahdodijpmkddaaBufF
set_option maxRecDepth 10000
namespace Go.Proofs.Ytahdodijpmkddaa
set_option linter.unusedVariables false
set_option linter.unusedSimpArgs false
open Go.RowKit Go.Shelf
attribute [local go_sem] Oper.semAt_some

theorem ins_same {L : List Edg} {s : List Out} {E : Edg} (h : ∀ k, (L.map outE).filter (isO k) = s.filter (isO k)) (hs : OStr s) (hno : hasO (okey (outE E)) s = false) (k : EKey) : ((L ++ [E]).map outE).filter (isO k) = (insO (outE E) s).filter (isO k) := by
  rw [insO_filter (isO k) hs, List.map_append, List.filter_append, h]
  by_cases hk : isO k (outE E) = true
  · have e := isO_eq hk
    have hn : s.filter (isO k) = [] := by
      rw [← e]
      unfold hasO at hno
      rw [any_filt] at hno
      simpa using hno
    rw [if_pos hk, hn]
    simp [hk, insO]
  · rw [if_neg hk]
    simp [hk]
theorem rput_fin {T : Nat → Prop} {w W5 W9 : World} {R : Nat} {s : List Out} {v v9 u : Value} {L : List Edg} {E : Edg} (h : RBuf T w R s v L) (hown : OwnE W5 w.heap.size (lentE E u)) (g5 : G w W5) (g9 : G W5 W9) (own9 : W9.ownsRow w.heap.size 33 5 v9 (L.length + 1) (ecs L ++ ecs [lentE E u])) (hno : hasO (okey (outE E)) s = false) :
    ∃ T', RBuf T' (W9.setCell ⟨R, 0, none⟩ v9) R (insO (outE E) s) v9 (L ++ [lentE E u]) ∧ (∀ k, T' k → T k ∨ w.heap.size ≤ k) ∧ Fr (fun q => q = R) w (W9.setCell ⟨R, 0, none⟩ v9) := by
  have hRl := h.lt R h.tR
  have gw9 := g5.trans g9
  have z5 := g5.size
  have z9 := g9.size
  have hst : Fr (fun q => q = R) W9 (W9.setCell ⟨R, 0, none⟩ v9) := (Fr.refl (fun q => q = R) W9).setCell (p := ⟨R, 0, none⟩) (.inl rfl) _
  have hzf : (W9.setCell ⟨R, 0, none⟩ v9).heap.size = W9.heap.size := by simp [World.setCell]
  refine ⟨fun k => T k ∨ (w.heap.size ≤ k ∧ k < W9.heap.size), ⟨?_, ?_, fun F hF => ?_, fun k => ?_, insO_str h.str hno, ?_, .inl h.tR, fun g hg => .inr (own9.lt g hg), fun g hg e => by have := (own9.lt g hg).1; omega, fun F hF g hg => ?_, fun k hk => ?_⟩, fun k hk => hk.imp id (fun e => e.1), (gw9.fr _).trans hst (fun _ _ h => h)⟩
  · have hb := (gw9.block hRl).trans h.box
    have := heap_setCell_at W9 R 0 v9 _ _ _ hb
    simpa using this
  · rw [List.length_append, ecs_app]
    exact rdr_of_owns (hst.ownsRow own9 (fun g hg e => by have := (own9.lt g hg).1; have e2 : g = R := e; omega))
  · rcases List.mem_append.1 hF with e | e
    · exact ⟨((h.each F e).1.g gw9).fr hst (fun g hg e2 => h.nE F e g hg e2), fun g hg => .inl ((h.each F e).2 g hg)⟩
    · rw [List.mem_singleton.1 e]
      exact ⟨((hown.g g9).fr hst (fun g hg e2 => by have := (hown.own.lt g hg).1; have e3 : g = R := e2; omega)).at, fun g hg => .inr (by have := hown.own.lt g hg; omega)⟩
  · have := ins_same (E := lentE E u) h.same h.str hno k
    exact this
  · rw [List.length_append, insO_len, h.len]; rfl
  · rcases List.mem_append.1 hF with e | e
    · exact h.nE F e g hg
    · rw [List.mem_singleton.1 e] at hg
      have := (hown.own.lt g hg).1
      omega
  · rw [hzf]
    rcases hk with e | e
    · have := h.lt k e; omega
    · exact e.2
/-- what the document's Put shows -/
def RPutOut (T : Nat → Prop) (R : Nat) (s : List Out) (E : Edg) (w : World) (e : Ending) (w' : World) : Prop :=
  (checkE E ≠ 0 ∧ e = .returned (.int .i64 (checkE E)) ∧ G w w') ∨ (checkE E = 0 ∧ hasO (okey (outE E)) s = true ∧ e = .returned (.int .i64 9) ∧ G w w') ∨
    (checkE E = 0 ∧ hasO (okey (outE E)) s = false ∧ e = .returned (.int .i64 0) ∧ ∃ v' L' T', RBuf T' w' R (insO (outE E) s) v' L' ∧ (∀ k, T' k → T k ∨ w.heap.size ≤ k) ∧ Fr (fun q => q = R) w w')
set_option maxHeartbeats 8000000 in
theorem rput_any' (T : Nat → Prop) (R : Nat) (s : List Out) (v : Value) (L : List Edg) (E : Edg) (w : World) (h : RBuf T w R s v L) (hE : EdgAt w E) (hn : s.length ≤ 100000) (hnp : E.ps.length ≤ 1000000) :
    Calls Try.prog 15 #[.pointer (some ⟨R, 0, none⟩), ev E] w (RPutOut T R s E w) := by
  have HC := Lib.hid (fun X (hX : G w X) => rCheck_any E X (hE.g hX))
  have HF := Lib.hid (fun X (hX : G w X) => rhas_any T R s v L E X (h.g hX) hE.isE hn)
  have HCO := Lib.hid (fun X (hX : G w X) => copyE_any E X (hE.g hX) hnp)
  have br := rboxc h.box
  have HH := Lib.hid h
  obtain ⟨i0, hi, hz0, hz1, hz2⟩ := info_parts infoE
  obtain ⟨p, c, hv⟩ := h.rdr.shape
  obtain ⟨n, hnn⟩ : ∃ n, n = L.length := ⟨_, rfl⟩
  have hnl : n ≤ 100000 := by rw [hnn, h.len]; exact hn
  rw [← hnn] at hv
  rw [hv] at br
  have HV := Lib.hid hv
  have HN := Lib.hid hnn
  have HO1 := Lib.hid (ecs_one L (fun F hF => (h.each F hF).1.isE))
  obtain ⟨ck, hck⟩ : ∃ c, c = checkE E := ⟨_, rfl⟩
  obtain ⟨is, his⟩ : ∃ b, b = hasO (okey (outE E)) s := ⟨_, rfl⟩
  have HCK := Lib.hid hck
  have HIS := Lib.hid his
  rw [← hck] at HC
  rw [← his] at HF
  obtain ⟨pe, ne, ce, hev⟩ := id hE.isE
  have hEv : ev E = .agg #[.string E.f, .string E.t, .string E.l, .int .i64 E.tm, .slice pe ne ce] := by unfold ev; rw [hev]
  rw [hEv] at HC HF HCO ⊢
  obtain ⟨ef, hef⟩ : ∃ x, x = E.f := ⟨_, rfl⟩
  obtain ⟨et, het⟩ : ∃ x, x = E.t := ⟨_, rfl⟩
  obtain ⟨el, hel⟩ : ∃ x, x = E.l := ⟨_, rfl⟩
  obtain ⟨em, hem⟩ : ∃ x, x = E.tm := ⟨_, rfl⟩
  rw [← hef, ← het, ← hel, ← hem] at HC HF HCO ⊢
  have HPS := Lib.hid (show E.f = ef ∧ E.t = et ∧ E.l = el ∧ E.tm = em from ⟨hef.symm, het.symm, hel.symm, hem.symm⟩)
  have hgB : G w (w.alloc (.cells #[.string ef, .string et, .string el, .int .i64 em, .slice pe ne ce] 33)) := (G.refl w).alloc _
  have d0 := cell_alloc_at w [.string ef, .string et, .string el, .int .i64 em, .slice pe ne ce] 33 (0, 0) 0 _ rfl
  have d1 := cell_alloc_at w [.string ef, .string et, .string el, .int .i64 em, .slice pe ne ce] 33 (0, 0) 1 _ rfl
  have d2 := cell_alloc_at w [.string ef, .string et, .string el, .int .i64 em, .slice pe ne ce] 33 (0, 0) 2 _ rfl
  have d3 := cell_alloc_at w [.string ef, .string et, .string el, .int .i64 em, .slice pe ne ce] 33 (0, 0) 3 _ rfl
  have d4 := cell_alloc_at w [.string ef, .string et, .string el, .int .i64 em, .slice pe ne ce] 33 (0, 0) 4 _ rfl
  simp only [Nat.zero_add] at d0 d1 d2 d3 d4
  clear h hE hnp hv hnn hck his hev hEv hef het hel hem
  go_enter Try.func15, Try.ntmps15
  go_upto_region 1 with fail
  have br := hgB.cell br
  generalize (w.alloc (.cells #[.string ef, .string et, .string el, .int .i64 em, .slice pe ne ce] 33)) = WB at hgB d0 d1 d2 d3 d4 br ⊢
  go_wp2_with fail
  refine (HC.out _ hgB).mono ?_
  rintro e w2 ⟨rfl, hg2⟩
  have d0 := hg2.cell d0
  have d1 := hg2.cell d1
  have d2 := hg2.cell d2
  have d3 := hg2.cell d3
  have d4 := hg2.cell d4
  have br := hg2.cell br
  have hgw := hgB.trans hg2
  clear hg2 hgB HC
  by_cases hck0 : ck = 0
  · subst hck0
    go_wp2_with fail
    refine (HF.out _ hgw).mono ?_
    rintro e w3 ⟨rfl, hg3⟩
    have d0 := hg3.cell d0
    have d1 := hg3.cell d1
    have d2 := hg3.cell d2
    have d3 := hg3.cell d3
    have d4 := hg3.cell d4
    have br := hg3.cell br
    have hgx := hgw.trans hg3
    clear hg3 HF hgw
    cases is
    · go_wp2_with fail
      refine (HCO.out _ hgx).mono ?_
      rintro e W5 ⟨u, rfl, hown, hg5⟩
      have br := hg5.cell br
      have hgw5 := hgx.trans hg5
      obtain ⟨up, uc, hu⟩ := ownsRow_shape hown.own
      have hev2 : ev (lentE E u) = .agg #[.string ef, .string et, .string el, .int .i64 em, .slice up (lentE E u).ps.length uc] := by
        have h1 : (lentE E u).v = .slice up (lentE E u).ps.length uc := hu
        unfold ev; rw [h1]; simp only [lentE, HPS.out]
      rw [hev2]
      have hec : ecs [lentE E u] = [.string ef, .string et, .string el, .int .i64 em, .slice up (lentE E u).ps.length uc] := by
        have h1 : (lentE E u).v = .slice up (lentE E u).ps.length uc := hu
        simp only [ecs]; rw [h1]; simp only [lentE, HPS.out]
      have hown2 : OwnE W5 w.heap.size (lentE E u) := ⟨ownsRow_mono hown.own hgx.size, hown.n, hown.ps, hown.f, hown.t, hown.l⟩
      have HFIN : Hid (∀ W9, G (W5.alloc (.cells #[.string ef, .string et, .string el, .int .i64 em, .slice up (lentE E u).ps.length uc] 33)) W9 → ∀ v9, W9.ownsRow (W5.alloc (.cells #[.string ef, .string et, .string el, .int .i64 em, .slice up (lentE E u).ps.length uc] 33)).heap.size 33 5 v9 (n + 1) (ecs L ++ [.string ef, .string et, .string el, .int .i64 em, .slice up (lentE E u).ps.length uc]) → ∃ v' L' T', RBuf T' (W9.setCell ⟨R, 0, none⟩ v9) R (insO (outE E) s) v' L' ∧ (∀ k, T' k → T k ∨ w.heap.size ≤ k) ∧ Fr (fun q => q = R) w (W9.setCell ⟨R, 0, none⟩ v9)) := Lib.hid (fun W9 hg9 v9 ho9 => by
        rw [← hec, HN.out] at ho9
        obtain ⟨T', h1, h2, h3⟩ := rput_fin HH.out hown2 hgw5 (((G.refl W5).alloc _).trans hg9) (ownsRow_mono ho9 (by simp; have := hgw5.size; omega)) HIS.out.symm
        exact ⟨_, _, T', h1, h2, h3⟩)
      generalize (lentE E u).ps.length = un at HFIN ⊢
      clear hown hown2 hu hev2 hec HCO d0 d1 d2 d3 d4
      have k0 := cell_alloc_at W5 [.string ef, .string et, .string el, .int .i64 em, .slice up un uc] 33 (0, 0) 0 _ rfl
      have k1 := cell_alloc_at W5 [.string ef, .string et, .string el, .int .i64 em, .slice up un uc] 33 (0, 0) 1 _ rfl
      have k2 := cell_alloc_at W5 [.string ef, .string et, .string el, .int .i64 em, .slice up un uc] 33 (0, 0) 2 _ rfl
      have k3 := cell_alloc_at W5 [.string ef, .string et, .string el, .int .i64 em, .slice up un uc] 33 (0, 0) 3 _ rfl
      have k4 := cell_alloc_at W5 [.string ef, .string et, .string el, .int .i64 em, .slice up un uc] 33 (0, 0) 4 _ rfl
      simp only [Nat.zero_add] at k0 k1 k2 k3 k4
      have gA : G W5 (W5.alloc (.cells #[.string ef, .string et, .string el, .int .i64 em, .slice up un uc] 33)) := (G.refl W5).alloc _
      have br := gA.cell br
      go_upto_region 7 with fail
      generalize hW6 : (W5.alloc (.cells #[.string ef, .string et, .string el, .int .i64 em, .slice up un uc] 33)) = W6 at gA k0 k1 k2 k3 k4 br HFIN ⊢
      clear hW6
      have hg6 := hgw5.trans gA
      have HBR : Hid (Boxed W6 R 30 (.slice p n c)) := Lib.hid (by have := hg6.boxed (boxed_of_block HH.out.box); rw [HV.out] at this; exact this)
      have HRD : Hid (∀ X, G W6 X → Rdr X 5 (.slice p n c) n (ecs L)) := Lib.hid (fun X hX => by have := (HH.out.row.g hg6).g hX; rw [HV.out, ← HN.out] at this; exact this)
      clear gA hgx hg5 hgw5
      obtain ⟨WD, hWD⟩ : ∃ WD : World, WD = W6.drew := ⟨_, rfl⟩
      have hsD : G W6 WD := by rw [hWD]; exact (G.refl W6).drew
      refine region_hlW (fun w' => G W6 w') 12 13 (by kernel_rfl) rfl ?_
      intro Q0 HQ0
      simp only [List.replicate_succ, List.replicate_zero]
      rw [← hWD]
      clear hWD
      refine hl_take_np 0 (by kernel_rfl) (by kernel_rfl) rfl (by kernel_rfl) hsD (v := ?_) ?_ ?_
      rotate_left
      · (rintro x hx; have k_br := hx.cell br; have k_k0 := hx.cell k0; have k_k1 := hx.cell k1; have k_k2 := hx.cell k2; have k_k3 := hx.cell k3; have k_k4 := hx.cell k4; clear hx; go_simp; try rfl)
      simp only [Act.put, List.setIfInBounds_toArray, List.set_cons_zero, List.set_cons_succ]
      refine hl_take_np 2 (by kernel_rfl) (by kernel_rfl) rfl (by kernel_rfl) hsD (v := ?_) ?_ ?_
      rotate_left
      · (rintro x hx; have k_br := hx.cell br; have k_k0 := hx.cell k0; have k_k1 := hx.cell k1; have k_k2 := hx.cell k2; have k_k3 := hx.cell k3; have k_k4 := hx.cell k4; clear hx; go_simp; try rfl)
      simp only [Act.put, List.setIfInBounds_toArray, List.set_cons_zero, List.set_cons_succ]
      refine hl_take_np 3 (by kernel_rfl) (by kernel_rfl) rfl (by kernel_rfl) hsD (v := ?_) ?_ ?_
      rotate_left
      · (rintro x hx; have k_br := hx.cell br; have k_k0 := hx.cell k0; have k_k1 := hx.cell k1; have k_k2 := hx.cell k2; have k_k3 := hx.cell k3; have k_k4 := hx.cell k4; clear hx; go_simp; try rfl)
      simp only [Act.put, List.setIfInBounds_toArray, List.set_cons_zero, List.set_cons_succ]
      refine hl_take_np 4 (by kernel_rfl) (by kernel_rfl) rfl (by kernel_rfl) hsD (v := ?_) ?_ ?_
      rotate_left
      · (rintro x hx; have k_br := hx.cell br; have k_k0 := hx.cell k0; have k_k1 := hx.cell k1; have k_k2 := hx.cell k2; have k_k3 := hx.cell k3; have k_k4 := hx.cell k4; clear hx; go_simp; try rfl)
      simp only [Act.put, List.setIfInBounds_toArray, List.set_cons_zero, List.set_cons_succ]
      refine hl_take_np 5 (by kernel_rfl) (by kernel_rfl) rfl (by kernel_rfl) hsD (v := ?_) ?_ ?_
      rotate_left
      · (rintro x hx; have k_br := hx.cell br; have k_k0 := hx.cell k0; have k_k1 := hx.cell k1; have k_k2 := hx.cell k2; have k_k3 := hx.cell k3; have k_k4 := hx.cell k4; clear hx; go_simp; try rfl)
      simp only [Act.put, List.setIfInBounds_toArray, List.set_cons_zero, List.set_cons_succ]
      refine hl_take_np 7 (by kernel_rfl) (by kernel_rfl) rfl (by kernel_rfl) hsD (v := ?_) ?_ ?_
      rotate_left
      · (rintro x hx; have k_br := hx.cell br; have k_k0 := hx.cell k0; have k_k1 := hx.cell k1; have k_k2 := hx.cell k2; have k_k3 := hx.cell k3; have k_k4 := hx.cell k4; clear hx; go_simp; try rfl)
      simp only [Act.put, List.setIfInBounds_toArray, List.set_cons_zero, List.set_cons_succ]
      refine hl_two 1 8 (by kernel_rfl) rfl rfl ?_ ?_
      · go_wp2_with fail
        have g1 : G W6 (WD.alloc (.cells #[] 33)) := hsD.alloc _
        have own1 : (WD.alloc (.cells #[] 33)).ownsRow W6.heap.size 33 5 (.slice (some ⟨WD.heap.size, 0, none⟩) 0 0) 0 [] := ownsRow_mono (World.ownsRow_made WD #[] 0 (Nat.le_refl _) (Nat.zero_le _) rfl) hsD.size
        show _ ∧ _
        refine ⟨(by first | exact g1 | exact fun _ => g1), ?_⟩
        have hz1w : WD.heap.size < (WD.alloc (.cells #[] 33)).heap.size := by simp
        generalize hW1 : (WD.alloc (.cells #[] 33)) = W1 at g1 own1 hz1w ⊢
        generalize WD.heap.size = b1 at own1 hz1w ⊢
        refine hl_two 6 8 (by kernel_rfl) rfl rfl ?_ ?_
        · refine wpList_appendR W1 rfl _ _ 28 rfl W6.heap.size 33 i0 (.agg #[.string ⟨#[]⟩, .string ⟨#[]⟩, .string ⟨#[]⟩, .int .i64 0, .slice none 0 0]) 5 80 Try.underlying28 hi hz0 hz1 hz2 rfl (by decide) (.slice (some ⟨b1, 0, none⟩) 0 0) 0 [] rfl own1 (.slice p n c) n (ecs L) rfl (HRD.out W1 g1) HO1.out (by unfold maxLen; omega) (by omega) g1.size ?_
          intro mp mc W7 hown7 hgrow7 hat7
          simp only [Nat.zero_add, List.nil_append] at hown7 hat7 ⊢
          have g7 : G W6 W7 := g1.grown hgrow7 (fun k h => (own1.lt k h).1)
          clear hgrow7 hat7
          show _ ∧ _
          refine ⟨(by first | exact g7 | exact fun _ => g7), ?_⟩
          refine hl_step 8 (by kernel_rfl) rfl ?_
          go_wp2_with fail
          have g8 : G W6 (W7.alloc (.cells #[.string ef, .string et, .string el, .int .i64 em, .slice up un uc] 33)) := g7.alloc _
          have hc8 := alloc_new W7 (.cells #[.string ef, .string et, .string el, .int .i64 em, .slice up un uc] 33)
          have own8 := ((G.refl W7).alloc (.cells #[.string ef, .string et, .string el, .int .i64 em, .slice up un uc] 33)).ownsRow hown7
          have hz8 : W7.heap.size < (W7.alloc (.cells #[.string ef, .string et, .string el, .int .i64 em, .slice up un uc] 33)).heap.size := by simp
          show _ ∧ _
          refine ⟨(by first | exact g8 | exact fun _ => g8), ?_⟩
          generalize hW8 : (W7.alloc (.cells #[.string ef, .string et, .string el, .int .i64 em, .slice up un uc] 33)) = W8 at g8 hc8 hz8 own8 ⊢
          clear hW8
          generalize hb8 : W7.heap.size = b8 at hc8 hz8 ⊢
          clear hb8
          refine hl_step 9 (by kernel_rfl) rfl ?_
          refine wpList_append2 W8 rfl _ _ 28 rfl W6.heap.size 33 i0 (.agg #[.string ⟨#[]⟩, .string ⟨#[]⟩, .string ⟨#[]⟩, .int .i64 0, .slice none 0 0]) 5 80 Try.underlying28 hi hz0 hz1 hz2 rfl (by decide) (.slice mp n mc) n (ecs L) rfl own8 ⟨b8, 0, none⟩ 1 1 [.string ef, .string et, .string el, .int .i64 em, .slice up un uc] rfl rfl (World.news_of_block (cs := #[.string ef, .string et, .string el, .int .i64 em, .slice up un uc]) (t := 33) (fr := (0, 0)) hc8) (by simp [Value.oneCell']) (by unfold maxLen; omega) (by omega) g8.size ?_
          intro v9 W9 hown9 hgrow9 hnil9 hat9
          have g9 : G W6 W9 := g8.grown hgrow9 (fun k h => (own8.lt k h).1)
          show _ ∧ _
          refine ⟨(by first | exact g9 | exact fun _ => g9), ?_⟩
          obtain ⟨op, oc, rfl⟩ := ownsRow_shape hown9
          have HF9 := Lib.hid (HFIN.out W9 g9 (.slice op (n + 1) oc) hown9)
          have br9 := g9.cell br
          have fr9 := (g9.boxed HBR.out).frozen
          clear hown9 hgrow9 hnil9 hat9 br k0 k1 k2 k3 k4
          refine hl_step 10 (by kernel_rfl) rfl ?_
          go_wp2_with fail
          show _ ∧ _
          refine ⟨(by first | exact g9 | exact fun _ => g9), ?_⟩
          refine hl_step 11 (by kernel_rfl) rfl ?_
          go_wp2_with fail
          show _ ∧ _
          refine ⟨(by first | exact g9 | exact fun _ => g9), ?_⟩
          refine hl_step 12 (by kernel_rfl) rfl ?_
          go_wp2_with fail
          show _ ∧ _
          refine ⟨(by first | exact fun h => absurd rfl h | trivial), ?_⟩
          refine hl_done (by kernel_rfl) ?_ _
          refine NoPanic.normal (HQ0.out _ _ ?_)
          clear HQ0
          go_wp2_with fail
          go_ret
          exact .inr (.inr ⟨HCK.out.symm, HIS.out.symm, rfl, HF9.out⟩)
        · go_wp2_with fail
          have g8 : G W6 (W1.alloc (.cells #[.string ef, .string et, .string el, .int .i64 em, .slice up un uc] 33)) := g1.alloc _
          have hc8 := alloc_new W1 (.cells #[.string ef, .string et, .string el, .int .i64 em, .slice up un uc] 33)
          have own8 := ((G.refl W1).alloc (.cells #[.string ef, .string et, .string el, .int .i64 em, .slice up un uc] 33)).ownsRow own1
          have hz8 : W1.heap.size < (W1.alloc (.cells #[.string ef, .string et, .string el, .int .i64 em, .slice up un uc] 33)).heap.size := by simp
          show _ ∧ _
          refine ⟨(by first | exact g8 | exact fun _ => g8), ?_⟩
          generalize hW8 : (W1.alloc (.cells #[.string ef, .string et, .string el, .int .i64 em, .slice up un uc] 33)) = W8 at g8 hc8 hz8 own8 ⊢
          clear hW8
          generalize hb8 : W1.heap.size = b8 at hc8 hz8 hz1w ⊢
          clear hb8
          refine hl_step 6 (by kernel_rfl) rfl ?_
          refine wpList_appendR W8 rfl _ _ 28 rfl W6.heap.size 33 i0 (.agg #[.string ⟨#[]⟩, .string ⟨#[]⟩, .string ⟨#[]⟩, .int .i64 0, .slice none 0 0]) 5 80 Try.underlying28 hi hz0 hz1 hz2 rfl (by decide) (.slice (some ⟨b1, 0, none⟩) 0 0) 0 [] rfl own8 (.slice p n c) n (ecs L) rfl (HRD.out W8 g8) HO1.out (by unfold maxLen; omega) (by omega) g8.size ?_
          intro mp mc W7 hown7 hgrow7 hat7
          simp only [Nat.zero_add, List.nil_append] at hown7 hat7 ⊢
          have g7 : G W6 W7 := g8.grown hgrow7 (fun k h => (own8.lt k h).1)
          have hc8 := (hgrow7.block b8 (heap_lt hc8) (fun e => by have e2 : b8 = b1 := Option.some.inj e; omega)).trans hc8
          clear hgrow7 hat7
          show _ ∧ _
          refine ⟨(by first | exact g7 | exact fun _ => g7), ?_⟩
          refine hl_step 9 (by kernel_rfl) rfl ?_
          refine wpList_append2 W7 rfl _ _ 28 rfl W6.heap.size 33 i0 (.agg #[.string ⟨#[]⟩, .string ⟨#[]⟩, .string ⟨#[]⟩, .int .i64 0, .slice none 0 0]) 5 80 Try.underlying28 hi hz0 hz1 hz2 rfl (by decide) (.slice mp n mc) n (ecs L) rfl hown7 ⟨b8, 0, none⟩ 1 1 [.string ef, .string et, .string el, .int .i64 em, .slice up un uc] rfl rfl (World.news_of_block (cs := #[.string ef, .string et, .string el, .int .i64 em, .slice up un uc]) (t := 33) (fr := (0, 0)) hc8) (by simp [Value.oneCell']) (by unfold maxLen; omega) (by omega) g7.size ?_
          intro v9 W9 hown9 hgrow9 hnil9 hat9
          have g9 : G W6 W9 := g7.grown hgrow9 (fun k h => (hown7.lt k h).1)
          show _ ∧ _
          refine ⟨(by first | exact g9 | exact fun _ => g9), ?_⟩
          obtain ⟨op, oc, rfl⟩ := ownsRow_shape hown9
          have HF9 := Lib.hid (HFIN.out W9 g9 (.slice op (n + 1) oc) hown9)
          have br9 := g9.cell br
          have fr9 := (g9.boxed HBR.out).frozen
          clear hown9 hgrow9 hnil9 hat9 br k0 k1 k2 k3 k4
          refine hl_step 10 (by kernel_rfl) rfl ?_
          go_wp2_with fail
          show _ ∧ _
          refine ⟨(by first | exact g9 | exact fun _ => g9), ?_⟩
          refine hl_step 11 (by kernel_rfl) rfl ?_
          go_wp2_with fail
          show _ ∧ _
          refine ⟨(by first | exact g9 | exact fun _ => g9), ?_⟩
          refine hl_step 12 (by kernel_rfl) rfl ?_
          go_wp2_with fail
          show _ ∧ _
          refine ⟨(by first | exact fun h => absurd rfl h | trivial), ?_⟩
          refine hl_done (by kernel_rfl) ?_ _
          refine NoPanic.normal (HQ0.out _ _ ?_)
          clear HQ0
          go_wp2_with fail
          go_ret
          exact .inr (.inr ⟨HCK.out.symm, HIS.out.symm, rfl, HF9.out⟩)
      · go_wp2_with fail
        have g8 : G W6 (WD.alloc (.cells #[.string ef, .string et, .string el, .int .i64 em, .slice up un uc] 33)) := hsD.alloc _
        have hc8 := alloc_new WD (.cells #[.string ef, .string et, .string el, .int .i64 em, .slice up un uc] 33)
        have hz8 : WD.heap.size < (WD.alloc (.cells #[.string ef, .string et, .string el, .int .i64 em, .slice up un uc] 33)).heap.size := by simp
        show _ ∧ _
        refine ⟨(by first | exact g8 | exact fun _ => g8), ?_⟩
        generalize hW8 : (WD.alloc (.cells #[.string ef, .string et, .string el, .int .i64 em, .slice up un uc] 33)) = W8 at g8 hc8 hz8 ⊢
        clear hW8
        generalize hb8 : WD.heap.size = b8 at hc8 hz8 ⊢
        clear hb8
        refine hl_step 1 (by kernel_rfl) rfl ?_
        go_wp2_with fail
        have g1 : G W6 (W8.alloc (.cells #[] 33)) := g8.alloc _
        have own1 : (W8.alloc (.cells #[] 33)).ownsRow W6.heap.size 33 5 (.slice (some ⟨W8.heap.size, 0, none⟩) 0 0) 0 [] := ownsRow_mono (World.ownsRow_made W8 #[] 0 (Nat.le_refl _) (Nat.zero_le _) rfl) g8.size
        have hc8 := (((G.refl W8).alloc (.cells #[] 33)).block (heap_lt hc8)).trans hc8
        show _ ∧ _
        refine ⟨(by first | exact g1 | exact fun _ => g1), ?_⟩
        generalize hW1 : (W8.alloc (.cells #[] 33)) = W1 at g1 own1 hc8 ⊢
        generalize hb1 : W8.heap.size = b1 at own1 hz8 ⊢
        refine hl_step 6 (by kernel_rfl) rfl ?_
        refine wpList_appendR W1 rfl _ _ 28 rfl W6.heap.size 33 i0 (.agg #[.string ⟨#[]⟩, .string ⟨#[]⟩, .string ⟨#[]⟩, .int .i64 0, .slice none 0 0]) 5 80 Try.underlying28 hi hz0 hz1 hz2 rfl (by decide) (.slice (some ⟨b1, 0, none⟩) 0 0) 0 [] rfl own1 (.slice p n c) n (ecs L) rfl (HRD.out W1 g1) HO1.out (by unfold maxLen; omega) (by omega) g1.size ?_
        intro mp mc W7 hown7 hgrow7 hat7
        simp only [Nat.zero_add, List.nil_append] at hown7 hat7 ⊢
        have g7 : G W6 W7 := g1.grown hgrow7 (fun k h => (own1.lt k h).1)
        have hc8 := (hgrow7.block b8 (heap_lt hc8) (fun e => by have e2 : b8 = b1 := Option.some.inj e; omega)).trans hc8
        clear hgrow7 hat7
        show _ ∧ _
        refine ⟨(by first | exact g7 | exact fun _ => g7), ?_⟩
        refine hl_step 9 (by kernel_rfl) rfl ?_
        refine wpList_append2 W7 rfl _ _ 28 rfl W6.heap.size 33 i0 (.agg #[.string ⟨#[]⟩, .string ⟨#[]⟩, .string ⟨#[]⟩, .int .i64 0, .slice none 0 0]) 5 80 Try.underlying28 hi hz0 hz1 hz2 rfl (by decide) (.slice mp n mc) n (ecs L) rfl hown7 ⟨b8, 0, none⟩ 1 1 [.string ef, .string et, .string el, .int .i64 em, .slice up un uc] rfl rfl (World.news_of_block (cs := #[.string ef, .string et, .string el, .int .i64 em, .slice up un uc]) (t := 33) (fr := (0, 0)) hc8) (by simp [Value.oneCell']) (by unfold maxLen; omega) (by omega) g7.size ?_
        intro v9 W9 hown9 hgrow9 hnil9 hat9
        have g9 : G W6 W9 := g7.grown hgrow9 (fun k h => (hown7.lt k h).1)
        show _ ∧ _
        refine ⟨(by first | exact g9 | exact fun _ => g9), ?_⟩
        obtain ⟨op, oc, rfl⟩ := ownsRow_shape hown9
        have HF9 := Lib.hid (HFIN.out W9 g9 (.slice op (n + 1) oc) hown9)
        have br9 := g9.cell br
        have fr9 := (g9.boxed HBR.out).frozen
        clear hown9 hgrow9 hnil9 hat9 br k0 k1 k2 k3 k4
        refine hl_step 10 (by kernel_rfl) rfl ?_
        go_wp2_with fail
        show _ ∧ _
        refine ⟨(by first | exact g9 | exact fun _ => g9), ?_⟩
        refine hl_step 11 (by kernel_rfl) rfl ?_
        go_wp2_with fail
        show _ ∧ _
        refine ⟨(by first | exact g9 | exact fun _ => g9), ?_⟩
        refine hl_step 12 (by kernel_rfl) rfl ?_
        go_wp2_with fail
        show _ ∧ _
        refine ⟨(by first | exact fun h => absurd rfl h | trivial), ?_⟩
        refine hl_done (by kernel_rfl) ?_ _
        refine NoPanic.normal (HQ0.out _ _ ?_)
        clear HQ0
        go_wp2_with fail
        go_ret
        exact .inr (.inr ⟨HCK.out.symm, HIS.out.symm, rfl, HF9.out⟩)
    · go_wp2_with fail
      go_ret
      exact .inr (.inl ⟨HCK.out.symm, HIS.out.symm, rfl, hgx⟩)
  · have hckI : ¬ (ck = 0) := hck0
    go_wp2_with fail
    go_ret
    exact .inl ⟨by rw [← HCK.out]; exact hck0, by rw [← HCK.out]; rfl, hgw⟩
end Go.Proofs.Ytahdodijpmkddaa
