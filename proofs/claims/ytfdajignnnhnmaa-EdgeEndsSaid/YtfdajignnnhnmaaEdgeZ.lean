/- EdgeDoes: the walk -/
import Derived.Test.YtfdajignnnhnmaaEdgeY
import Derived.Test.YtfdajignnnhnmaaEdgeV
import Derived.Test.YtfdajignnnhnmaaEdgeR
namespace Go.Proofs.Ytfdajignnnhnmaa
set_option linter.unusedVariables false
set_option linter.unusedSimpArgs false
open Go.RowKit Go.Shelf
attribute [local go_sem] Oper.semAt_some

/-- three that may come up, any one ahead -/
theorem hl_threeW {P : Program} {md : Region.Mode} {os : List Oper} {Q : Exit → Act → World → Prop} {S : World → Prop} {t : Nat} (i j m : Nat) {oi oj om : Oper} {fuel : Nat} {listed : Array Bool} {a : Act} {w : World}
    (hr : Region.ready md os.toArray listed = [i, j, m]) (hi : nth os i = some oi) (hj : nth os j = some oj) (hm : nth os m = some om) (hwi : Region.wanted oi (yielded os.toArray a.tmps) = true) (hwj : Region.wanted oj (yielded os.toArray a.tmps) = true) (hwm : Region.wanted om (yielded os.toArray a.tmps) = true)
    (h1 : ∀ K : Act → World → Prop, (∀ a' w', (i ≠ t → S w') → hl P md os.toArray Q S t fuel (listed.setIfInBounds i true) a' w' → K a' w') → oi.wp P a w K Q)
    (h2 : ∀ K : Act → World → Prop, (∀ a' w', (j ≠ t → S w') → hl P md os.toArray Q S t fuel (listed.setIfInBounds j true) a' w' → K a' w') → oj.wp P a w K Q)
    (h3 : ∀ K : Act → World → Prop, (∀ a' w', (m ≠ t → S w') → hl P md os.toArray Q S t fuel (listed.setIfInBounds m true) a' w' → K a' w') → om.wp P a w K Q) : hl P md os.toArray Q S t (fuel + 1) listed a w := by
  refine ⟨(fun h0 => by rw [hr] at h0; cases h0), fun k hk => ?_⟩
  rw [hr] at hk
  simp only [List.mem_cons, List.not_mem_nil, or_false] at hk
  rcases hk with rfl | rfl | rfl
  · unfold opR
    simp only [nth_at hi, if_pos hwi]
    exact h1 _ fun a' w' hS hL => ⟨hS, hL⟩
  · unfold opR
    simp only [nth_at hj, if_pos hwj]
    exact h2 _ fun a' w' hS hL => ⟨hS, hL⟩
  · unfold opR
    simp only [nth_at hm, if_pos hwm]
    exact h3 _ fun a' w' hS hL => ⟨hS, hL⟩
theorem fr5 {S : Nat → Prop} {w W : World} {R : Nat} (hf : Fr S w W) (hR : S R) (v0 v1 v2 v3 v4 : Value) :
    Fr S w (((((W.setCell ⟨R, 0, none⟩ v0).setCell ⟨R, 1, none⟩ v1).setCell ⟨R, 2, none⟩ v2).setCell ⟨R, 3, none⟩ v3).setCell ⟨R, 4, none⟩ v4) :=
  ((((hf.setCell (p := ⟨R, 0, none⟩) (.inl hR) v0).setCell (p := ⟨R, 1, none⟩) (.inl hR) v1).setCell (p := ⟨R, 2, none⟩) (.inl hR) v2).setCell (p := ⟨R, 3, none⟩) (.inl hR) v3).setCell (p := ⟨R, 4, none⟩) (.inl hR) v4
theorem frz5 {W : World} {R : Nat} {ty : TypeId} {cs : Array Value} (h : W.heap[R]? = some (.cells cs ty (0, 0))) (j : Nat) : W.frozen? ⟨R, j, none⟩ = false := by unfold World.frozen?; rw [h]; simp
theorem putE_le (E : Edg) : (putE E).length ≤ 1000 := by
  by_cases h : checkE E = 0
  · exact putE_len h
  · rw [show putE E = [] from if_neg h]; exact Nat.zero_le _
/-- what stays in the walk of EdgeDoes: the two edges, what was lent of them -/
structure Dk (w X : World) (A B LA LB : Edg) (P Q : Nat) : Prop where
  a : X.heap[w.heap.size]? = some (.cells (ecells A).toArray 27 (0, 0))
  b : X.heap[w.heap.size + 1]? = some (.cells (ecells B).toArray 27 (0, 0))
  x : X.heap[P]? = some (.cells (ecells LA).toArray 27 (0, 0))
  y : X.heap[Q]? = some (.cells (ecells LB).toArray 27 (0, 0))
  ea : EdgAt X A
  eb : EdgAt X B
  la : ∃ base, LentP X base LA.v A
  lb : ∃ base, LentP X base LB.v B
  g : G w X
theorem Dk.next {w X Y : World} {A B LA LB : Edg} {P Q : Nat} (h : Dk w X A B LA LB P Q) (hg : G X Y) : Dk w Y A B LA LB P Q :=
  ⟨(hg.block (heap_lt h.a)).trans h.a, (hg.block (heap_lt h.b)).trans h.b, (hg.block (heap_lt h.x)).trans h.x, (hg.block (heap_lt h.y)).trans h.y, h.ea.g hg, h.eb.g hg,
    (by obtain ⟨c, h⟩ := h.la; exact ⟨c, h.g hg⟩), (by obtain ⟨c, h⟩ := h.lb; exact ⟨c, h.g hg⟩), h.g.trans hg⟩
theorem eq_val (x0 x1 : Int) (x2 : ByteArray) (w : World) : (binOp BinOp.eql 43 (.agg #[.int .i64 x0, .int .i64 x1, .string x2]) (.agg #[.int .i64 x0, .int .i64 x1, .string x2])).run Try.prog w = .ok (.bool true) w := by
  rw [run_eql_struct]
  simp [go_sem]
set_option maxRecDepth 10000 in
set_option maxHeartbeats 16000000 in
theorem does_any (A B : Edg) (s : ByteArray) (w : World) (hA : EdgAt w A) (hB : EdgAt w B) :
    Calls Try.prog 5 #[ev A, ev B, .string s] w fun e w' => e = .returned (.bool true) ∧ G w w' := by
  obtain ⟨fa, ta, la, ma, va, psa⟩ := A
  obtain ⟨fb, tb, lb, mb, vb, psb⟩ := B
  obtain ⟨-, pa, qa, hva, -⟩ := id hA.rdr
  obtain ⟨-, pb, qb, hvb, -⟩ := id hB.rdr
  simp only at hva hvb
  obtain ⟨na, hna⟩ : ∃ k, k = psa.length := ⟨_, rfl⟩
  obtain ⟨nb, hnb⟩ : ∃ k, k = psb.length := ⟨_, rfl⟩
  rw [← hna] at hva
  rw [← hnb] at hvb
  subst hva hvb
  obtain ⟨WA, hWA⟩ : ∃ X : World, X = (w.alloc (.cells #[.string fa, .string ta, .string la, .int .i64 ma, .slice pa na qa] 27)).alloc (.cells #[.string fb, .string tb, .string lb, .int .i64 mb, .slice pb nb qb] 27) := ⟨_, rfl⟩
  have hbx := boxes w #[.string fa, .string ta, .string la, .int .i64 ma, .slice pa na qa] #[.string fb, .string tb, .string lb, .int .i64 mb, .slice pb nb qb] 27
  rw [← hWA] at hbx
  obtain ⟨hgA, hbA, hbB⟩ := hbx
  have HWA := Lib.hid hWA
  have HBA := Lib.hid hbA
  have HBB := Lib.hid hbB
  have HGA := Lib.hid hgA
  have HEA := Lib.hid (hA.g hgA)
  have HEB := Lib.hid (hB.g hgA)
  have HNA := Lib.hid hna
  have HNB := Lib.hid hnb
  unfold ev
  simp only
  clear hA hB hna hnb hWA hbA hbB hgA
  go_enter Try.func5, Try.ntmps5
  go_upto_region 1 with fail
  rw [← HWA.out]
  obtain ⟨a0, a1, a2, a3, a4⟩ := cells5 HBA.out
  obtain ⟨b0, b1, b2, b3, b4⟩ := cells5 HBB.out
  go_wp2_with fail
  have hg2 : G WA (WA.alloc (.cells (ecs [⟨fa, ta, la, ma, .slice pa na qa, psa⟩, ⟨fb, tb, lb, mb, .slice pb nb qb, psb⟩]).toArray 27)) := (G.refl WA).alloc _
  refine (size_any [⟨fa, ta, la, ma, .slice pa na qa, psa⟩, ⟨fb, tb, lb, mb, .slice pb nb qb, psb⟩] _ _ (rdrE_two ⟨fa, ta, la, ma, .slice pa na qa, psa⟩ ⟨fb, tb, lb, mb, .slice pb nb qb, psb⟩ HEA.out HEB.out) (by show (2 : Nat) ≤ _; omega)).mono ?_
  rintro e wr ⟨z, rfl, hz1, hz2, hw2⟩
  rw [hw2] at hg2
  have HZ2 := Lib.hid hz2
  have HG2 := Lib.hid hg2
  clear hg2 hw2 hz2 a0 a1 a2 a3 a4 b0 b1 b2 b3 b4
  by_cases hbig : 2000 < z
  · have hbI : (2000 : Int) < (z : Int) := by omega
    go_wp2_with fail
    refine (awake_any wr).mono ?_
    rintro e w1 ⟨rfl, hg⟩
    go_wp2_with fail
    go_ret
    exact ⟨rfl, (HGA.out.trans HG2.out).trans hg⟩
  · have hbI : ¬ (2000 : Int) < (z : Int) := by omega
    have hsum := HZ2.out (by omega)
    have hna2 : psa.length ≤ 1000000 := by
      have : psa.length ≤ esum [⟨fa, ta, la, ma, .slice pa na qa, psa⟩, ⟨fb, tb, lb, mb, .slice pb nb qb, psb⟩] := esum_mem (E := ⟨fa, ta, la, ma, .slice pa na qa, psa⟩) (by simp)
      omega
    have hnb2 : psb.length ≤ 1000000 := by
      have : psb.length ≤ esum [⟨fa, ta, la, ma, .slice pa na qa, psa⟩, ⟨fb, tb, lb, mb, .slice pb nb qb, psb⟩] := esum_mem (E := ⟨fb, tb, lb, mb, .slice pb nb qb, psb⟩) (by simp)
      omega
    have HLA := Lib.hid (fun X (hX : G wr X) => lentE_any ⟨fa, ta, la, ma, .slice pa na qa, psa⟩ X ((HEA.out.g HG2.out).g hX) hna2)
    have HLB := Lib.hid (fun X (hX : G wr X) => lentE_any ⟨fb, tb, lb, mb, .slice pb nb qb, psb⟩ X ((HEB.out.g HG2.out).g hX) hnb2)
    have HNN := Lib.hid (And.intro hna2 hnb2)
    unfold ev lentE LentP at HLA HLB
    simp only at HLA HLB
    clear hsum HZ2 hbig hna2 hnb2
    have hbA := (HG2.out.block (heap_lt HBA.out)).trans HBA.out
    have hbB := (HG2.out.block (heap_lt HBB.out)).trans HBB.out
    obtain ⟨a0, a1, a2, a3, a4⟩ := cells5 hbA
    obtain ⟨b0, b1, b2, b3, b4⟩ := cells5 hbB
    have HA9 := Lib.hid hbA
    have HB9 := Lib.hid hbB
    clear hbA hbB
    go_upto_region 3 with fail
    generalize hAct : ({ tmps := _, defers := _ } : Act) = act0
    have HACT := Lib.hid hAct
    obtain ⟨Q0, hQ0⟩ : ∃ Q0 : Exit → Act → World → Prop, Q0 = (fun e a' w' => ∃ (P Q : Nat) (pu : Option Addr) (qu : Nat) (pw : Option Addr) (qw : Nat) (y24 y25 y26 y27 : Value), e = .normal ∧ a' = (((((act0.put (some 7) (.pointer (some ⟨P, 0, none⟩))).put (some 8) (.pointer (some ⟨Q, 0, none⟩))).put (some 24) y24).put (some 25) y25).put (some 26) y26).put (some 27) y27 ∧
      w'.heap[P]? = some (.cells #[.string fa, .string ta, .string la, .int .i64 ma, .slice pu na qu] 27 (0, 0)) ∧ w'.heap[Q]? = some (.cells #[.string fb, .string tb, .string lb, .int .i64 mb, .slice pw nb qw] 27 (0, 0)) ∧ (∃ base, Lent w' base 56 4 (.slice pu na qu) psa.length (pcells psa ++ pcells (marksP 1 12))) ∧ (∃ base, Lent w' base 56 4 (.slice pw nb qw) psb.length (pcells psb ++ pcells (marksP 1 12))) ∧ G wr w') := ⟨_, rfl⟩
    have HQ0 := Lib.hid hQ0
    rw [← hAct]
    clear hQ0 hAct
    refine wp_mono (Q := Q0) ?_ ?_
    · obtain ⟨X0, hX0⟩ : ∃ X : World, X = wr.drew := ⟨_, rfl⟩
      have gX : G wr X0 := by rw [hX0]; exact (G.refl wr).drew
      refine region_hl (fun w' => G wr w') 7 8 (by kernel_rfl) rfl ?_
      simp only [List.replicate_succ, List.replicate_zero]
      rw [← hX0]
      clear hX0
      refine hl_take_np 0 (by kernel_rfl) (by kernel_rfl) rfl (by kernel_rfl) gX (v := ?_) ?_ ?_
      rotate_left
      · (rintro x hx; have k0 := hx.cell a0; have j0 := hx.cell b0; have k1 := hx.cell a1; have j1 := hx.cell b1; have k2 := hx.cell a2; have j2 := hx.cell b2; have k3 := hx.cell a3; have j3 := hx.cell b3; have k4 := hx.cell a4; have j4 := hx.cell b4; clear hx; go_simp; try rfl)
      simp only [Act.put, List.setIfInBounds_toArray, List.set_cons_zero, List.set_cons_succ]
      refine hl_take_np 2 (by kernel_rfl) (by kernel_rfl) rfl (by kernel_rfl) gX (v := ?_) ?_ ?_
      rotate_left
      · (rintro x hx; have k0 := hx.cell a0; have j0 := hx.cell b0; have k1 := hx.cell a1; have j1 := hx.cell b1; have k2 := hx.cell a2; have j2 := hx.cell b2; have k3 := hx.cell a3; have j3 := hx.cell b3; have k4 := hx.cell a4; have j4 := hx.cell b4; clear hx; go_simp; try rfl)
      simp only [Act.put, List.setIfInBounds_toArray, List.set_cons_zero, List.set_cons_succ]
      clear a0 a1 a2 a3 a4 b0 b1 b2 b3 b4
      refine hl_threeW 1 4 5 (by kernel_rfl) rfl rfl rfl (by kernel_rfl) (by kernel_rfl) (by kernel_rfl) ?_ ?_ ?_
      · intro K hK
        go_simp
        refine (HLA.out X0 gX).mono ?_
        rintro e Y1 ⟨u, rfl, l1, hgx⟩
        obtain ⟨gg, qu, hu, -⟩ := id l1
        rw [← HNA.out] at hu
        obtain ⟨pu, hpu⟩ : ∃ x : Option Addr, x = some ⟨gg, 0, none⟩ := ⟨_, rfl⟩
        rw [← hpu] at hu
        subst hu
        clear hpu
        replace gX := gX.trans hgx
        refine hK _ _ (fun _ => gX) ?_
        clear hK K hgx
        simp only [Act.put, List.setIfInBounds_toArray, List.set_cons_zero, List.set_cons_succ]
        refine hl_threeW 3 4 5 (by kernel_rfl) rfl rfl rfl (by kernel_rfl) (by kernel_rfl) (by kernel_rfl) ?_ ?_ ?_
        · intro K hK
          go_simp
          refine (HLB.out Y1 gX).mono ?_
          rintro e Y2 ⟨u, rfl, l2, hgx⟩
          obtain ⟨gg, qw, hu, -⟩ := id l2
          rw [← HNB.out] at hu
          obtain ⟨pw, hpw⟩ : ∃ x : Option Addr, x = some ⟨gg, 0, none⟩ := ⟨_, rfl⟩
          rw [← hpw] at hu
          subst hu
          clear hpw
          replace l1 := Lent.g l1 hgx
          replace gX := gX.trans hgx
          refine hK _ _ (fun _ => gX) ?_
          clear hK K hgx
          simp only [Act.put, List.setIfInBounds_toArray, List.set_cons_zero, List.set_cons_succ]
          refine hl_twoW 4 5 (by kernel_rfl) rfl rfl (by kernel_rfl) (by kernel_rfl) ?_ ?_
          · intro K hK
            go_simp
            obtain ⟨Y3, hY3⟩ : ∃ Y : World, Y = Y2.alloc (.cells #[.string ⟨#[]⟩, .string ⟨#[]⟩, .string ⟨#[]⟩, .int .i64 0, .slice none 0 0] 27) := ⟨_, rfl⟩
            have hgx : G Y2 Y3 := by rw [hY3]; exact (G.refl Y2).alloc _
            have pA : Y3.heap[Y2.heap.size]? = some (.cells #[.string ⟨#[]⟩, .string ⟨#[]⟩, .string ⟨#[]⟩, .int .i64 0, .slice none 0 0] 27 (0, 0)) := by rw [hY3]; exact alloc_new _ _
            have geA := gX.size
            rw [← hY3]
            obtain ⟨A, hA⟩ : ∃ b, b = Y2.heap.size := ⟨_, rfl⟩
            rw [← hA] at pA geA ⊢
            have nA1 : ∀ g, (Value.slice pu na qu).ownBlock = some g → g ≠ A := fun g hg => by have := (Lent.lt l1 g hg).2; omega
            have nA2 : ∀ g, (Value.slice pw nb qw).ownBlock = some g → g ≠ A := fun g hg => by have := (Lent.lt l2 g hg).2; omega
            replace l1 := Lent.g l1 hgx
            replace l2 := Lent.g l2 hgx
            replace gX := gX.trans hgx
            refine hK _ _ (fun _ => gX) ?_
            clear hK K hgx hY3 hA
            simp only [Act.put, List.setIfInBounds_toArray, List.set_cons_zero, List.set_cons_succ]
            refine hl_stepW 5 (by kernel_rfl) rfl (by kernel_rfl) ?_
            intro K hK
            go_simp
            obtain ⟨Y4, hY4⟩ : ∃ Y : World, Y = Y3.alloc (.cells #[.string ⟨#[]⟩, .string ⟨#[]⟩, .string ⟨#[]⟩, .int .i64 0, .slice none 0 0] 27) := ⟨_, rfl⟩
            have hgx : G Y3 Y4 := by rw [hY4]; exact (G.refl Y3).alloc _
            have pB : Y4.heap[Y3.heap.size]? = some (.cells #[.string ⟨#[]⟩, .string ⟨#[]⟩, .string ⟨#[]⟩, .int .i64 0, .slice none 0 0] 27 (0, 0)) := by rw [hY4]; exact alloc_new _ _
            have geB := gX.size
            rw [← hY4]
            obtain ⟨B, hB⟩ : ∃ b, b = Y3.heap.size := ⟨_, rfl⟩
            rw [← hB] at pB geB ⊢
            have nB1 : ∀ g, (Value.slice pu na qu).ownBlock = some g → g ≠ B := fun g hg => by have := (Lent.lt l1 g hg).2; omega
            have nB2 : ∀ g, (Value.slice pw nb qw).ownBlock = some g → g ≠ B := fun g hg => by have := (Lent.lt l2 g hg).2; omega
            have nAB : A ≠ B := by have := heap_lt pA; omega
            replace l1 := Lent.g l1 hgx
            replace l2 := Lent.g l2 hgx
            replace pA := (hgx.block (heap_lt pA)).trans pA
            replace gX := gX.trans hgx
            refine hK _ _ (fun _ => gX) ?_
            clear hK K hgx hY4 hB
            simp only [Act.put, List.setIfInBounds_toArray, List.set_cons_zero, List.set_cons_succ]
            refine hl_stepW 6 (by kernel_rfl) rfl (by kernel_rfl) ?_
            intro K hK
            have y0 := frz5 pA 0
            have y1 := frz5 pA 1
            have y2 := frz5 pA 2
            have y3 := frz5 pA 3
            have y4 := frz5 pA 4
            obtain ⟨x0, x1, x2, x3, x4⟩ := cells5 pA
            go_simp
            clear y0 y1 y2 y3 y4 x0 x1 x2 x3 x4
            have fS := fr5 (Fr.refl (fun q => q = A) Y4) rfl (.string fa) (.string ta) (.string la) (.int .i64 ma) (.slice pu na qu)
            obtain ⟨gS, pA'⟩ := set5 gX geA pA (.string fa) (.string ta) (.string la) (.int .i64 ma) (.slice pu na qu)
            replace pB := (fS.block _ (heap_lt pB) (fun e => nAB e.symm)).trans pB
            replace l1 := Lent.fr l1 fS nA1
            replace l2 := Lent.fr l2 fS nA2
            generalize hXS : ((((Y4.setCell ⟨A, 0, none⟩ (.string fa)).setCell ⟨A, 1, none⟩ (.string ta)).setCell ⟨A, 2, none⟩ (.string la)).setCell ⟨A, 3, none⟩ (.int .i64 ma)).setCell ⟨A, 4, none⟩ (.slice pu na qu) = XS at *
            refine hK _ _ (fun _ => gS) ?_
            clear hK K fS gX hXS pA
            simp only [Act.put, List.setIfInBounds_toArray, List.set_cons_zero, List.set_cons_succ]
            refine hl_stepW 7 (by kernel_rfl) rfl (by kernel_rfl) ?_
            intro K hK
            have y0 := frz5 pB 0
            have y1 := frz5 pB 1
            have y2 := frz5 pB 2
            have y3 := frz5 pB 3
            have y4 := frz5 pB 4
            obtain ⟨x0, x1, x2, x3, x4⟩ := cells5 pB
            go_simp
            clear y0 y1 y2 y3 y4 x0 x1 x2 x3 x4
            have fS := fr5 (Fr.refl (fun q => q = B) XS) rfl (.string fb) (.string tb) (.string lb) (.int .i64 mb) (.slice pw nb qw)
            obtain ⟨gT, pB'⟩ := set5 gS geB pB (.string fb) (.string tb) (.string lb) (.int .i64 mb) (.slice pw nb qw)
            replace pA' := (fS.block _ (heap_lt pA') nAB).trans pA'
            replace l1 := Lent.fr l1 fS nB1
            replace l2 := Lent.fr l2 fS nB2
            refine hK _ _ (fun e => absurd rfl e) ?_
            clear hK K fS gS pB
            simp only [Act.put, List.setIfInBounds_toArray, List.set_cons_zero, List.set_cons_succ]
            refine hl_done (by kernel_rfl) ?_ _
            refine NoPanic.normal ?_
            rw [HQ0.out]
            refine ⟨A, B, pu, qu, pw, qw, ?_⟩
            iterate 4 apply Exists.intro
            refine ⟨rfl, ?_, pA', pB', ⟨_, l1⟩, ⟨_, l2⟩, gT⟩
            rw [← HACT.out]; simp only [Act.put, List.setIfInBounds_toArray, List.set_cons_zero, List.set_cons_succ]; rfl
          · intro K hK
            go_simp
            obtain ⟨Y3, hY3⟩ : ∃ Y : World, Y = Y2.alloc (.cells #[.string ⟨#[]⟩, .string ⟨#[]⟩, .string ⟨#[]⟩, .int .i64 0, .slice none 0 0] 27) := ⟨_, rfl⟩
            have hgx : G Y2 Y3 := by rw [hY3]; exact (G.refl Y2).alloc _
            have pB : Y3.heap[Y2.heap.size]? = some (.cells #[.string ⟨#[]⟩, .string ⟨#[]⟩, .string ⟨#[]⟩, .int .i64 0, .slice none 0 0] 27 (0, 0)) := by rw [hY3]; exact alloc_new _ _
            have geB := gX.size
            rw [← hY3]
            obtain ⟨B, hB⟩ : ∃ b, b = Y2.heap.size := ⟨_, rfl⟩
            rw [← hB] at pB geB ⊢
            have nB1 : ∀ g, (Value.slice pu na qu).ownBlock = some g → g ≠ B := fun g hg => by have := (Lent.lt l1 g hg).2; omega
            have nB2 : ∀ g, (Value.slice pw nb qw).ownBlock = some g → g ≠ B := fun g hg => by have := (Lent.lt l2 g hg).2; omega
            replace l1 := Lent.g l1 hgx
            replace l2 := Lent.g l2 hgx
            replace gX := gX.trans hgx
            refine hK _ _ (fun _ => gX) ?_
            clear hK K hgx hY3 hB
            simp only [Act.put, List.setIfInBounds_toArray, List.set_cons_zero, List.set_cons_succ]
            refine hl_stepW 4 (by kernel_rfl) rfl (by kernel_rfl) ?_
            intro K hK
            go_simp
            obtain ⟨Y6, hY6⟩ : ∃ Y : World, Y = Y3.alloc (.cells #[.string ⟨#[]⟩, .string ⟨#[]⟩, .string ⟨#[]⟩, .int .i64 0, .slice none 0 0] 27) := ⟨_, rfl⟩
            have hgx : G Y3 Y6 := by rw [hY6]; exact (G.refl Y3).alloc _
            have pA : Y6.heap[Y3.heap.size]? = some (.cells #[.string ⟨#[]⟩, .string ⟨#[]⟩, .string ⟨#[]⟩, .int .i64 0, .slice none 0 0] 27 (0, 0)) := by rw [hY6]; exact alloc_new _ _
            have geA := gX.size
            rw [← hY6]
            obtain ⟨A, hA⟩ : ∃ b, b = Y3.heap.size := ⟨_, rfl⟩
            rw [← hA] at pA geA ⊢
            have nA1 : ∀ g, (Value.slice pu na qu).ownBlock = some g → g ≠ A := fun g hg => by have := (Lent.lt l1 g hg).2; omega
            have nA2 : ∀ g, (Value.slice pw nb qw).ownBlock = some g → g ≠ A := fun g hg => by have := (Lent.lt l2 g hg).2; omega
            have nAB : A ≠ B := by have := heap_lt pB; omega
            replace l1 := Lent.g l1 hgx
            replace l2 := Lent.g l2 hgx
            replace pB := (hgx.block (heap_lt pB)).trans pB
            replace gX := gX.trans hgx
            refine hK _ _ (fun _ => gX) ?_
            clear hK K hgx hY6 hA
            simp only [Act.put, List.setIfInBounds_toArray, List.set_cons_zero, List.set_cons_succ]
            refine hl_stepW 6 (by kernel_rfl) rfl (by kernel_rfl) ?_
            intro K hK
            have y0 := frz5 pA 0
            have y1 := frz5 pA 1
            have y2 := frz5 pA 2
            have y3 := frz5 pA 3
            have y4 := frz5 pA 4
            obtain ⟨x0, x1, x2, x3, x4⟩ := cells5 pA
            go_simp
            clear y0 y1 y2 y3 y4 x0 x1 x2 x3 x4
            have fS := fr5 (Fr.refl (fun q => q = A) Y6) rfl (.string fa) (.string ta) (.string la) (.int .i64 ma) (.slice pu na qu)
            obtain ⟨gS, pA'⟩ := set5 gX geA pA (.string fa) (.string ta) (.string la) (.int .i64 ma) (.slice pu na qu)
            replace pB := (fS.block _ (heap_lt pB) (fun e => nAB e.symm)).trans pB
            replace l1 := Lent.fr l1 fS nA1
            replace l2 := Lent.fr l2 fS nA2
            generalize hXS : ((((Y6.setCell ⟨A, 0, none⟩ (.string fa)).setCell ⟨A, 1, none⟩ (.string ta)).setCell ⟨A, 2, none⟩ (.string la)).setCell ⟨A, 3, none⟩ (.int .i64 ma)).setCell ⟨A, 4, none⟩ (.slice pu na qu) = XS at *
            refine hK _ _ (fun _ => gS) ?_
            clear hK K fS gX hXS pA
            simp only [Act.put, List.setIfInBounds_toArray, List.set_cons_zero, List.set_cons_succ]
            refine hl_stepW 7 (by kernel_rfl) rfl (by kernel_rfl) ?_
            intro K hK
            have y0 := frz5 pB 0
            have y1 := frz5 pB 1
            have y2 := frz5 pB 2
            have y3 := frz5 pB 3
            have y4 := frz5 pB 4
            obtain ⟨x0, x1, x2, x3, x4⟩ := cells5 pB
            go_simp
            clear y0 y1 y2 y3 y4 x0 x1 x2 x3 x4
            have fS := fr5 (Fr.refl (fun q => q = B) XS) rfl (.string fb) (.string tb) (.string lb) (.int .i64 mb) (.slice pw nb qw)
            obtain ⟨gT, pB'⟩ := set5 gS geB pB (.string fb) (.string tb) (.string lb) (.int .i64 mb) (.slice pw nb qw)
            replace pA' := (fS.block _ (heap_lt pA') nAB).trans pA'
            replace l1 := Lent.fr l1 fS nB1
            replace l2 := Lent.fr l2 fS nB2
            refine hK _ _ (fun e => absurd rfl e) ?_
            clear hK K fS gS pB
            simp only [Act.put, List.setIfInBounds_toArray, List.set_cons_zero, List.set_cons_succ]
            refine hl_done (by kernel_rfl) ?_ _
            refine NoPanic.normal ?_
            rw [HQ0.out]
            refine ⟨A, B, pu, qu, pw, qw, ?_⟩
            iterate 4 apply Exists.intro
            refine ⟨rfl, ?_, pA', pB', ⟨_, l1⟩, ⟨_, l2⟩, gT⟩
            rw [← HACT.out]; simp only [Act.put, List.setIfInBounds_toArray, List.set_cons_zero, List.set_cons_succ]; rfl
        · intro K hK
          go_simp
          obtain ⟨Y2, hY2⟩ : ∃ Y : World, Y = Y1.alloc (.cells #[.string ⟨#[]⟩, .string ⟨#[]⟩, .string ⟨#[]⟩, .int .i64 0, .slice none 0 0] 27) := ⟨_, rfl⟩
          have hgx : G Y1 Y2 := by rw [hY2]; exact (G.refl Y1).alloc _
          have pA : Y2.heap[Y1.heap.size]? = some (.cells #[.string ⟨#[]⟩, .string ⟨#[]⟩, .string ⟨#[]⟩, .int .i64 0, .slice none 0 0] 27 (0, 0)) := by rw [hY2]; exact alloc_new _ _
          have geA := gX.size
          rw [← hY2]
          obtain ⟨A, hA⟩ : ∃ b, b = Y1.heap.size := ⟨_, rfl⟩
          rw [← hA] at pA geA ⊢
          have nA1 : ∀ g, (Value.slice pu na qu).ownBlock = some g → g ≠ A := fun g hg => by have := (Lent.lt l1 g hg).2; omega
          replace l1 := Lent.g l1 hgx
          replace gX := gX.trans hgx
          refine hK _ _ (fun _ => gX) ?_
          clear hK K hgx hY2 hA
          simp only [Act.put, List.setIfInBounds_toArray, List.set_cons_zero, List.set_cons_succ]
          refine hl_twoW 3 5 (by kernel_rfl) rfl rfl (by kernel_rfl) (by kernel_rfl) ?_ ?_
          · intro K hK
            go_simp
            refine (HLB.out Y2 gX).mono ?_
            rintro e Y8 ⟨u, rfl, l2, hgx⟩
            obtain ⟨gg, qw, hu, -⟩ := id l2
            rw [← HNB.out] at hu
            obtain ⟨pw, hpw⟩ : ∃ x : Option Addr, x = some ⟨gg, 0, none⟩ := ⟨_, rfl⟩
            rw [← hpw] at hu
            subst hu
            clear hpw
            have nA2 : ∀ g, (Value.slice pw nb qw).ownBlock = some g → g ≠ A := fun g hg => by have := (Lent.lt l2 g hg).1; have := heap_lt pA; omega
            replace l1 := Lent.g l1 hgx
            replace pA := (hgx.block (heap_lt pA)).trans pA
            replace gX := gX.trans hgx
            refine hK _ _ (fun _ => gX) ?_
            clear hK K hgx
            simp only [Act.put, List.setIfInBounds_toArray, List.set_cons_zero, List.set_cons_succ]
            refine hl_stepW 5 (by kernel_rfl) rfl (by kernel_rfl) ?_
            intro K hK
            go_simp
            obtain ⟨Y9, hY9⟩ : ∃ Y : World, Y = Y8.alloc (.cells #[.string ⟨#[]⟩, .string ⟨#[]⟩, .string ⟨#[]⟩, .int .i64 0, .slice none 0 0] 27) := ⟨_, rfl⟩
            have hgx : G Y8 Y9 := by rw [hY9]; exact (G.refl Y8).alloc _
            have pB : Y9.heap[Y8.heap.size]? = some (.cells #[.string ⟨#[]⟩, .string ⟨#[]⟩, .string ⟨#[]⟩, .int .i64 0, .slice none 0 0] 27 (0, 0)) := by rw [hY9]; exact alloc_new _ _
            have geB := gX.size
            rw [← hY9]
            obtain ⟨B, hB⟩ : ∃ b, b = Y8.heap.size := ⟨_, rfl⟩
            rw [← hB] at pB geB ⊢
            have nB1 : ∀ g, (Value.slice pu na qu).ownBlock = some g → g ≠ B := fun g hg => by have := (Lent.lt l1 g hg).2; omega
            have nB2 : ∀ g, (Value.slice pw nb qw).ownBlock = some g → g ≠ B := fun g hg => by have := (Lent.lt l2 g hg).2; omega
            have nAB : A ≠ B := by have := heap_lt pA; omega
            replace l1 := Lent.g l1 hgx
            replace l2 := Lent.g l2 hgx
            replace pA := (hgx.block (heap_lt pA)).trans pA
            replace gX := gX.trans hgx
            refine hK _ _ (fun _ => gX) ?_
            clear hK K hgx hY9 hB
            simp only [Act.put, List.setIfInBounds_toArray, List.set_cons_zero, List.set_cons_succ]
            refine hl_stepW 6 (by kernel_rfl) rfl (by kernel_rfl) ?_
            intro K hK
            have y0 := frz5 pA 0
            have y1 := frz5 pA 1
            have y2 := frz5 pA 2
            have y3 := frz5 pA 3
            have y4 := frz5 pA 4
            obtain ⟨x0, x1, x2, x3, x4⟩ := cells5 pA
            go_simp
            clear y0 y1 y2 y3 y4 x0 x1 x2 x3 x4
            have fS := fr5 (Fr.refl (fun q => q = A) Y9) rfl (.string fa) (.string ta) (.string la) (.int .i64 ma) (.slice pu na qu)
            obtain ⟨gS, pA'⟩ := set5 gX geA pA (.string fa) (.string ta) (.string la) (.int .i64 ma) (.slice pu na qu)
            replace pB := (fS.block _ (heap_lt pB) (fun e => nAB e.symm)).trans pB
            replace l1 := Lent.fr l1 fS nA1
            replace l2 := Lent.fr l2 fS nA2
            generalize hXS : ((((Y9.setCell ⟨A, 0, none⟩ (.string fa)).setCell ⟨A, 1, none⟩ (.string ta)).setCell ⟨A, 2, none⟩ (.string la)).setCell ⟨A, 3, none⟩ (.int .i64 ma)).setCell ⟨A, 4, none⟩ (.slice pu na qu) = XS at *
            refine hK _ _ (fun _ => gS) ?_
            clear hK K fS gX hXS pA
            simp only [Act.put, List.setIfInBounds_toArray, List.set_cons_zero, List.set_cons_succ]
            refine hl_stepW 7 (by kernel_rfl) rfl (by kernel_rfl) ?_
            intro K hK
            have y0 := frz5 pB 0
            have y1 := frz5 pB 1
            have y2 := frz5 pB 2
            have y3 := frz5 pB 3
            have y4 := frz5 pB 4
            obtain ⟨x0, x1, x2, x3, x4⟩ := cells5 pB
            go_simp
            clear y0 y1 y2 y3 y4 x0 x1 x2 x3 x4
            have fS := fr5 (Fr.refl (fun q => q = B) XS) rfl (.string fb) (.string tb) (.string lb) (.int .i64 mb) (.slice pw nb qw)
            obtain ⟨gT, pB'⟩ := set5 gS geB pB (.string fb) (.string tb) (.string lb) (.int .i64 mb) (.slice pw nb qw)
            replace pA' := (fS.block _ (heap_lt pA') nAB).trans pA'
            replace l1 := Lent.fr l1 fS nB1
            replace l2 := Lent.fr l2 fS nB2
            refine hK _ _ (fun e => absurd rfl e) ?_
            clear hK K fS gS pB
            simp only [Act.put, List.setIfInBounds_toArray, List.set_cons_zero, List.set_cons_succ]
            refine hl_done (by kernel_rfl) ?_ _
            refine NoPanic.normal ?_
            rw [HQ0.out]
            refine ⟨A, B, pu, qu, pw, qw, ?_⟩
            iterate 4 apply Exists.intro
            refine ⟨rfl, ?_, pA', pB', ⟨_, l1⟩, ⟨_, l2⟩, gT⟩
            rw [← HACT.out]; simp only [Act.put, List.setIfInBounds_toArray, List.set_cons_zero, List.set_cons_succ]; rfl
          · intro K hK
            go_simp
            obtain ⟨Y8, hY8⟩ : ∃ Y : World, Y = Y2.alloc (.cells #[.string ⟨#[]⟩, .string ⟨#[]⟩, .string ⟨#[]⟩, .int .i64 0, .slice none 0 0] 27) := ⟨_, rfl⟩
            have hgx : G Y2 Y8 := by rw [hY8]; exact (G.refl Y2).alloc _
            have pB : Y8.heap[Y2.heap.size]? = some (.cells #[.string ⟨#[]⟩, .string ⟨#[]⟩, .string ⟨#[]⟩, .int .i64 0, .slice none 0 0] 27 (0, 0)) := by rw [hY8]; exact alloc_new _ _
            have geB := gX.size
            rw [← hY8]
            obtain ⟨B, hB⟩ : ∃ b, b = Y2.heap.size := ⟨_, rfl⟩
            rw [← hB] at pB geB ⊢
            have nB1 : ∀ g, (Value.slice pu na qu).ownBlock = some g → g ≠ B := fun g hg => by have := (Lent.lt l1 g hg).2; omega
            have nAB : A ≠ B := by have := heap_lt pA; omega
            replace l1 := Lent.g l1 hgx
            replace pA := (hgx.block (heap_lt pA)).trans pA
            replace gX := gX.trans hgx
            refine hK _ _ (fun _ => gX) ?_
            clear hK K hgx hY8 hB
            simp only [Act.put, List.setIfInBounds_toArray, List.set_cons_zero, List.set_cons_succ]
            refine hl_stepW 3 (by kernel_rfl) rfl (by kernel_rfl) ?_
            intro K hK
            go_simp
            refine (HLB.out Y8 gX).mono ?_
            rintro e Y11 ⟨u, rfl, l2, hgx⟩
            obtain ⟨gg, qw, hu, -⟩ := id l2
            rw [← HNB.out] at hu
            obtain ⟨pw, hpw⟩ : ∃ x : Option Addr, x = some ⟨gg, 0, none⟩ := ⟨_, rfl⟩
            rw [← hpw] at hu
            subst hu
            clear hpw
            have nA2 : ∀ g, (Value.slice pw nb qw).ownBlock = some g → g ≠ A := fun g hg => by have := (Lent.lt l2 g hg).1; have := heap_lt pA; omega
            have nB2 : ∀ g, (Value.slice pw nb qw).ownBlock = some g → g ≠ B := fun g hg => by have := (Lent.lt l2 g hg).1; have := heap_lt pB; omega
            replace l1 := Lent.g l1 hgx
            replace pA := (hgx.block (heap_lt pA)).trans pA
            replace pB := (hgx.block (heap_lt pB)).trans pB
            replace gX := gX.trans hgx
            refine hK _ _ (fun _ => gX) ?_
            clear hK K hgx
            simp only [Act.put, List.setIfInBounds_toArray, List.set_cons_zero, List.set_cons_succ]
            refine hl_stepW 6 (by kernel_rfl) rfl (by kernel_rfl) ?_
            intro K hK
            have y0 := frz5 pA 0
            have y1 := frz5 pA 1
            have y2 := frz5 pA 2
            have y3 := frz5 pA 3
            have y4 := frz5 pA 4
            obtain ⟨x0, x1, x2, x3, x4⟩ := cells5 pA
            go_simp
            clear y0 y1 y2 y3 y4 x0 x1 x2 x3 x4
            have fS := fr5 (Fr.refl (fun q => q = A) Y11) rfl (.string fa) (.string ta) (.string la) (.int .i64 ma) (.slice pu na qu)
            obtain ⟨gS, pA'⟩ := set5 gX geA pA (.string fa) (.string ta) (.string la) (.int .i64 ma) (.slice pu na qu)
            replace pB := (fS.block _ (heap_lt pB) (fun e => nAB e.symm)).trans pB
            replace l1 := Lent.fr l1 fS nA1
            replace l2 := Lent.fr l2 fS nA2
            generalize hXS : ((((Y11.setCell ⟨A, 0, none⟩ (.string fa)).setCell ⟨A, 1, none⟩ (.string ta)).setCell ⟨A, 2, none⟩ (.string la)).setCell ⟨A, 3, none⟩ (.int .i64 ma)).setCell ⟨A, 4, none⟩ (.slice pu na qu) = XS at *
            refine hK _ _ (fun _ => gS) ?_
            clear hK K fS gX hXS pA
            simp only [Act.put, List.setIfInBounds_toArray, List.set_cons_zero, List.set_cons_succ]
            refine hl_stepW 7 (by kernel_rfl) rfl (by kernel_rfl) ?_
            intro K hK
            have y0 := frz5 pB 0
            have y1 := frz5 pB 1
            have y2 := frz5 pB 2
            have y3 := frz5 pB 3
            have y4 := frz5 pB 4
            obtain ⟨x0, x1, x2, x3, x4⟩ := cells5 pB
            go_simp
            clear y0 y1 y2 y3 y4 x0 x1 x2 x3 x4
            have fS := fr5 (Fr.refl (fun q => q = B) XS) rfl (.string fb) (.string tb) (.string lb) (.int .i64 mb) (.slice pw nb qw)
            obtain ⟨gT, pB'⟩ := set5 gS geB pB (.string fb) (.string tb) (.string lb) (.int .i64 mb) (.slice pw nb qw)
            replace pA' := (fS.block _ (heap_lt pA') nAB).trans pA'
            replace l1 := Lent.fr l1 fS nB1
            replace l2 := Lent.fr l2 fS nB2
            refine hK _ _ (fun e => absurd rfl e) ?_
            clear hK K fS gS pB
            simp only [Act.put, List.setIfInBounds_toArray, List.set_cons_zero, List.set_cons_succ]
            refine hl_done (by kernel_rfl) ?_ _
            refine NoPanic.normal ?_
            rw [HQ0.out]
            refine ⟨A, B, pu, qu, pw, qw, ?_⟩
            iterate 4 apply Exists.intro
            refine ⟨rfl, ?_, pA', pB', ⟨_, l1⟩, ⟨_, l2⟩, gT⟩
            rw [← HACT.out]; simp only [Act.put, List.setIfInBounds_toArray, List.set_cons_zero, List.set_cons_succ]; rfl
        · intro K hK
          go_simp
          obtain ⟨Y2, hY2⟩ : ∃ Y : World, Y = Y1.alloc (.cells #[.string ⟨#[]⟩, .string ⟨#[]⟩, .string ⟨#[]⟩, .int .i64 0, .slice none 0 0] 27) := ⟨_, rfl⟩
          have hgx : G Y1 Y2 := by rw [hY2]; exact (G.refl Y1).alloc _
          have pB : Y2.heap[Y1.heap.size]? = some (.cells #[.string ⟨#[]⟩, .string ⟨#[]⟩, .string ⟨#[]⟩, .int .i64 0, .slice none 0 0] 27 (0, 0)) := by rw [hY2]; exact alloc_new _ _
          have geB := gX.size
          rw [← hY2]
          obtain ⟨B, hB⟩ : ∃ b, b = Y1.heap.size := ⟨_, rfl⟩
          rw [← hB] at pB geB ⊢
          have nB1 : ∀ g, (Value.slice pu na qu).ownBlock = some g → g ≠ B := fun g hg => by have := (Lent.lt l1 g hg).2; omega
          replace l1 := Lent.g l1 hgx
          replace gX := gX.trans hgx
          refine hK _ _ (fun _ => gX) ?_
          clear hK K hgx hY2 hB
          simp only [Act.put, List.setIfInBounds_toArray, List.set_cons_zero, List.set_cons_succ]
          refine hl_twoW 3 4 (by kernel_rfl) rfl rfl (by kernel_rfl) (by kernel_rfl) ?_ ?_
          · intro K hK
            go_simp
            refine (HLB.out Y2 gX).mono ?_
            rintro e Y13 ⟨u, rfl, l2, hgx⟩
            obtain ⟨gg, qw, hu, -⟩ := id l2
            rw [← HNB.out] at hu
            obtain ⟨pw, hpw⟩ : ∃ x : Option Addr, x = some ⟨gg, 0, none⟩ := ⟨_, rfl⟩
            rw [← hpw] at hu
            subst hu
            clear hpw
            have nB2 : ∀ g, (Value.slice pw nb qw).ownBlock = some g → g ≠ B := fun g hg => by have := (Lent.lt l2 g hg).1; have := heap_lt pB; omega
            replace l1 := Lent.g l1 hgx
            replace pB := (hgx.block (heap_lt pB)).trans pB
            replace gX := gX.trans hgx
            refine hK _ _ (fun _ => gX) ?_
            clear hK K hgx
            simp only [Act.put, List.setIfInBounds_toArray, List.set_cons_zero, List.set_cons_succ]
            refine hl_stepW 4 (by kernel_rfl) rfl (by kernel_rfl) ?_
            intro K hK
            go_simp
            obtain ⟨Y14, hY14⟩ : ∃ Y : World, Y = Y13.alloc (.cells #[.string ⟨#[]⟩, .string ⟨#[]⟩, .string ⟨#[]⟩, .int .i64 0, .slice none 0 0] 27) := ⟨_, rfl⟩
            have hgx : G Y13 Y14 := by rw [hY14]; exact (G.refl Y13).alloc _
            have pA : Y14.heap[Y13.heap.size]? = some (.cells #[.string ⟨#[]⟩, .string ⟨#[]⟩, .string ⟨#[]⟩, .int .i64 0, .slice none 0 0] 27 (0, 0)) := by rw [hY14]; exact alloc_new _ _
            have geA := gX.size
            rw [← hY14]
            obtain ⟨A, hA⟩ : ∃ b, b = Y13.heap.size := ⟨_, rfl⟩
            rw [← hA] at pA geA ⊢
            have nA1 : ∀ g, (Value.slice pu na qu).ownBlock = some g → g ≠ A := fun g hg => by have := (Lent.lt l1 g hg).2; omega
            have nA2 : ∀ g, (Value.slice pw nb qw).ownBlock = some g → g ≠ A := fun g hg => by have := (Lent.lt l2 g hg).2; omega
            have nAB : A ≠ B := by have := heap_lt pB; omega
            replace l1 := Lent.g l1 hgx
            replace l2 := Lent.g l2 hgx
            replace pB := (hgx.block (heap_lt pB)).trans pB
            replace gX := gX.trans hgx
            refine hK _ _ (fun _ => gX) ?_
            clear hK K hgx hY14 hA
            simp only [Act.put, List.setIfInBounds_toArray, List.set_cons_zero, List.set_cons_succ]
            refine hl_stepW 6 (by kernel_rfl) rfl (by kernel_rfl) ?_
            intro K hK
            have y0 := frz5 pA 0
            have y1 := frz5 pA 1
            have y2 := frz5 pA 2
            have y3 := frz5 pA 3
            have y4 := frz5 pA 4
            obtain ⟨x0, x1, x2, x3, x4⟩ := cells5 pA
            go_simp
            clear y0 y1 y2 y3 y4 x0 x1 x2 x3 x4
            have fS := fr5 (Fr.refl (fun q => q = A) Y14) rfl (.string fa) (.string ta) (.string la) (.int .i64 ma) (.slice pu na qu)
            obtain ⟨gS, pA'⟩ := set5 gX geA pA (.string fa) (.string ta) (.string la) (.int .i64 ma) (.slice pu na qu)
            replace pB := (fS.block _ (heap_lt pB) (fun e => nAB e.symm)).trans pB
            replace l1 := Lent.fr l1 fS nA1
            replace l2 := Lent.fr l2 fS nA2
            generalize hXS : ((((Y14.setCell ⟨A, 0, none⟩ (.string fa)).setCell ⟨A, 1, none⟩ (.string ta)).setCell ⟨A, 2, none⟩ (.string la)).setCell ⟨A, 3, none⟩ (.int .i64 ma)).setCell ⟨A, 4, none⟩ (.slice pu na qu) = XS at *
            refine hK _ _ (fun _ => gS) ?_
            clear hK K fS gX hXS pA
            simp only [Act.put, List.setIfInBounds_toArray, List.set_cons_zero, List.set_cons_succ]
            refine hl_stepW 7 (by kernel_rfl) rfl (by kernel_rfl) ?_
            intro K hK
            have y0 := frz5 pB 0
            have y1 := frz5 pB 1
            have y2 := frz5 pB 2
            have y3 := frz5 pB 3
            have y4 := frz5 pB 4
            obtain ⟨x0, x1, x2, x3, x4⟩ := cells5 pB
            go_simp
            clear y0 y1 y2 y3 y4 x0 x1 x2 x3 x4
            have fS := fr5 (Fr.refl (fun q => q = B) XS) rfl (.string fb) (.string tb) (.string lb) (.int .i64 mb) (.slice pw nb qw)
            obtain ⟨gT, pB'⟩ := set5 gS geB pB (.string fb) (.string tb) (.string lb) (.int .i64 mb) (.slice pw nb qw)
            replace pA' := (fS.block _ (heap_lt pA') nAB).trans pA'
            replace l1 := Lent.fr l1 fS nB1
            replace l2 := Lent.fr l2 fS nB2
            refine hK _ _ (fun e => absurd rfl e) ?_
            clear hK K fS gS pB
            simp only [Act.put, List.setIfInBounds_toArray, List.set_cons_zero, List.set_cons_succ]
            refine hl_done (by kernel_rfl) ?_ _
            refine NoPanic.normal ?_
            rw [HQ0.out]
            refine ⟨A, B, pu, qu, pw, qw, ?_⟩
            iterate 4 apply Exists.intro
            refine ⟨rfl, ?_, pA', pB', ⟨_, l1⟩, ⟨_, l2⟩, gT⟩
            rw [← HACT.out]; simp only [Act.put, List.setIfInBounds_toArray, List.set_cons_zero, List.set_cons_succ]; rfl
          · intro K hK
            go_simp
            obtain ⟨Y13, hY13⟩ : ∃ Y : World, Y = Y2.alloc (.cells #[.string ⟨#[]⟩, .string ⟨#[]⟩, .string ⟨#[]⟩, .int .i64 0, .slice none 0 0] 27) := ⟨_, rfl⟩
            have hgx : G Y2 Y13 := by rw [hY13]; exact (G.refl Y2).alloc _
            have pA : Y13.heap[Y2.heap.size]? = some (.cells #[.string ⟨#[]⟩, .string ⟨#[]⟩, .string ⟨#[]⟩, .int .i64 0, .slice none 0 0] 27 (0, 0)) := by rw [hY13]; exact alloc_new _ _
            have geA := gX.size
            rw [← hY13]
            obtain ⟨A, hA⟩ : ∃ b, b = Y2.heap.size := ⟨_, rfl⟩
            rw [← hA] at pA geA ⊢
            have nA1 : ∀ g, (Value.slice pu na qu).ownBlock = some g → g ≠ A := fun g hg => by have := (Lent.lt l1 g hg).2; omega
            have nAB : A ≠ B := by have := heap_lt pB; omega
            replace l1 := Lent.g l1 hgx
            replace pB := (hgx.block (heap_lt pB)).trans pB
            replace gX := gX.trans hgx
            refine hK _ _ (fun _ => gX) ?_
            clear hK K hgx hY13 hA
            simp only [Act.put, List.setIfInBounds_toArray, List.set_cons_zero, List.set_cons_succ]
            refine hl_stepW 3 (by kernel_rfl) rfl (by kernel_rfl) ?_
            intro K hK
            go_simp
            refine (HLB.out Y13 gX).mono ?_
            rintro e Y16 ⟨u, rfl, l2, hgx⟩
            obtain ⟨gg, qw, hu, -⟩ := id l2
            rw [← HNB.out] at hu
            obtain ⟨pw, hpw⟩ : ∃ x : Option Addr, x = some ⟨gg, 0, none⟩ := ⟨_, rfl⟩
            rw [← hpw] at hu
            subst hu
            clear hpw
            have nA2 : ∀ g, (Value.slice pw nb qw).ownBlock = some g → g ≠ A := fun g hg => by have := (Lent.lt l2 g hg).1; have := heap_lt pA; omega
            have nB2 : ∀ g, (Value.slice pw nb qw).ownBlock = some g → g ≠ B := fun g hg => by have := (Lent.lt l2 g hg).1; have := heap_lt pB; omega
            replace l1 := Lent.g l1 hgx
            replace pA := (hgx.block (heap_lt pA)).trans pA
            replace pB := (hgx.block (heap_lt pB)).trans pB
            replace gX := gX.trans hgx
            refine hK _ _ (fun _ => gX) ?_
            clear hK K hgx
            simp only [Act.put, List.setIfInBounds_toArray, List.set_cons_zero, List.set_cons_succ]
            refine hl_stepW 6 (by kernel_rfl) rfl (by kernel_rfl) ?_
            intro K hK
            have y0 := frz5 pA 0
            have y1 := frz5 pA 1
            have y2 := frz5 pA 2
            have y3 := frz5 pA 3
            have y4 := frz5 pA 4
            obtain ⟨x0, x1, x2, x3, x4⟩ := cells5 pA
            go_simp
            clear y0 y1 y2 y3 y4 x0 x1 x2 x3 x4
            have fS := fr5 (Fr.refl (fun q => q = A) Y16) rfl (.string fa) (.string ta) (.string la) (.int .i64 ma) (.slice pu na qu)
            obtain ⟨gS, pA'⟩ := set5 gX geA pA (.string fa) (.string ta) (.string la) (.int .i64 ma) (.slice pu na qu)
            replace pB := (fS.block _ (heap_lt pB) (fun e => nAB e.symm)).trans pB
            replace l1 := Lent.fr l1 fS nA1
            replace l2 := Lent.fr l2 fS nA2
            generalize hXS : ((((Y16.setCell ⟨A, 0, none⟩ (.string fa)).setCell ⟨A, 1, none⟩ (.string ta)).setCell ⟨A, 2, none⟩ (.string la)).setCell ⟨A, 3, none⟩ (.int .i64 ma)).setCell ⟨A, 4, none⟩ (.slice pu na qu) = XS at *
            refine hK _ _ (fun _ => gS) ?_
            clear hK K fS gX hXS pA
            simp only [Act.put, List.setIfInBounds_toArray, List.set_cons_zero, List.set_cons_succ]
            refine hl_stepW 7 (by kernel_rfl) rfl (by kernel_rfl) ?_
            intro K hK
            have y0 := frz5 pB 0
            have y1 := frz5 pB 1
            have y2 := frz5 pB 2
            have y3 := frz5 pB 3
            have y4 := frz5 pB 4
            obtain ⟨x0, x1, x2, x3, x4⟩ := cells5 pB
            go_simp
            clear y0 y1 y2 y3 y4 x0 x1 x2 x3 x4
            have fS := fr5 (Fr.refl (fun q => q = B) XS) rfl (.string fb) (.string tb) (.string lb) (.int .i64 mb) (.slice pw nb qw)
            obtain ⟨gT, pB'⟩ := set5 gS geB pB (.string fb) (.string tb) (.string lb) (.int .i64 mb) (.slice pw nb qw)
            replace pA' := (fS.block _ (heap_lt pA') nAB).trans pA'
            replace l1 := Lent.fr l1 fS nB1
            replace l2 := Lent.fr l2 fS nB2
            refine hK _ _ (fun e => absurd rfl e) ?_
            clear hK K fS gS pB
            simp only [Act.put, List.setIfInBounds_toArray, List.set_cons_zero, List.set_cons_succ]
            refine hl_done (by kernel_rfl) ?_ _
            refine NoPanic.normal ?_
            rw [HQ0.out]
            refine ⟨A, B, pu, qu, pw, qw, ?_⟩
            iterate 4 apply Exists.intro
            refine ⟨rfl, ?_, pA', pB', ⟨_, l1⟩, ⟨_, l2⟩, gT⟩
            rw [← HACT.out]; simp only [Act.put, List.setIfInBounds_toArray, List.set_cons_zero, List.set_cons_succ]; rfl
      · intro K hK
        go_simp
        obtain ⟨Y1, hY1⟩ : ∃ Y : World, Y = X0.alloc (.cells #[.string ⟨#[]⟩, .string ⟨#[]⟩, .string ⟨#[]⟩, .int .i64 0, .slice none 0 0] 27) := ⟨_, rfl⟩
        have hgx : G X0 Y1 := by rw [hY1]; exact (G.refl X0).alloc _
        have pA : Y1.heap[X0.heap.size]? = some (.cells #[.string ⟨#[]⟩, .string ⟨#[]⟩, .string ⟨#[]⟩, .int .i64 0, .slice none 0 0] 27 (0, 0)) := by rw [hY1]; exact alloc_new _ _
        have geA := gX.size
        rw [← hY1]
        obtain ⟨A, hA⟩ : ∃ b, b = X0.heap.size := ⟨_, rfl⟩
        rw [← hA] at pA geA ⊢
        replace gX := gX.trans hgx
        refine hK _ _ (fun _ => gX) ?_
        clear hK K hgx hY1 hA
        simp only [Act.put, List.setIfInBounds_toArray, List.set_cons_zero, List.set_cons_succ]
        refine hl_twoW 1 5 (by kernel_rfl) rfl rfl (by kernel_rfl) (by kernel_rfl) ?_ ?_
        · intro K hK
          go_simp
          refine (HLA.out Y1 gX).mono ?_
          rintro e Y18 ⟨u, rfl, l1, hgx⟩
          obtain ⟨gg, qu, hu, -⟩ := id l1
          rw [← HNA.out] at hu
          obtain ⟨pu, hpu⟩ : ∃ x : Option Addr, x = some ⟨gg, 0, none⟩ := ⟨_, rfl⟩
          rw [← hpu] at hu
          subst hu
          clear hpu
          have nA1 : ∀ g, (Value.slice pu na qu).ownBlock = some g → g ≠ A := fun g hg => by have := (Lent.lt l1 g hg).1; have := heap_lt pA; omega
          replace pA := (hgx.block (heap_lt pA)).trans pA
          replace gX := gX.trans hgx
          refine hK _ _ (fun _ => gX) ?_
          clear hK K hgx
          simp only [Act.put, List.setIfInBounds_toArray, List.set_cons_zero, List.set_cons_succ]
          refine hl_twoW 3 5 (by kernel_rfl) rfl rfl (by kernel_rfl) (by kernel_rfl) ?_ ?_
          · intro K hK
            go_simp
            refine (HLB.out Y18 gX).mono ?_
            rintro e Y19 ⟨u, rfl, l2, hgx⟩
            obtain ⟨gg, qw, hu, -⟩ := id l2
            rw [← HNB.out] at hu
            obtain ⟨pw, hpw⟩ : ∃ x : Option Addr, x = some ⟨gg, 0, none⟩ := ⟨_, rfl⟩
            rw [← hpw] at hu
            subst hu
            clear hpw
            have nA2 : ∀ g, (Value.slice pw nb qw).ownBlock = some g → g ≠ A := fun g hg => by have := (Lent.lt l2 g hg).1; have := heap_lt pA; omega
            replace l1 := Lent.g l1 hgx
            replace pA := (hgx.block (heap_lt pA)).trans pA
            replace gX := gX.trans hgx
            refine hK _ _ (fun _ => gX) ?_
            clear hK K hgx
            simp only [Act.put, List.setIfInBounds_toArray, List.set_cons_zero, List.set_cons_succ]
            refine hl_stepW 5 (by kernel_rfl) rfl (by kernel_rfl) ?_
            intro K hK
            go_simp
            obtain ⟨Y20, hY20⟩ : ∃ Y : World, Y = Y19.alloc (.cells #[.string ⟨#[]⟩, .string ⟨#[]⟩, .string ⟨#[]⟩, .int .i64 0, .slice none 0 0] 27) := ⟨_, rfl⟩
            have hgx : G Y19 Y20 := by rw [hY20]; exact (G.refl Y19).alloc _
            have pB : Y20.heap[Y19.heap.size]? = some (.cells #[.string ⟨#[]⟩, .string ⟨#[]⟩, .string ⟨#[]⟩, .int .i64 0, .slice none 0 0] 27 (0, 0)) := by rw [hY20]; exact alloc_new _ _
            have geB := gX.size
            rw [← hY20]
            obtain ⟨B, hB⟩ : ∃ b, b = Y19.heap.size := ⟨_, rfl⟩
            rw [← hB] at pB geB ⊢
            have nB1 : ∀ g, (Value.slice pu na qu).ownBlock = some g → g ≠ B := fun g hg => by have := (Lent.lt l1 g hg).2; omega
            have nB2 : ∀ g, (Value.slice pw nb qw).ownBlock = some g → g ≠ B := fun g hg => by have := (Lent.lt l2 g hg).2; omega
            have nAB : A ≠ B := by have := heap_lt pA; omega
            replace l1 := Lent.g l1 hgx
            replace l2 := Lent.g l2 hgx
            replace pA := (hgx.block (heap_lt pA)).trans pA
            replace gX := gX.trans hgx
            refine hK _ _ (fun _ => gX) ?_
            clear hK K hgx hY20 hB
            simp only [Act.put, List.setIfInBounds_toArray, List.set_cons_zero, List.set_cons_succ]
            refine hl_stepW 6 (by kernel_rfl) rfl (by kernel_rfl) ?_
            intro K hK
            have y0 := frz5 pA 0
            have y1 := frz5 pA 1
            have y2 := frz5 pA 2
            have y3 := frz5 pA 3
            have y4 := frz5 pA 4
            obtain ⟨x0, x1, x2, x3, x4⟩ := cells5 pA
            go_simp
            clear y0 y1 y2 y3 y4 x0 x1 x2 x3 x4
            have fS := fr5 (Fr.refl (fun q => q = A) Y20) rfl (.string fa) (.string ta) (.string la) (.int .i64 ma) (.slice pu na qu)
            obtain ⟨gS, pA'⟩ := set5 gX geA pA (.string fa) (.string ta) (.string la) (.int .i64 ma) (.slice pu na qu)
            replace pB := (fS.block _ (heap_lt pB) (fun e => nAB e.symm)).trans pB
            replace l1 := Lent.fr l1 fS nA1
            replace l2 := Lent.fr l2 fS nA2
            generalize hXS : ((((Y20.setCell ⟨A, 0, none⟩ (.string fa)).setCell ⟨A, 1, none⟩ (.string ta)).setCell ⟨A, 2, none⟩ (.string la)).setCell ⟨A, 3, none⟩ (.int .i64 ma)).setCell ⟨A, 4, none⟩ (.slice pu na qu) = XS at *
            refine hK _ _ (fun _ => gS) ?_
            clear hK K fS gX hXS pA
            simp only [Act.put, List.setIfInBounds_toArray, List.set_cons_zero, List.set_cons_succ]
            refine hl_stepW 7 (by kernel_rfl) rfl (by kernel_rfl) ?_
            intro K hK
            have y0 := frz5 pB 0
            have y1 := frz5 pB 1
            have y2 := frz5 pB 2
            have y3 := frz5 pB 3
            have y4 := frz5 pB 4
            obtain ⟨x0, x1, x2, x3, x4⟩ := cells5 pB
            go_simp
            clear y0 y1 y2 y3 y4 x0 x1 x2 x3 x4
            have fS := fr5 (Fr.refl (fun q => q = B) XS) rfl (.string fb) (.string tb) (.string lb) (.int .i64 mb) (.slice pw nb qw)
            obtain ⟨gT, pB'⟩ := set5 gS geB pB (.string fb) (.string tb) (.string lb) (.int .i64 mb) (.slice pw nb qw)
            replace pA' := (fS.block _ (heap_lt pA') nAB).trans pA'
            replace l1 := Lent.fr l1 fS nB1
            replace l2 := Lent.fr l2 fS nB2
            refine hK _ _ (fun e => absurd rfl e) ?_
            clear hK K fS gS pB
            simp only [Act.put, List.setIfInBounds_toArray, List.set_cons_zero, List.set_cons_succ]
            refine hl_done (by kernel_rfl) ?_ _
            refine NoPanic.normal ?_
            rw [HQ0.out]
            refine ⟨A, B, pu, qu, pw, qw, ?_⟩
            iterate 4 apply Exists.intro
            refine ⟨rfl, ?_, pA', pB', ⟨_, l1⟩, ⟨_, l2⟩, gT⟩
            rw [← HACT.out]; simp only [Act.put, List.setIfInBounds_toArray, List.set_cons_zero, List.set_cons_succ]; rfl
          · intro K hK
            go_simp
            obtain ⟨Y19, hY19⟩ : ∃ Y : World, Y = Y18.alloc (.cells #[.string ⟨#[]⟩, .string ⟨#[]⟩, .string ⟨#[]⟩, .int .i64 0, .slice none 0 0] 27) := ⟨_, rfl⟩
            have hgx : G Y18 Y19 := by rw [hY19]; exact (G.refl Y18).alloc _
            have pB : Y19.heap[Y18.heap.size]? = some (.cells #[.string ⟨#[]⟩, .string ⟨#[]⟩, .string ⟨#[]⟩, .int .i64 0, .slice none 0 0] 27 (0, 0)) := by rw [hY19]; exact alloc_new _ _
            have geB := gX.size
            rw [← hY19]
            obtain ⟨B, hB⟩ : ∃ b, b = Y18.heap.size := ⟨_, rfl⟩
            rw [← hB] at pB geB ⊢
            have nB1 : ∀ g, (Value.slice pu na qu).ownBlock = some g → g ≠ B := fun g hg => by have := (Lent.lt l1 g hg).2; omega
            have nAB : A ≠ B := by have := heap_lt pA; omega
            replace l1 := Lent.g l1 hgx
            replace pA := (hgx.block (heap_lt pA)).trans pA
            replace gX := gX.trans hgx
            refine hK _ _ (fun _ => gX) ?_
            clear hK K hgx hY19 hB
            simp only [Act.put, List.setIfInBounds_toArray, List.set_cons_zero, List.set_cons_succ]
            refine hl_stepW 3 (by kernel_rfl) rfl (by kernel_rfl) ?_
            intro K hK
            go_simp
            refine (HLB.out Y19 gX).mono ?_
            rintro e Y22 ⟨u, rfl, l2, hgx⟩
            obtain ⟨gg, qw, hu, -⟩ := id l2
            rw [← HNB.out] at hu
            obtain ⟨pw, hpw⟩ : ∃ x : Option Addr, x = some ⟨gg, 0, none⟩ := ⟨_, rfl⟩
            rw [← hpw] at hu
            subst hu
            clear hpw
            have nA2 : ∀ g, (Value.slice pw nb qw).ownBlock = some g → g ≠ A := fun g hg => by have := (Lent.lt l2 g hg).1; have := heap_lt pA; omega
            have nB2 : ∀ g, (Value.slice pw nb qw).ownBlock = some g → g ≠ B := fun g hg => by have := (Lent.lt l2 g hg).1; have := heap_lt pB; omega
            replace l1 := Lent.g l1 hgx
            replace pA := (hgx.block (heap_lt pA)).trans pA
            replace pB := (hgx.block (heap_lt pB)).trans pB
            replace gX := gX.trans hgx
            refine hK _ _ (fun _ => gX) ?_
            clear hK K hgx
            simp only [Act.put, List.setIfInBounds_toArray, List.set_cons_zero, List.set_cons_succ]
            refine hl_stepW 6 (by kernel_rfl) rfl (by kernel_rfl) ?_
            intro K hK
            have y0 := frz5 pA 0
            have y1 := frz5 pA 1
            have y2 := frz5 pA 2
            have y3 := frz5 pA 3
            have y4 := frz5 pA 4
            obtain ⟨x0, x1, x2, x3, x4⟩ := cells5 pA
            go_simp
            clear y0 y1 y2 y3 y4 x0 x1 x2 x3 x4
            have fS := fr5 (Fr.refl (fun q => q = A) Y22) rfl (.string fa) (.string ta) (.string la) (.int .i64 ma) (.slice pu na qu)
            obtain ⟨gS, pA'⟩ := set5 gX geA pA (.string fa) (.string ta) (.string la) (.int .i64 ma) (.slice pu na qu)
            replace pB := (fS.block _ (heap_lt pB) (fun e => nAB e.symm)).trans pB
            replace l1 := Lent.fr l1 fS nA1
            replace l2 := Lent.fr l2 fS nA2
            generalize hXS : ((((Y22.setCell ⟨A, 0, none⟩ (.string fa)).setCell ⟨A, 1, none⟩ (.string ta)).setCell ⟨A, 2, none⟩ (.string la)).setCell ⟨A, 3, none⟩ (.int .i64 ma)).setCell ⟨A, 4, none⟩ (.slice pu na qu) = XS at *
            refine hK _ _ (fun _ => gS) ?_
            clear hK K fS gX hXS pA
            simp only [Act.put, List.setIfInBounds_toArray, List.set_cons_zero, List.set_cons_succ]
            refine hl_stepW 7 (by kernel_rfl) rfl (by kernel_rfl) ?_
            intro K hK
            have y0 := frz5 pB 0
            have y1 := frz5 pB 1
            have y2 := frz5 pB 2
            have y3 := frz5 pB 3
            have y4 := frz5 pB 4
            obtain ⟨x0, x1, x2, x3, x4⟩ := cells5 pB
            go_simp
            clear y0 y1 y2 y3 y4 x0 x1 x2 x3 x4
            have fS := fr5 (Fr.refl (fun q => q = B) XS) rfl (.string fb) (.string tb) (.string lb) (.int .i64 mb) (.slice pw nb qw)
            obtain ⟨gT, pB'⟩ := set5 gS geB pB (.string fb) (.string tb) (.string lb) (.int .i64 mb) (.slice pw nb qw)
            replace pA' := (fS.block _ (heap_lt pA') nAB).trans pA'
            replace l1 := Lent.fr l1 fS nB1
            replace l2 := Lent.fr l2 fS nB2
            refine hK _ _ (fun e => absurd rfl e) ?_
            clear hK K fS gS pB
            simp only [Act.put, List.setIfInBounds_toArray, List.set_cons_zero, List.set_cons_succ]
            refine hl_done (by kernel_rfl) ?_ _
            refine NoPanic.normal ?_
            rw [HQ0.out]
            refine ⟨A, B, pu, qu, pw, qw, ?_⟩
            iterate 4 apply Exists.intro
            refine ⟨rfl, ?_, pA', pB', ⟨_, l1⟩, ⟨_, l2⟩, gT⟩
            rw [← HACT.out]; simp only [Act.put, List.setIfInBounds_toArray, List.set_cons_zero, List.set_cons_succ]; rfl
        · intro K hK
          go_simp
          obtain ⟨Y18, hY18⟩ : ∃ Y : World, Y = Y1.alloc (.cells #[.string ⟨#[]⟩, .string ⟨#[]⟩, .string ⟨#[]⟩, .int .i64 0, .slice none 0 0] 27) := ⟨_, rfl⟩
          have hgx : G Y1 Y18 := by rw [hY18]; exact (G.refl Y1).alloc _
          have pB : Y18.heap[Y1.heap.size]? = some (.cells #[.string ⟨#[]⟩, .string ⟨#[]⟩, .string ⟨#[]⟩, .int .i64 0, .slice none 0 0] 27 (0, 0)) := by rw [hY18]; exact alloc_new _ _
          have geB := gX.size
          rw [← hY18]
          obtain ⟨B, hB⟩ : ∃ b, b = Y1.heap.size := ⟨_, rfl⟩
          rw [← hB] at pB geB ⊢
          have nAB : A ≠ B := by have := heap_lt pA; omega
          replace pA := (hgx.block (heap_lt pA)).trans pA
          replace gX := gX.trans hgx
          refine hK _ _ (fun _ => gX) ?_
          clear hK K hgx hY18 hB
          simp only [Act.put, List.setIfInBounds_toArray, List.set_cons_zero, List.set_cons_succ]
          refine hl_stepW 1 (by kernel_rfl) rfl (by kernel_rfl) ?_
          intro K hK
          go_simp
          refine (HLA.out Y18 gX).mono ?_
          rintro e Y24 ⟨u, rfl, l1, hgx⟩
          obtain ⟨gg, qu, hu, -⟩ := id l1
          rw [← HNA.out] at hu
          obtain ⟨pu, hpu⟩ : ∃ x : Option Addr, x = some ⟨gg, 0, none⟩ := ⟨_, rfl⟩
          rw [← hpu] at hu
          subst hu
          clear hpu
          have nA1 : ∀ g, (Value.slice pu na qu).ownBlock = some g → g ≠ A := fun g hg => by have := (Lent.lt l1 g hg).1; have := heap_lt pA; omega
          have nB1 : ∀ g, (Value.slice pu na qu).ownBlock = some g → g ≠ B := fun g hg => by have := (Lent.lt l1 g hg).1; have := heap_lt pB; omega
          replace pA := (hgx.block (heap_lt pA)).trans pA
          replace pB := (hgx.block (heap_lt pB)).trans pB
          replace gX := gX.trans hgx
          refine hK _ _ (fun _ => gX) ?_
          clear hK K hgx
          simp only [Act.put, List.setIfInBounds_toArray, List.set_cons_zero, List.set_cons_succ]
          refine hl_stepW 3 (by kernel_rfl) rfl (by kernel_rfl) ?_
          intro K hK
          go_simp
          refine (HLB.out Y24 gX).mono ?_
          rintro e Y25 ⟨u, rfl, l2, hgx⟩
          obtain ⟨gg, qw, hu, -⟩ := id l2
          rw [← HNB.out] at hu
          obtain ⟨pw, hpw⟩ : ∃ x : Option Addr, x = some ⟨gg, 0, none⟩ := ⟨_, rfl⟩
          rw [← hpw] at hu
          subst hu
          clear hpw
          have nA2 : ∀ g, (Value.slice pw nb qw).ownBlock = some g → g ≠ A := fun g hg => by have := (Lent.lt l2 g hg).1; have := heap_lt pA; omega
          have nB2 : ∀ g, (Value.slice pw nb qw).ownBlock = some g → g ≠ B := fun g hg => by have := (Lent.lt l2 g hg).1; have := heap_lt pB; omega
          replace l1 := Lent.g l1 hgx
          replace pA := (hgx.block (heap_lt pA)).trans pA
          replace pB := (hgx.block (heap_lt pB)).trans pB
          replace gX := gX.trans hgx
          refine hK _ _ (fun _ => gX) ?_
          clear hK K hgx
          simp only [Act.put, List.setIfInBounds_toArray, List.set_cons_zero, List.set_cons_succ]
          refine hl_stepW 6 (by kernel_rfl) rfl (by kernel_rfl) ?_
          intro K hK
          have y0 := frz5 pA 0
          have y1 := frz5 pA 1
          have y2 := frz5 pA 2
          have y3 := frz5 pA 3
          have y4 := frz5 pA 4
          obtain ⟨x0, x1, x2, x3, x4⟩ := cells5 pA
          go_simp
          clear y0 y1 y2 y3 y4 x0 x1 x2 x3 x4
          have fS := fr5 (Fr.refl (fun q => q = A) Y25) rfl (.string fa) (.string ta) (.string la) (.int .i64 ma) (.slice pu na qu)
          obtain ⟨gS, pA'⟩ := set5 gX geA pA (.string fa) (.string ta) (.string la) (.int .i64 ma) (.slice pu na qu)
          replace pB := (fS.block _ (heap_lt pB) (fun e => nAB e.symm)).trans pB
          replace l1 := Lent.fr l1 fS nA1
          replace l2 := Lent.fr l2 fS nA2
          generalize hXS : ((((Y25.setCell ⟨A, 0, none⟩ (.string fa)).setCell ⟨A, 1, none⟩ (.string ta)).setCell ⟨A, 2, none⟩ (.string la)).setCell ⟨A, 3, none⟩ (.int .i64 ma)).setCell ⟨A, 4, none⟩ (.slice pu na qu) = XS at *
          refine hK _ _ (fun _ => gS) ?_
          clear hK K fS gX hXS pA
          simp only [Act.put, List.setIfInBounds_toArray, List.set_cons_zero, List.set_cons_succ]
          refine hl_stepW 7 (by kernel_rfl) rfl (by kernel_rfl) ?_
          intro K hK
          have y0 := frz5 pB 0
          have y1 := frz5 pB 1
          have y2 := frz5 pB 2
          have y3 := frz5 pB 3
          have y4 := frz5 pB 4
          obtain ⟨x0, x1, x2, x3, x4⟩ := cells5 pB
          go_simp
          clear y0 y1 y2 y3 y4 x0 x1 x2 x3 x4
          have fS := fr5 (Fr.refl (fun q => q = B) XS) rfl (.string fb) (.string tb) (.string lb) (.int .i64 mb) (.slice pw nb qw)
          obtain ⟨gT, pB'⟩ := set5 gS geB pB (.string fb) (.string tb) (.string lb) (.int .i64 mb) (.slice pw nb qw)
          replace pA' := (fS.block _ (heap_lt pA') nAB).trans pA'
          replace l1 := Lent.fr l1 fS nB1
          replace l2 := Lent.fr l2 fS nB2
          refine hK _ _ (fun e => absurd rfl e) ?_
          clear hK K fS gS pB
          simp only [Act.put, List.setIfInBounds_toArray, List.set_cons_zero, List.set_cons_succ]
          refine hl_done (by kernel_rfl) ?_ _
          refine NoPanic.normal ?_
          rw [HQ0.out]
          refine ⟨A, B, pu, qu, pw, qw, ?_⟩
          iterate 4 apply Exists.intro
          refine ⟨rfl, ?_, pA', pB', ⟨_, l1⟩, ⟨_, l2⟩, gT⟩
          rw [← HACT.out]; simp only [Act.put, List.setIfInBounds_toArray, List.set_cons_zero, List.set_cons_succ]; rfl
      · intro K hK
        go_simp
        obtain ⟨Y1, hY1⟩ : ∃ Y : World, Y = X0.alloc (.cells #[.string ⟨#[]⟩, .string ⟨#[]⟩, .string ⟨#[]⟩, .int .i64 0, .slice none 0 0] 27) := ⟨_, rfl⟩
        have hgx : G X0 Y1 := by rw [hY1]; exact (G.refl X0).alloc _
        have pB : Y1.heap[X0.heap.size]? = some (.cells #[.string ⟨#[]⟩, .string ⟨#[]⟩, .string ⟨#[]⟩, .int .i64 0, .slice none 0 0] 27 (0, 0)) := by rw [hY1]; exact alloc_new _ _
        have geB := gX.size
        rw [← hY1]
        obtain ⟨B, hB⟩ : ∃ b, b = X0.heap.size := ⟨_, rfl⟩
        rw [← hB] at pB geB ⊢
        replace gX := gX.trans hgx
        refine hK _ _ (fun _ => gX) ?_
        clear hK K hgx hY1 hB
        simp only [Act.put, List.setIfInBounds_toArray, List.set_cons_zero, List.set_cons_succ]
        refine hl_twoW 1 4 (by kernel_rfl) rfl rfl (by kernel_rfl) (by kernel_rfl) ?_ ?_
        · intro K hK
          go_simp
          refine (HLA.out Y1 gX).mono ?_
          rintro e Y27 ⟨u, rfl, l1, hgx⟩
          obtain ⟨gg, qu, hu, -⟩ := id l1
          rw [← HNA.out] at hu
          obtain ⟨pu, hpu⟩ : ∃ x : Option Addr, x = some ⟨gg, 0, none⟩ := ⟨_, rfl⟩
          rw [← hpu] at hu
          subst hu
          clear hpu
          have nB1 : ∀ g, (Value.slice pu na qu).ownBlock = some g → g ≠ B := fun g hg => by have := (Lent.lt l1 g hg).1; have := heap_lt pB; omega
          replace pB := (hgx.block (heap_lt pB)).trans pB
          replace gX := gX.trans hgx
          refine hK _ _ (fun _ => gX) ?_
          clear hK K hgx
          simp only [Act.put, List.setIfInBounds_toArray, List.set_cons_zero, List.set_cons_succ]
          refine hl_twoW 3 4 (by kernel_rfl) rfl rfl (by kernel_rfl) (by kernel_rfl) ?_ ?_
          · intro K hK
            go_simp
            refine (HLB.out Y27 gX).mono ?_
            rintro e Y28 ⟨u, rfl, l2, hgx⟩
            obtain ⟨gg, qw, hu, -⟩ := id l2
            rw [← HNB.out] at hu
            obtain ⟨pw, hpw⟩ : ∃ x : Option Addr, x = some ⟨gg, 0, none⟩ := ⟨_, rfl⟩
            rw [← hpw] at hu
            subst hu
            clear hpw
            have nB2 : ∀ g, (Value.slice pw nb qw).ownBlock = some g → g ≠ B := fun g hg => by have := (Lent.lt l2 g hg).1; have := heap_lt pB; omega
            replace l1 := Lent.g l1 hgx
            replace pB := (hgx.block (heap_lt pB)).trans pB
            replace gX := gX.trans hgx
            refine hK _ _ (fun _ => gX) ?_
            clear hK K hgx
            simp only [Act.put, List.setIfInBounds_toArray, List.set_cons_zero, List.set_cons_succ]
            refine hl_stepW 4 (by kernel_rfl) rfl (by kernel_rfl) ?_
            intro K hK
            go_simp
            obtain ⟨Y29, hY29⟩ : ∃ Y : World, Y = Y28.alloc (.cells #[.string ⟨#[]⟩, .string ⟨#[]⟩, .string ⟨#[]⟩, .int .i64 0, .slice none 0 0] 27) := ⟨_, rfl⟩
            have hgx : G Y28 Y29 := by rw [hY29]; exact (G.refl Y28).alloc _
            have pA : Y29.heap[Y28.heap.size]? = some (.cells #[.string ⟨#[]⟩, .string ⟨#[]⟩, .string ⟨#[]⟩, .int .i64 0, .slice none 0 0] 27 (0, 0)) := by rw [hY29]; exact alloc_new _ _
            have geA := gX.size
            rw [← hY29]
            obtain ⟨A, hA⟩ : ∃ b, b = Y28.heap.size := ⟨_, rfl⟩
            rw [← hA] at pA geA ⊢
            have nA1 : ∀ g, (Value.slice pu na qu).ownBlock = some g → g ≠ A := fun g hg => by have := (Lent.lt l1 g hg).2; omega
            have nA2 : ∀ g, (Value.slice pw nb qw).ownBlock = some g → g ≠ A := fun g hg => by have := (Lent.lt l2 g hg).2; omega
            have nAB : A ≠ B := by have := heap_lt pB; omega
            replace l1 := Lent.g l1 hgx
            replace l2 := Lent.g l2 hgx
            replace pB := (hgx.block (heap_lt pB)).trans pB
            replace gX := gX.trans hgx
            refine hK _ _ (fun _ => gX) ?_
            clear hK K hgx hY29 hA
            simp only [Act.put, List.setIfInBounds_toArray, List.set_cons_zero, List.set_cons_succ]
            refine hl_stepW 6 (by kernel_rfl) rfl (by kernel_rfl) ?_
            intro K hK
            have y0 := frz5 pA 0
            have y1 := frz5 pA 1
            have y2 := frz5 pA 2
            have y3 := frz5 pA 3
            have y4 := frz5 pA 4
            obtain ⟨x0, x1, x2, x3, x4⟩ := cells5 pA
            go_simp
            clear y0 y1 y2 y3 y4 x0 x1 x2 x3 x4
            have fS := fr5 (Fr.refl (fun q => q = A) Y29) rfl (.string fa) (.string ta) (.string la) (.int .i64 ma) (.slice pu na qu)
            obtain ⟨gS, pA'⟩ := set5 gX geA pA (.string fa) (.string ta) (.string la) (.int .i64 ma) (.slice pu na qu)
            replace pB := (fS.block _ (heap_lt pB) (fun e => nAB e.symm)).trans pB
            replace l1 := Lent.fr l1 fS nA1
            replace l2 := Lent.fr l2 fS nA2
            generalize hXS : ((((Y29.setCell ⟨A, 0, none⟩ (.string fa)).setCell ⟨A, 1, none⟩ (.string ta)).setCell ⟨A, 2, none⟩ (.string la)).setCell ⟨A, 3, none⟩ (.int .i64 ma)).setCell ⟨A, 4, none⟩ (.slice pu na qu) = XS at *
            refine hK _ _ (fun _ => gS) ?_
            clear hK K fS gX hXS pA
            simp only [Act.put, List.setIfInBounds_toArray, List.set_cons_zero, List.set_cons_succ]
            refine hl_stepW 7 (by kernel_rfl) rfl (by kernel_rfl) ?_
            intro K hK
            have y0 := frz5 pB 0
            have y1 := frz5 pB 1
            have y2 := frz5 pB 2
            have y3 := frz5 pB 3
            have y4 := frz5 pB 4
            obtain ⟨x0, x1, x2, x3, x4⟩ := cells5 pB
            go_simp
            clear y0 y1 y2 y3 y4 x0 x1 x2 x3 x4
            have fS := fr5 (Fr.refl (fun q => q = B) XS) rfl (.string fb) (.string tb) (.string lb) (.int .i64 mb) (.slice pw nb qw)
            obtain ⟨gT, pB'⟩ := set5 gS geB pB (.string fb) (.string tb) (.string lb) (.int .i64 mb) (.slice pw nb qw)
            replace pA' := (fS.block _ (heap_lt pA') nAB).trans pA'
            replace l1 := Lent.fr l1 fS nB1
            replace l2 := Lent.fr l2 fS nB2
            refine hK _ _ (fun e => absurd rfl e) ?_
            clear hK K fS gS pB
            simp only [Act.put, List.setIfInBounds_toArray, List.set_cons_zero, List.set_cons_succ]
            refine hl_done (by kernel_rfl) ?_ _
            refine NoPanic.normal ?_
            rw [HQ0.out]
            refine ⟨A, B, pu, qu, pw, qw, ?_⟩
            iterate 4 apply Exists.intro
            refine ⟨rfl, ?_, pA', pB', ⟨_, l1⟩, ⟨_, l2⟩, gT⟩
            rw [← HACT.out]; simp only [Act.put, List.setIfInBounds_toArray, List.set_cons_zero, List.set_cons_succ]; rfl
          · intro K hK
            go_simp
            obtain ⟨Y28, hY28⟩ : ∃ Y : World, Y = Y27.alloc (.cells #[.string ⟨#[]⟩, .string ⟨#[]⟩, .string ⟨#[]⟩, .int .i64 0, .slice none 0 0] 27) := ⟨_, rfl⟩
            have hgx : G Y27 Y28 := by rw [hY28]; exact (G.refl Y27).alloc _
            have pA : Y28.heap[Y27.heap.size]? = some (.cells #[.string ⟨#[]⟩, .string ⟨#[]⟩, .string ⟨#[]⟩, .int .i64 0, .slice none 0 0] 27 (0, 0)) := by rw [hY28]; exact alloc_new _ _
            have geA := gX.size
            rw [← hY28]
            obtain ⟨A, hA⟩ : ∃ b, b = Y27.heap.size := ⟨_, rfl⟩
            rw [← hA] at pA geA ⊢
            have nA1 : ∀ g, (Value.slice pu na qu).ownBlock = some g → g ≠ A := fun g hg => by have := (Lent.lt l1 g hg).2; omega
            have nAB : A ≠ B := by have := heap_lt pB; omega
            replace l1 := Lent.g l1 hgx
            replace pB := (hgx.block (heap_lt pB)).trans pB
            replace gX := gX.trans hgx
            refine hK _ _ (fun _ => gX) ?_
            clear hK K hgx hY28 hA
            simp only [Act.put, List.setIfInBounds_toArray, List.set_cons_zero, List.set_cons_succ]
            refine hl_stepW 3 (by kernel_rfl) rfl (by kernel_rfl) ?_
            intro K hK
            go_simp
            refine (HLB.out Y28 gX).mono ?_
            rintro e Y31 ⟨u, rfl, l2, hgx⟩
            obtain ⟨gg, qw, hu, -⟩ := id l2
            rw [← HNB.out] at hu
            obtain ⟨pw, hpw⟩ : ∃ x : Option Addr, x = some ⟨gg, 0, none⟩ := ⟨_, rfl⟩
            rw [← hpw] at hu
            subst hu
            clear hpw
            have nA2 : ∀ g, (Value.slice pw nb qw).ownBlock = some g → g ≠ A := fun g hg => by have := (Lent.lt l2 g hg).1; have := heap_lt pA; omega
            have nB2 : ∀ g, (Value.slice pw nb qw).ownBlock = some g → g ≠ B := fun g hg => by have := (Lent.lt l2 g hg).1; have := heap_lt pB; omega
            replace l1 := Lent.g l1 hgx
            replace pA := (hgx.block (heap_lt pA)).trans pA
            replace pB := (hgx.block (heap_lt pB)).trans pB
            replace gX := gX.trans hgx
            refine hK _ _ (fun _ => gX) ?_
            clear hK K hgx
            simp only [Act.put, List.setIfInBounds_toArray, List.set_cons_zero, List.set_cons_succ]
            refine hl_stepW 6 (by kernel_rfl) rfl (by kernel_rfl) ?_
            intro K hK
            have y0 := frz5 pA 0
            have y1 := frz5 pA 1
            have y2 := frz5 pA 2
            have y3 := frz5 pA 3
            have y4 := frz5 pA 4
            obtain ⟨x0, x1, x2, x3, x4⟩ := cells5 pA
            go_simp
            clear y0 y1 y2 y3 y4 x0 x1 x2 x3 x4
            have fS := fr5 (Fr.refl (fun q => q = A) Y31) rfl (.string fa) (.string ta) (.string la) (.int .i64 ma) (.slice pu na qu)
            obtain ⟨gS, pA'⟩ := set5 gX geA pA (.string fa) (.string ta) (.string la) (.int .i64 ma) (.slice pu na qu)
            replace pB := (fS.block _ (heap_lt pB) (fun e => nAB e.symm)).trans pB
            replace l1 := Lent.fr l1 fS nA1
            replace l2 := Lent.fr l2 fS nA2
            generalize hXS : ((((Y31.setCell ⟨A, 0, none⟩ (.string fa)).setCell ⟨A, 1, none⟩ (.string ta)).setCell ⟨A, 2, none⟩ (.string la)).setCell ⟨A, 3, none⟩ (.int .i64 ma)).setCell ⟨A, 4, none⟩ (.slice pu na qu) = XS at *
            refine hK _ _ (fun _ => gS) ?_
            clear hK K fS gX hXS pA
            simp only [Act.put, List.setIfInBounds_toArray, List.set_cons_zero, List.set_cons_succ]
            refine hl_stepW 7 (by kernel_rfl) rfl (by kernel_rfl) ?_
            intro K hK
            have y0 := frz5 pB 0
            have y1 := frz5 pB 1
            have y2 := frz5 pB 2
            have y3 := frz5 pB 3
            have y4 := frz5 pB 4
            obtain ⟨x0, x1, x2, x3, x4⟩ := cells5 pB
            go_simp
            clear y0 y1 y2 y3 y4 x0 x1 x2 x3 x4
            have fS := fr5 (Fr.refl (fun q => q = B) XS) rfl (.string fb) (.string tb) (.string lb) (.int .i64 mb) (.slice pw nb qw)
            obtain ⟨gT, pB'⟩ := set5 gS geB pB (.string fb) (.string tb) (.string lb) (.int .i64 mb) (.slice pw nb qw)
            replace pA' := (fS.block _ (heap_lt pA') nAB).trans pA'
            replace l1 := Lent.fr l1 fS nB1
            replace l2 := Lent.fr l2 fS nB2
            refine hK _ _ (fun e => absurd rfl e) ?_
            clear hK K fS gS pB
            simp only [Act.put, List.setIfInBounds_toArray, List.set_cons_zero, List.set_cons_succ]
            refine hl_done (by kernel_rfl) ?_ _
            refine NoPanic.normal ?_
            rw [HQ0.out]
            refine ⟨A, B, pu, qu, pw, qw, ?_⟩
            iterate 4 apply Exists.intro
            refine ⟨rfl, ?_, pA', pB', ⟨_, l1⟩, ⟨_, l2⟩, gT⟩
            rw [← HACT.out]; simp only [Act.put, List.setIfInBounds_toArray, List.set_cons_zero, List.set_cons_succ]; rfl
        · intro K hK
          go_simp
          obtain ⟨Y27, hY27⟩ : ∃ Y : World, Y = Y1.alloc (.cells #[.string ⟨#[]⟩, .string ⟨#[]⟩, .string ⟨#[]⟩, .int .i64 0, .slice none 0 0] 27) := ⟨_, rfl⟩
          have hgx : G Y1 Y27 := by rw [hY27]; exact (G.refl Y1).alloc _
          have pA : Y27.heap[Y1.heap.size]? = some (.cells #[.string ⟨#[]⟩, .string ⟨#[]⟩, .string ⟨#[]⟩, .int .i64 0, .slice none 0 0] 27 (0, 0)) := by rw [hY27]; exact alloc_new _ _
          have geA := gX.size
          rw [← hY27]
          obtain ⟨A, hA⟩ : ∃ b, b = Y1.heap.size := ⟨_, rfl⟩
          rw [← hA] at pA geA ⊢
          have nAB : A ≠ B := by have := heap_lt pB; omega
          replace pB := (hgx.block (heap_lt pB)).trans pB
          replace gX := gX.trans hgx
          refine hK _ _ (fun _ => gX) ?_
          clear hK K hgx hY27 hA
          simp only [Act.put, List.setIfInBounds_toArray, List.set_cons_zero, List.set_cons_succ]
          refine hl_stepW 1 (by kernel_rfl) rfl (by kernel_rfl) ?_
          intro K hK
          go_simp
          refine (HLA.out Y27 gX).mono ?_
          rintro e Y33 ⟨u, rfl, l1, hgx⟩
          obtain ⟨gg, qu, hu, -⟩ := id l1
          rw [← HNA.out] at hu
          obtain ⟨pu, hpu⟩ : ∃ x : Option Addr, x = some ⟨gg, 0, none⟩ := ⟨_, rfl⟩
          rw [← hpu] at hu
          subst hu
          clear hpu
          have nA1 : ∀ g, (Value.slice pu na qu).ownBlock = some g → g ≠ A := fun g hg => by have := (Lent.lt l1 g hg).1; have := heap_lt pA; omega
          have nB1 : ∀ g, (Value.slice pu na qu).ownBlock = some g → g ≠ B := fun g hg => by have := (Lent.lt l1 g hg).1; have := heap_lt pB; omega
          replace pA := (hgx.block (heap_lt pA)).trans pA
          replace pB := (hgx.block (heap_lt pB)).trans pB
          replace gX := gX.trans hgx
          refine hK _ _ (fun _ => gX) ?_
          clear hK K hgx
          simp only [Act.put, List.setIfInBounds_toArray, List.set_cons_zero, List.set_cons_succ]
          refine hl_stepW 3 (by kernel_rfl) rfl (by kernel_rfl) ?_
          intro K hK
          go_simp
          refine (HLB.out Y33 gX).mono ?_
          rintro e Y34 ⟨u, rfl, l2, hgx⟩
          obtain ⟨gg, qw, hu, -⟩ := id l2
          rw [← HNB.out] at hu
          obtain ⟨pw, hpw⟩ : ∃ x : Option Addr, x = some ⟨gg, 0, none⟩ := ⟨_, rfl⟩
          rw [← hpw] at hu
          subst hu
          clear hpw
          have nA2 : ∀ g, (Value.slice pw nb qw).ownBlock = some g → g ≠ A := fun g hg => by have := (Lent.lt l2 g hg).1; have := heap_lt pA; omega
          have nB2 : ∀ g, (Value.slice pw nb qw).ownBlock = some g → g ≠ B := fun g hg => by have := (Lent.lt l2 g hg).1; have := heap_lt pB; omega
          replace l1 := Lent.g l1 hgx
          replace pA := (hgx.block (heap_lt pA)).trans pA
          replace pB := (hgx.block (heap_lt pB)).trans pB
          replace gX := gX.trans hgx
          refine hK _ _ (fun _ => gX) ?_
          clear hK K hgx
          simp only [Act.put, List.setIfInBounds_toArray, List.set_cons_zero, List.set_cons_succ]
          refine hl_stepW 6 (by kernel_rfl) rfl (by kernel_rfl) ?_
          intro K hK
          have y0 := frz5 pA 0
          have y1 := frz5 pA 1
          have y2 := frz5 pA 2
          have y3 := frz5 pA 3
          have y4 := frz5 pA 4
          obtain ⟨x0, x1, x2, x3, x4⟩ := cells5 pA
          go_simp
          clear y0 y1 y2 y3 y4 x0 x1 x2 x3 x4
          have fS := fr5 (Fr.refl (fun q => q = A) Y34) rfl (.string fa) (.string ta) (.string la) (.int .i64 ma) (.slice pu na qu)
          obtain ⟨gS, pA'⟩ := set5 gX geA pA (.string fa) (.string ta) (.string la) (.int .i64 ma) (.slice pu na qu)
          replace pB := (fS.block _ (heap_lt pB) (fun e => nAB e.symm)).trans pB
          replace l1 := Lent.fr l1 fS nA1
          replace l2 := Lent.fr l2 fS nA2
          generalize hXS : ((((Y34.setCell ⟨A, 0, none⟩ (.string fa)).setCell ⟨A, 1, none⟩ (.string ta)).setCell ⟨A, 2, none⟩ (.string la)).setCell ⟨A, 3, none⟩ (.int .i64 ma)).setCell ⟨A, 4, none⟩ (.slice pu na qu) = XS at *
          refine hK _ _ (fun _ => gS) ?_
          clear hK K fS gX hXS pA
          simp only [Act.put, List.setIfInBounds_toArray, List.set_cons_zero, List.set_cons_succ]
          refine hl_stepW 7 (by kernel_rfl) rfl (by kernel_rfl) ?_
          intro K hK
          have y0 := frz5 pB 0
          have y1 := frz5 pB 1
          have y2 := frz5 pB 2
          have y3 := frz5 pB 3
          have y4 := frz5 pB 4
          obtain ⟨x0, x1, x2, x3, x4⟩ := cells5 pB
          go_simp
          clear y0 y1 y2 y3 y4 x0 x1 x2 x3 x4
          have fS := fr5 (Fr.refl (fun q => q = B) XS) rfl (.string fb) (.string tb) (.string lb) (.int .i64 mb) (.slice pw nb qw)
          obtain ⟨gT, pB'⟩ := set5 gS geB pB (.string fb) (.string tb) (.string lb) (.int .i64 mb) (.slice pw nb qw)
          replace pA' := (fS.block _ (heap_lt pA') nAB).trans pA'
          replace l1 := Lent.fr l1 fS nB1
          replace l2 := Lent.fr l2 fS nB2
          refine hK _ _ (fun e => absurd rfl e) ?_
          clear hK K fS gS pB
          simp only [Act.put, List.setIfInBounds_toArray, List.set_cons_zero, List.set_cons_succ]
          refine hl_done (by kernel_rfl) ?_ _
          refine NoPanic.normal ?_
          rw [HQ0.out]
          refine ⟨A, B, pu, qu, pw, qw, ?_⟩
          iterate 4 apply Exists.intro
          refine ⟨rfl, ?_, pA', pB', ⟨_, l1⟩, ⟨_, l2⟩, gT⟩
          rw [← HACT.out]; simp only [Act.put, List.setIfInBounds_toArray, List.set_cons_zero, List.set_cons_succ]; rfl
    · rw [HQ0.out]
      rintro e act1 w3 ⟨P, Q, pu, qu, pw, qw, y24, y25, y26, y27, rfl, ha1, hP, hQ, hl1, hl2, hg3⟩
      rw [ha1, ← HACT.out]
      simp only [Act.put, List.setIfInBounds_toArray, List.set_cons_zero, List.set_cons_succ]
      have dk : Dk w w3 ⟨fa, ta, la, ma, .slice pa na qa, psa⟩ ⟨fb, tb, lb, mb, .slice pb nb qb, psb⟩ ⟨fa, ta, la, ma, .slice pu na qu, psa⟩ ⟨fb, tb, lb, mb, .slice pw nb qw, psb⟩ P Q :=
        ⟨(hg3.block (heap_lt HA9.out)).trans HA9.out, (hg3.block (heap_lt HB9.out)).trans HB9.out, hP, hQ, (HEA.out.g HG2.out).g hg3, (HEB.out.g HG2.out).g hg3, hl1, hl2, (HGA.out.trans HG2.out).trans hg3⟩
      have D3 := Lib.hid dk
      clear HQ0 Q0 HACT act0 act1 ha1 hP hQ hl1 hl2 hg3 dk HA9 HB9 HG2 HGA HEA HEB HLA HLB HBA HBB HWA a0 a1 a2 a3 a4 b0 b1 b2 b3 b4
      have EX3 := Lib.hid (show EdgAt w3 ⟨fa, ta, la, ma, .slice pu na qu, psa⟩ from by obtain ⟨c, h⟩ := D3.out.la; exact LentP.at h D3.out.ea)
      have EY3 := Lib.hid (show EdgAt w3 ⟨fb, tb, lb, mb, .slice pw nb qw, psb⟩ from by obtain ⟨c, h⟩ := D3.out.lb; exact LentP.at h D3.out.eb)
      obtain ⟨r, hr⟩ : ∃ r, r = propF psa s := ⟨_, rfl⟩
      have HP1 := Lib.hid (prop_any ⟨fa, ta, la, ma, .slice pu na qu, psa⟩ s w3 EX3.out)
      have HP2 := Lib.hid (fun X (hX : EdgAt X ⟨fa, ta, la, ma, .slice pa na qa, psa⟩) => rprop_any ⟨fa, ta, la, ma, .slice pa na qa, psa⟩ s X hX)
      simp only at HP1 HP2
      rw [← hr] at HP1 HP2
      clear hr
      obtain ⟨⟨v1, v2, v3⟩, is⟩ := r
      unfold ev vv at HP1 HP2
      simp only at HP1 HP2
      obtain ⟨x0, x1, x2, x3, x4⟩ := cells5 D3.out.x
      go_wp2_with fail
      refine HP1.out.mono ?_
      rintro e w4 ⟨rfl, hg4⟩
      obtain ⟨W5, hW5⟩ : ∃ X : World, X = w4.alloc (.cells #[.int .i64 v1, .int .i64 v2, .string v3] 43) := ⟨_, rfl⟩
      have hg5 : G w4 W5 := by rw [hW5]; exact (G.refl w4).alloc _
      have hb5 : W5.heap[w4.heap.size]? = some (.cells #[.int .i64 v1, .int .i64 v2, .string v3] 43 (0, 0)) := by rw [hW5]; exact alloc_new _ _
      have HW5 := Lib.hid hW5
      have HB5 := Lib.hid hb5
      have D5 := Lib.hid (D3.out.next (hg4.trans hg5))
      have EX5 := Lib.hid (EX3.out.g (hg4.trans hg5))
      have EY5 := Lib.hid (EY3.out.g (hg4.trans hg5))
      clear D3 EX3 EY3 hg4 hg5 hb5 hW5 HP1 x0 x1 x2 x3 x4
      go_upto_region 5 with fail
      rw [← HW5.out]
      obtain ⟨a0, a1, a2, a3, a4⟩ := cells5 D5.out.a
      go_wp2_with fail
      refine (HP2.out W5 D5.out.ea).mono ?_
      rintro e w6 ⟨rfl, hg6⟩
      obtain ⟨W7, hW7⟩ : ∃ X : World, X = w6.alloc (.cells #[.int .i64 v1, .int .i64 v2, .string v3] 43) := ⟨_, rfl⟩
      have hg7 : G w6 W7 := by rw [hW7]; exact (G.refl w6).alloc _
      have hb7 : W7.heap[w6.heap.size]? = some (.cells #[.int .i64 v1, .int .i64 v2, .string v3] 43 (0, 0)) := by rw [hW7]; exact alloc_new _ _
      have HW7 := Lib.hid hW7
      have HB7 := Lib.hid hb7
      have hg67 := hg6.trans hg7
      have hb57 := (hg67.block (heap_lt HB5.out)).trans HB5.out
      have HB57 := Lib.hid hb57
      have D7 := Lib.hid (D5.out.next hg67)
      have EX7 := Lib.hid (EX5.out.g hg67)
      have EY7 := Lib.hid (EY5.out.g hg67)
      clear D5 EX5 EY5 hg6 hg7 hg67 hb7 hb57 hW7 HP2 HB5 HW5 a0 a1 a2 a3 a4
      go_upto_region 6 with fail
      rw [← HW7.out]
      obtain ⟨x0, x1, x2, x3, x4⟩ := cells5 D7.out.x
      obtain ⟨ck, hck⟩ : ∃ x, x = checkE ⟨fa, ta, la, ma, .slice pa na qa, psa⟩ := ⟨_, rfl⟩
      obtain ⟨pl, hpl⟩ : ∃ x, x = putE ⟨fa, ta, la, ma, .slice pa na qa, psa⟩ := ⟨_, rfl⟩
      have hple : pl.length ≤ 1000 := by rw [hpl]; exact putE_le _
      have HP1 := Lib.hid (put_any ⟨fa, ta, la, ma, .slice pu na qu, psa⟩ W7 EX7.out)
      rw [show checkE ⟨fa, ta, la, ma, .slice pu na qu, psa⟩ = ck from hck.symm, show putE ⟨fa, ta, la, ma, .slice pu na qu, psa⟩ = pl from hpl.symm] at HP1
      have HP2 := Lib.hid (fun X (hX : EdgAt X ⟨fa, ta, la, ma, .slice pa na qa, psa⟩) => rput_any ⟨fa, ta, la, ma, .slice pa na qa, psa⟩ X hX)
      have HK1 := Lib.hid (fun X (hX : EdgAt X ⟨fa, ta, la, ma, .slice pu na qu, psa⟩) => check_any ⟨fa, ta, la, ma, .slice pu na qu, psa⟩ X hX)
      have HK2 := Lib.hid (fun X (hX : EdgAt X ⟨fa, ta, la, ma, .slice pa na qa, psa⟩) => rCheck_any ⟨fa, ta, la, ma, .slice pa na qa, psa⟩ X hX)
      rw [show checkE ⟨fa, ta, la, ma, .slice pu na qu, psa⟩ = ck from hck.symm] at HK1
      rw [← hck] at HK2
      rw [← hck, ← hpl] at HP2
      unfold ev at HP1 HP2 HK1 HK2
      simp only at HP1 HP2 HK1 HK2
      obtain ⟨pn, hpn⟩ : ∃ k, k = pl.length := ⟨_, rfl⟩
      have HPN := Lib.hid hpn
      have HPLE := Lib.hid hple
      clear hck hpl hple hpn
      go_wp2_with fail
      refine HP1.out.mono ?_
      rintro e w8 ⟨v, rfl, hv, hg8⟩
      obtain ⟨pp, pc, rfl⟩ := ownsRow_shape hv
      have RP8 := Lib.hid (rdr_of_owns hv)
      rw [← HPN.out] at RP8 ⊢
      have D8 := Lib.hid (D7.out.next hg8)
      have EX8 := Lib.hid (EX7.out.g hg8)
      have EY8 := Lib.hid (EY7.out.g hg8)
      have HB58 := Lib.hid ((hg8.block (heap_lt HB57.out)).trans HB57.out)
      have HB78 := Lib.hid ((hg8.block (heap_lt HB7.out)).trans HB7.out)
      obtain ⟨a0, a1, a2, a3, a4⟩ := cells5 D8.out.a
      clear D7 EX7 EY7 HB57 HB7 HW7 hv hg8 HP1 x0 x1 x2 x3 x4
      go_wp2_with fail
      refine (HP2.out w8 D8.out.ea).mono ?_
      rintro e w9 ⟨v, rfl, hv, hg9⟩
      obtain ⟨qp, qc, rfl⟩ := ownsRow_shape hv
      have RQ9 := Lib.hid (rdr_of_owns hv)
      rw [← HPN.out] at RQ9 ⊢
      have RP9 := Lib.hid (RP8.out.g hg9)
      have D9 := Lib.hid (D8.out.next hg9)
      have EX9 := Lib.hid (EX8.out.g hg9)
      have EY9 := Lib.hid (EY8.out.g hg9)
      have HB59 := Lib.hid ((hg9.block (heap_lt HB58.out)).trans HB58.out)
      have HB79 := Lib.hid ((hg9.block (heap_lt HB78.out)).trans HB78.out)
      clear D8 EX8 EY8 HB58 HB78 RP8 hv hg9 HP2 a0 a1 a2 a3 a4
      obtain ⟨cm, hcm⟩ : ∃ x, x = ecmp ⟨fa, ta, la, ma, .slice pa na qa, psa⟩ ⟨fb, tb, lb, mb, .slice pb nb qb, psb⟩ := ⟨_, rfl⟩
      obtain ⟨lk, hlk⟩ : ∃ x, x = likeB ⟨fa, ta, la, ma, .slice pa na qa, psa⟩ ⟨fb, tb, lb, mb, .slice pb nb qb, psb⟩ := ⟨_, rfl⟩
      have HC1 := Lib.hid (fun X => ecmp_any ⟨fa, ta, la, ma, .slice pu na qu, psa⟩ ⟨fb, tb, lb, mb, .slice pw nb qw, psb⟩ X ⟨_, _, _, rfl⟩ ⟨_, _, _, rfl⟩)
      have HC2 := Lib.hid (fun X => recmp_any ⟨fa, ta, la, ma, .slice pa na qa, psa⟩ ⟨fb, tb, lb, mb, .slice pb nb qb, psb⟩ X ⟨_, _, _, rfl⟩ ⟨_, _, _, rfl⟩)
      have HC3 := Lib.hid (fun X => like_any ⟨fa, ta, la, ma, .slice pu na qu, psa⟩ ⟨fb, tb, lb, mb, .slice pw nb qw, psb⟩ X ⟨_, _, _, rfl⟩ ⟨_, _, _, rfl⟩)
      have HC4 := Lib.hid (fun X => rlike_any ⟨fa, ta, la, ma, .slice pa na qa, psa⟩ ⟨fb, tb, lb, mb, .slice pb nb qb, psb⟩ X ⟨_, _, _, rfl⟩ ⟨_, _, _, rfl⟩)
      rw [show ecmp ⟨fa, ta, la, ma, .slice pu na qu, psa⟩ ⟨fb, tb, lb, mb, .slice pw nb qw, psb⟩ = cm from hcm.symm] at HC1
      rw [← hcm] at HC2
      rw [show likeB ⟨fa, ta, la, ma, .slice pu na qu, psa⟩ ⟨fb, tb, lb, mb, .slice pw nb qw, psb⟩ = lk from hlk.symm] at HC3
      rw [← hlk] at HC4
      unfold ev at HC1 HC2 HC3 HC4
      simp only at HC1 HC2 HC3 HC4
      clear hcm hlk
      have e1 : (ck == ck) = true := by simp
      have e2 : (cm == cm) = true := by simp
      have e3 : (lk == lk) = true := by simp
      obtain ⟨a0, a1, a2, a3, a4⟩ := cells5 D9.out.a
      obtain ⟨b0, b1, b2, b3, b4⟩ := cells5 D9.out.b
      obtain ⟨x0, x1, x2, x3, x4⟩ := cells5 D9.out.x
      obtain ⟨z0, z1, z2, z3, z4⟩ := cells5 D9.out.y
      go_upto_region 8 with fail
      obtain ⟨WD, hWD⟩ : ∃ WD : World, WD = w9.drew := ⟨_, rfl⟩
      have gD : G w9 WD := by rw [hWD]; exact (G.refl w9).drew
      refine region_hlW (fun w' => G w9 w') 99 24 (by kernel_rfl) rfl ?_
      intro Q0 HQ0
      simp only [List.replicate_succ, List.replicate_zero]
      rw [← hWD]
      clear hWD
      refine hl_take_np 0 (by kernel_rfl) (by kernel_rfl) rfl (by kernel_rfl) gD (v := ?_) ?_ ?_
      rotate_left
      · (rintro x hx; have k0 := hx.cell a0; have j0 := hx.cell b0; have i0 := hx.cell x0; have h0 := hx.cell z0; have k1 := hx.cell a1; have j1 := hx.cell b1; have i1 := hx.cell x1; have h1 := hx.cell z1; have k2 := hx.cell a2; have j2 := hx.cell b2; have i2 := hx.cell x2; have h2 := hx.cell z2; have k3 := hx.cell a3; have j3 := hx.cell b3; have i3 := hx.cell x3; have h3 := hx.cell z3; have k4 := hx.cell a4; have j4 := hx.cell b4; have i4 := hx.cell x4; have h4 := hx.cell z4; clear hx; go_simp; try rfl)
      simp only [Act.put, List.setIfInBounds_toArray, List.set_cons_zero, List.set_cons_succ]
      refine hl_take_np 2 (by kernel_rfl) (by kernel_rfl) rfl (by kernel_rfl) gD (v := ?_) ?_ ?_
      rotate_left
      · (rintro x hx; have k0 := hx.cell a0; have j0 := hx.cell b0; have i0 := hx.cell x0; have h0 := hx.cell z0; have k1 := hx.cell a1; have j1 := hx.cell b1; have i1 := hx.cell x1; have h1 := hx.cell z1; have k2 := hx.cell a2; have j2 := hx.cell b2; have i2 := hx.cell x2; have h2 := hx.cell z2; have k3 := hx.cell a3; have j3 := hx.cell b3; have i3 := hx.cell x3; have h3 := hx.cell z3; have k4 := hx.cell a4; have j4 := hx.cell b4; have i4 := hx.cell x4; have h4 := hx.cell z4; clear hx; go_simp; try rfl)
      simp only [Act.put, List.setIfInBounds_toArray, List.set_cons_zero, List.set_cons_succ]
      refine hl_stepW 1 (by kernel_rfl) rfl (by kernel_rfl) ?_
      intro K hK
      go_simp
      refine (HK1.out WD (EX9.out.g gD)).mono ?_
      rintro e U1 ⟨rfl, hgx⟩
      replace gD := gD.trans hgx
      refine hK _ _ (fun _ => gD) ?_
      clear hK K hgx
      simp only [Act.put, List.setIfInBounds_toArray, List.set_cons_zero, List.set_cons_succ]
      refine hl_stepW 3 (by kernel_rfl) rfl (by kernel_rfl) ?_
      intro K hK
      go_simp
      refine (HK2.out U1 (D9.out.ea.g gD)).mono ?_
      rintro e U2 ⟨rfl, hgx⟩
      replace gD := gD.trans hgx
      refine hK _ _ (fun _ => gD) ?_
      clear hK K hgx
      simp only [Act.put, List.setIfInBounds_toArray, List.set_cons_zero, List.set_cons_succ]
      refine hl_take_np 4 (by kernel_rfl) (by kernel_rfl) rfl (by kernel_rfl) gD (v := ?_) ?_ ?_
      rotate_left
      · (rintro x hx; have k0 := hx.cell a0; have j0 := hx.cell b0; have i0 := hx.cell x0; have h0 := hx.cell z0; have k1 := hx.cell a1; have j1 := hx.cell b1; have i1 := hx.cell x1; have h1 := hx.cell z1; have k2 := hx.cell a2; have j2 := hx.cell b2; have i2 := hx.cell x2; have h2 := hx.cell z2; have k3 := hx.cell a3; have j3 := hx.cell b3; have i3 := hx.cell x3; have h3 := hx.cell z3; have k4 := hx.cell a4; have j4 := hx.cell b4; have i4 := hx.cell x4; have h4 := hx.cell z4; clear hx; go_simp; try rfl)
      simp only [Act.put, List.setIfInBounds_toArray, List.set_cons_zero, List.set_cons_succ]
      refine hl_take_np 5 (by kernel_rfl) (by kernel_rfl) rfl (by kernel_rfl) gD (v := ?_) ?_ ?_
      rotate_left
      · (rintro x hx; have k0 := hx.cell a0; have j0 := hx.cell b0; have i0 := hx.cell x0; have h0 := hx.cell z0; have k1 := hx.cell a1; have j1 := hx.cell b1; have i1 := hx.cell x1; have h1 := hx.cell z1; have k2 := hx.cell a2; have j2 := hx.cell b2; have i2 := hx.cell x2; have h2 := hx.cell z2; have k3 := hx.cell a3; have j3 := hx.cell b3; have i3 := hx.cell x3; have h3 := hx.cell z3; have k4 := hx.cell a4; have j4 := hx.cell b4; have i4 := hx.cell x4; have h4 := hx.cell z4; clear hx; go_simp; try rfl)
      simp only [Act.put, List.setIfInBounds_toArray, List.set_cons_zero, List.set_cons_succ]
      refine hl_take_np 6 (by kernel_rfl) (by kernel_rfl) rfl (by kernel_rfl) gD (v := ?_) ?_ ?_
      rotate_left
      · (rintro x hx; have k0 := hx.cell a0; have j0 := hx.cell b0; have i0 := hx.cell x0; have h0 := hx.cell z0; have k1 := hx.cell a1; have j1 := hx.cell b1; have i1 := hx.cell x1; have h1 := hx.cell z1; have k2 := hx.cell a2; have j2 := hx.cell b2; have i2 := hx.cell x2; have h2 := hx.cell z2; have k3 := hx.cell a3; have j3 := hx.cell b3; have i3 := hx.cell x3; have h3 := hx.cell z3; have k4 := hx.cell a4; have j4 := hx.cell b4; have i4 := hx.cell x4; have h4 := hx.cell z4; clear hx; go_simp; try rfl)
      simp only [Act.put, List.setIfInBounds_toArray, List.set_cons_zero, List.set_cons_succ]
      refine hl_take_np 7 (by kernel_rfl) (by kernel_rfl) rfl (by kernel_rfl) gD (v := ?_) ?_ ?_
      rotate_left
      · (rintro x hx; have k0 := hx.cell a0; have j0 := hx.cell b0; have i0 := hx.cell x0; have h0 := hx.cell z0; have k1 := hx.cell a1; have j1 := hx.cell b1; have i1 := hx.cell x1; have h1 := hx.cell z1; have k2 := hx.cell a2; have j2 := hx.cell b2; have i2 := hx.cell x2; have h2 := hx.cell z2; have k3 := hx.cell a3; have j3 := hx.cell b3; have i3 := hx.cell x3; have h3 := hx.cell z3; have k4 := hx.cell a4; have j4 := hx.cell b4; have i4 := hx.cell x4; have h4 := hx.cell z4; clear hx; go_simp; try rfl)
      simp only [Act.put, List.setIfInBounds_toArray, List.set_cons_zero, List.set_cons_succ]
      refine hl_take_np 9 (by kernel_rfl) (by kernel_rfl) rfl (by kernel_rfl) gD (v := ?_) ?_ ?_
      rotate_left
      · (rintro x hx; have k0 := hx.cell a0; have j0 := hx.cell b0; have i0 := hx.cell x0; have h0 := hx.cell z0; have k1 := hx.cell a1; have j1 := hx.cell b1; have i1 := hx.cell x1; have h1 := hx.cell z1; have k2 := hx.cell a2; have j2 := hx.cell b2; have i2 := hx.cell x2; have h2 := hx.cell z2; have k3 := hx.cell a3; have j3 := hx.cell b3; have i3 := hx.cell x3; have h3 := hx.cell z3; have k4 := hx.cell a4; have j4 := hx.cell b4; have i4 := hx.cell x4; have h4 := hx.cell z4; clear hx; go_simp; try rfl)
      simp only [Act.put, List.setIfInBounds_toArray, List.set_cons_zero, List.set_cons_succ]
      refine hl_take_np 10 (by kernel_rfl) (by kernel_rfl) rfl (by kernel_rfl) gD (v := ?_) ?_ ?_
      rotate_left
      · (rintro x hx; have k0 := hx.cell a0; have j0 := hx.cell b0; have i0 := hx.cell x0; have h0 := hx.cell z0; have k1 := hx.cell a1; have j1 := hx.cell b1; have i1 := hx.cell x1; have h1 := hx.cell z1; have k2 := hx.cell a2; have j2 := hx.cell b2; have i2 := hx.cell x2; have h2 := hx.cell z2; have k3 := hx.cell a3; have j3 := hx.cell b3; have i3 := hx.cell x3; have h3 := hx.cell z3; have k4 := hx.cell a4; have j4 := hx.cell b4; have i4 := hx.cell x4; have h4 := hx.cell z4; clear hx; go_simp; try rfl)
      simp only [Act.put, List.setIfInBounds_toArray, List.set_cons_zero, List.set_cons_succ]
      refine hl_stepW 8 (by kernel_rfl) rfl (by kernel_rfl) ?_
      intro K hK
      go_simp
      refine (HC1.out U2 ).mono ?_
      rintro e U3 ⟨rfl, hgx⟩
      replace gD := gD.trans hgx
      refine hK _ _ (fun _ => gD) ?_
      clear hK K hgx
      simp only [Act.put, List.setIfInBounds_toArray, List.set_cons_zero, List.set_cons_succ]
      refine hl_stepW 11 (by kernel_rfl) rfl (by kernel_rfl) ?_
      intro K hK
      go_simp
      refine (HC2.out U3 ).mono ?_
      rintro e U4 ⟨rfl, hgx⟩
      replace gD := gD.trans hgx
      refine hK _ _ (fun _ => gD) ?_
      clear hK K hgx
      simp only [Act.put, List.setIfInBounds_toArray, List.set_cons_zero, List.set_cons_succ]
      refine hl_take_np 12 (by kernel_rfl) (by kernel_rfl) rfl (by kernel_rfl) gD (v := ?_) ?_ ?_
      rotate_left
      · (rintro x hx; have k0 := hx.cell a0; have j0 := hx.cell b0; have i0 := hx.cell x0; have h0 := hx.cell z0; have k1 := hx.cell a1; have j1 := hx.cell b1; have i1 := hx.cell x1; have h1 := hx.cell z1; have k2 := hx.cell a2; have j2 := hx.cell b2; have i2 := hx.cell x2; have h2 := hx.cell z2; have k3 := hx.cell a3; have j3 := hx.cell b3; have i3 := hx.cell x3; have h3 := hx.cell z3; have k4 := hx.cell a4; have j4 := hx.cell b4; have i4 := hx.cell x4; have h4 := hx.cell z4; clear hx; go_simp; try rfl)
      simp only [Act.put, List.setIfInBounds_toArray, List.set_cons_zero, List.set_cons_succ]
      refine hl_take_np 13 (by kernel_rfl) (by kernel_rfl) rfl (by kernel_rfl) gD (v := ?_) ?_ ?_
      rotate_left
      · (rintro x hx; have k0 := hx.cell a0; have j0 := hx.cell b0; have i0 := hx.cell x0; have h0 := hx.cell z0; have k1 := hx.cell a1; have j1 := hx.cell b1; have i1 := hx.cell x1; have h1 := hx.cell z1; have k2 := hx.cell a2; have j2 := hx.cell b2; have i2 := hx.cell x2; have h2 := hx.cell z2; have k3 := hx.cell a3; have j3 := hx.cell b3; have i3 := hx.cell x3; have h3 := hx.cell z3; have k4 := hx.cell a4; have j4 := hx.cell b4; have i4 := hx.cell x4; have h4 := hx.cell z4; clear hx; go_simp; try rfl)
      simp only [Act.put, List.setIfInBounds_toArray, List.set_cons_zero, List.set_cons_succ]
      refine hl_take_np 14 (by kernel_rfl) (by kernel_rfl) rfl (by kernel_rfl) gD (v := ?_) ?_ ?_
      rotate_left
      · (rintro x hx; have k0 := hx.cell a0; have j0 := hx.cell b0; have i0 := hx.cell x0; have h0 := hx.cell z0; have k1 := hx.cell a1; have j1 := hx.cell b1; have i1 := hx.cell x1; have h1 := hx.cell z1; have k2 := hx.cell a2; have j2 := hx.cell b2; have i2 := hx.cell x2; have h2 := hx.cell z2; have k3 := hx.cell a3; have j3 := hx.cell b3; have i3 := hx.cell x3; have h3 := hx.cell z3; have k4 := hx.cell a4; have j4 := hx.cell b4; have i4 := hx.cell x4; have h4 := hx.cell z4; clear hx; go_simp; try rfl)
      simp only [Act.put, List.setIfInBounds_toArray, List.set_cons_zero, List.set_cons_succ]
      refine hl_take_np 15 (by kernel_rfl) (by kernel_rfl) rfl (by kernel_rfl) gD (v := ?_) ?_ ?_
      rotate_left
      · (rintro x hx; have k0 := hx.cell a0; have j0 := hx.cell b0; have i0 := hx.cell x0; have h0 := hx.cell z0; have k1 := hx.cell a1; have j1 := hx.cell b1; have i1 := hx.cell x1; have h1 := hx.cell z1; have k2 := hx.cell a2; have j2 := hx.cell b2; have i2 := hx.cell x2; have h2 := hx.cell z2; have k3 := hx.cell a3; have j3 := hx.cell b3; have i3 := hx.cell x3; have h3 := hx.cell z3; have k4 := hx.cell a4; have j4 := hx.cell b4; have i4 := hx.cell x4; have h4 := hx.cell z4; clear hx; go_simp; try rfl)
      simp only [Act.put, List.setIfInBounds_toArray, List.set_cons_zero, List.set_cons_succ]
      refine hl_take_np 16 (by kernel_rfl) (by kernel_rfl) rfl (by kernel_rfl) gD (v := ?_) ?_ ?_
      rotate_left
      · (rintro x hx; have k0 := hx.cell a0; have j0 := hx.cell b0; have i0 := hx.cell x0; have h0 := hx.cell z0; have k1 := hx.cell a1; have j1 := hx.cell b1; have i1 := hx.cell x1; have h1 := hx.cell z1; have k2 := hx.cell a2; have j2 := hx.cell b2; have i2 := hx.cell x2; have h2 := hx.cell z2; have k3 := hx.cell a3; have j3 := hx.cell b3; have i3 := hx.cell x3; have h3 := hx.cell z3; have k4 := hx.cell a4; have j4 := hx.cell b4; have i4 := hx.cell x4; have h4 := hx.cell z4; clear hx; go_simp; try rfl)
      simp only [Act.put, List.setIfInBounds_toArray, List.set_cons_zero, List.set_cons_succ]
      refine hl_take_np 18 (by kernel_rfl) (by kernel_rfl) rfl (by kernel_rfl) gD (v := ?_) ?_ ?_
      rotate_left
      · (rintro x hx; have k0 := hx.cell a0; have j0 := hx.cell b0; have i0 := hx.cell x0; have h0 := hx.cell z0; have k1 := hx.cell a1; have j1 := hx.cell b1; have i1 := hx.cell x1; have h1 := hx.cell z1; have k2 := hx.cell a2; have j2 := hx.cell b2; have i2 := hx.cell x2; have h2 := hx.cell z2; have k3 := hx.cell a3; have j3 := hx.cell b3; have i3 := hx.cell x3; have h3 := hx.cell z3; have k4 := hx.cell a4; have j4 := hx.cell b4; have i4 := hx.cell x4; have h4 := hx.cell z4; clear hx; go_simp; try rfl)
      simp only [Act.put, List.setIfInBounds_toArray, List.set_cons_zero, List.set_cons_succ]
      refine hl_take_np 19 (by kernel_rfl) (by kernel_rfl) rfl (by kernel_rfl) gD (v := ?_) ?_ ?_
      rotate_left
      · (rintro x hx; have k0 := hx.cell a0; have j0 := hx.cell b0; have i0 := hx.cell x0; have h0 := hx.cell z0; have k1 := hx.cell a1; have j1 := hx.cell b1; have i1 := hx.cell x1; have h1 := hx.cell z1; have k2 := hx.cell a2; have j2 := hx.cell b2; have i2 := hx.cell x2; have h2 := hx.cell z2; have k3 := hx.cell a3; have j3 := hx.cell b3; have i3 := hx.cell x3; have h3 := hx.cell z3; have k4 := hx.cell a4; have j4 := hx.cell b4; have i4 := hx.cell x4; have h4 := hx.cell z4; clear hx; go_simp; try rfl)
      simp only [Act.put, List.setIfInBounds_toArray, List.set_cons_zero, List.set_cons_succ]
      refine hl_stepW 17 (by kernel_rfl) rfl (by kernel_rfl) ?_
      intro K hK
      go_simp
      refine (HC3.out U4 ).mono ?_
      rintro e U5 ⟨rfl, hgx⟩
      replace gD := gD.trans hgx
      refine hK _ _ (fun _ => gD) ?_
      clear hK K hgx
      simp only [Act.put, List.setIfInBounds_toArray, List.set_cons_zero, List.set_cons_succ]
      refine hl_stepW 20 (by kernel_rfl) rfl (by kernel_rfl) ?_
      intro K hK
      go_simp
      refine (HC4.out U5 ).mono ?_
      rintro e U6 ⟨rfl, hgx⟩
      replace gD := gD.trans hgx
      refine hK _ _ (fun _ => gD) ?_
      clear hK K hgx
      simp only [Act.put, List.setIfInBounds_toArray, List.set_cons_zero, List.set_cons_succ]
      refine hl_take_np 21 (by kernel_rfl) (by kernel_rfl) rfl (by kernel_rfl) gD (v := ?_) ?_ ?_
      rotate_left
      · (rintro x hx; clear hx; go_simp; try rfl)
      simp only [Act.put, List.setIfInBounds_toArray, List.set_cons_zero, List.set_cons_succ]
      refine hl_take_np 22 (by kernel_rfl) (by kernel_rfl) rfl (by kernel_rfl) gD (v := ?_) ?_ ?_
      rotate_left
      · (rintro x hx; clear hx; go_simp; try rfl)
      simp only [Act.put, List.setIfInBounds_toArray, List.set_cons_zero, List.set_cons_succ]
      refine hl_take_np 23 (by kernel_rfl) (by kernel_rfl) rfl (by kernel_rfl) gD (v := ?_) ?_ ?_
      rotate_left
      · (rintro x hx; clear hx; go_simp; try rfl)
      simp only [Act.put, List.setIfInBounds_toArray, List.set_cons_zero, List.set_cons_succ]
      refine hl_done (by kernel_rfl) ?_ _
      refine NoPanic.normal (HQ0.out _ _ ?_)
      clear HQ0 a0 a1 a2 a3 a4 b0 b1 b2 b3 b4 x0 x1 x2 x3 x4 z0 z1 z2 z3 z4 HK1 HK2 HC1 HC2 HC3 HC4
      have D10 := Lib.hid (D9.out.next gD)
      have RP10 := Lib.hid (RP9.out.g gD)
      have RQ10 := Lib.hid (RQ9.out.g gD)
      obtain ⟨c0, c1, c2⟩ := cells3 ((gD.block (heap_lt HB59.out)).trans HB59.out)
      obtain ⟨d0, d1, d2⟩ := cells3 ((gD.block (heap_lt HB79.out)).trans HB79.out)
      have hev := fun w => eq_val v1 v2 v3 w
      have e4 : (is == is) = true := by simp
      have HSB := Lib.hid (sameB_any pl pl (.slice pp pn pc) (.slice qp pn qc) U6 (by rw [← HPN.out]; exact RP10.out) (by rw [← HPN.out]; exact RQ10.out) (by have := HPLE.out; omega) (by have := HPLE.out; omega))
      rw [show decide (pl = pl) = true by simp] at HSB
      clear D9 RP9 RQ9 HB59 HB79 gD EX9 EY9 RP10 RQ10
      go_wp2_with fail
      refine HSB.out.mono ?_
      rintro e w11 ⟨rfl, hg11⟩
      have D11 := Lib.hid (D10.out.next hg11)
      obtain ⟨a0, a1, a2, a3, a4⟩ := cells5 D11.out.a
      obtain ⟨x0, x1, x2, x3, x4⟩ := cells5 D11.out.x
      obtain ⟨base1, hl1⟩ := D11.out.la
      have HKE := Lib.hid (keptE_yes ⟨fa, ta, la, ma, .slice pa na qa, psa⟩ (.slice pu na qu) base1 w11 D11.out.ea HNN.out.1 hl1)
      unfold ev lentE at HKE
      simp only at HKE
      clear HSB hg11 D10 c0 c1 c2 d0 d1 d2 hl1 hev
      go_wp2_with fail
      refine HKE.out.mono ?_
      rintro e w12 ⟨rfl, hg12⟩
      have D12 := Lib.hid (D11.out.next hg12)
      obtain ⟨b0, b1, b2, b3, b4⟩ := cells5 D12.out.b
      obtain ⟨z0, z1, z2, z3, z4⟩ := cells5 D12.out.y
      obtain ⟨base2, hl2⟩ := D12.out.lb
      have HKF := Lib.hid (keptE_yes ⟨fb, tb, lb, mb, .slice pb nb qb, psb⟩ (.slice pw nb qw) base2 w12 D12.out.eb HNN.out.2 hl2)
      unfold ev lentE at HKF
      simp only at HKF
      clear HKE hg12 D11 a0 a1 a2 a3 a4 x0 x1 x2 x3 x4 hl2
      go_wp2_with fail
      refine HKF.out.mono ?_
      rintro e w13 ⟨rfl, hg13⟩
      have HGF := Lib.hid (D12.out.g.trans hg13)
      clear HKF hg13 D12 b0 b1 b2 b3 b4 z0 z1 z2 z3 z4
      go_wp2_with fail
      refine (awake_any w13).mono ?_
      rintro e w14 ⟨rfl, hg14⟩
      go_wp2_with fail
      go_ret
      exact ⟨rfl, HGF.out.trans hg14⟩
end Go.Proofs.Ytfdajignnnhnmaa
