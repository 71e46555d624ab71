/- EdgeBack: the walk -/
import Derived.Test.YtfdajignnnhnmaaEdgeQ
import Derived.Test.YtfdajignnnhnmaaEdgeP
namespace Go.Proofs.Ytfdajignnnhnmaa
set_option linter.unusedVariables false
set_option linter.unusedSimpArgs false
open Go.RowKit Go.Shelf
attribute [local go_sem] Oper.semAt_some

/-- what stays in the walk of EdgeBack: the boxes of the two edges, the bytes -/
structure Bk (w X : World) (A B : Edg) (rv : Value) (l : List UInt8) : Prop where
  a : X.heap[w.heap.size]? = some (.cells (ecells A).toArray 27 (0, 0))
  b : X.heap[w.heap.size + 1]? = some (.cells (ecells B).toArray 27 (0, 0))
  ea : EdgAt X A
  eb : EdgAt X B
  r : Rdr X 1 rv l.length (bys l)
  g : G w X
theorem Bk.next {w X Y : World} {A B : Edg} {rv : Value} {l : List UInt8} (h : Bk w X A B rv l) (hg : G X Y) : Bk w Y A B rv l :=
  ⟨(hg.block (heap_lt h.a)).trans h.a, (hg.block (heap_lt h.b)).trans h.b, h.ea.g hg, h.eb.g hg, h.r.g hg, h.g.trans hg⟩
theorem bool_ne (q : Bool) : (q != q) = false := by simp
/-- one box of an edge that was read -/
theorem box_edge {X : World} {E : Edg} {f t l : ByteArray} {m : Int} {v : Value} (h : E = ⟨f, t, l, m, v, E.ps⟩) : True := trivial
theorem chk_put {E : Edg} (h : checkE E = 0) : putE E = putO (outE E) := if_pos h
theorem same_iff {A B : Edg} : sameE A B = true ↔ outE A = outE B := by
  simp only [sameE, outE, Bool.and_eq_true, decide_eq_true_eq, Prod.mk.injEq, and_assoc]
theorem same_put {A B : Edg} (ha : checkE A = 0) (hb : checkE B = 0) : decide (putE A = putE B) = sameE A B := by
  rw [Bool.eq_iff_iff, same_iff, chk_put ha, chk_put hb]
  simp only [decide_eq_true_eq]
  exact ⟨fun h => put_inj (a := outE A) (b := outE B) ha hb h, fun h => by rw [h]⟩
theorem parse_ok {E : Edg} (h : checkE E = 0) : errP (putE E) = 0 ∧ outP (putE E) = outE E := by
  obtain ⟨h1, h2⟩ := parse_put (o := outE E) h
  rw [chk_put h, errP, outP, if_pos h1, if_pos h1, h2]
  exact ⟨rfl, rfl⟩
theorem back_ok {l : List UInt8} {E : Edg} (h : errP l = 0) (ho : outE E = outP l) : checkE E = 0 ∧ putE E = l := by
  have hk : okP l = true := by
    unfold errP at h
    split at h
    · assumption
    · cases h
  rw [outP, if_pos hk] at ho
  obtain ⟨h1, h2⟩ := put_parse hk
  rw [← ho] at h1 h2
  have hc : checkE E = 0 := h2
  exact ⟨hc, by rw [chk_put hc, h1]⟩
theorem err_two (l : List UInt8) : errP l = 0 ∨ errP l = 4 ∧ outP l = (⟨#[]⟩, ⟨#[]⟩, ⟨#[]⟩, 0, []) := by
  by_cases h : okP l = true
  · left; rw [errP, if_pos h]
  · right; rw [errP, outP, if_neg h, if_neg h]; exact ⟨rfl, rfl⟩
theorem putE_len {E : Edg} (h : checkE E = 0) : (putE E).length ≤ 1000 := by
  obtain ⟨h1, h2, h3, h4, h5, h6⟩ := check_ok h
  have := accE_len (f := E.f) (t := E.t) (l := E.l) (tm := E.tm) (n := E.ps.length) (ps := E.ps) (k := E.ps.length) (vertex_size h1) (vertex_size h2) (free_size h3) h5 (fun p hp => ⟨free_size (ris_mem h4 p hp).1, (right_size (ris_mem h4 p hp).2).1⟩)
  rw [show putE E = putB E.f E.t E.l E.tm E.ps from if_pos h]
  have e : accE E.f E.t E.l E.tm E.ps.length E.ps E.ps.length = putB E.f E.t E.l E.tm E.ps := by
    rw [accE, List.take_length]; rfl
  rwa [e] at this
set_option maxRecDepth 10000 in
set_option maxHeartbeats 8000000 in
theorem back_any (A B : Edg) (l : List UInt8) (p : Option Addr) (c : Nat) (w : World) (hA : EdgAt w A) (hB : EdgAt w B) (h : Rdr w 1 (.slice p l.length c) l.length (bys l)) (hc : l.length ≤ c) (hc2 : c ≤ 9223372036854775807) (hl : l.length ≤ 140737488355328) :
    Calls Try.prog 4 #[ev A, ev B, .slice p l.length c] w fun e w' => e = .returned (.bool true) ∧ G w w' := by
  obtain ⟨fa, ta, la, ma, va, psa⟩ := A
  obtain ⟨fb, tb, lb, mb, vb, psb⟩ := B
  obtain ⟨-, pa, qa, hva, -⟩ := id hA.rdr
  obtain ⟨-, pb, qb, hvb, -⟩ := id hB.rdr
  simp only at hva hvb
  obtain ⟨na, hna⟩ : ∃ k, k = psa.length := ⟨_, rfl⟩
  obtain ⟨nb, hnb⟩ : ∃ k, k = psb.length := ⟨_, rfl⟩
  rw [← hna] at hva
  rw [← hnb] at hvb
  subst hva hvb
  obtain ⟨n, hn⟩ : ∃ n, n = l.length := ⟨_, rfl⟩
  obtain ⟨WA, hWA⟩ : ∃ X : World, X = (w.alloc (.cells #[.string fa, .string ta, .string la, .int .i64 ma, .slice pa na qa] 27)).alloc (.cells #[.string fb, .string tb, .string lb, .int .i64 mb, .slice pb nb qb] 27) := ⟨_, rfl⟩
  have hgA : G w WA := by rw [hWA]; exact ((G.refl w).alloc _).alloc _
  have bk : Bk w WA ⟨fa, ta, la, ma, .slice pa na qa, psa⟩ ⟨fb, tb, lb, mb, .slice pb nb qb, psb⟩ (.slice p n c) l := by
    refine ⟨?_, ?_, hA.g hgA, hB.g hgA, by rw [hn]; exact h.g hgA, hgA⟩
    · rw [hWA]; exact (((G.refl _).alloc _).block (by rw [World.size_alloc]; omega)).trans (alloc_new w _)
    · rw [hWA]
      have := alloc_new (w.alloc (.cells #[.string fa, .string ta, .string la, .int .i64 ma, .slice pa na qa] 27)) (.cells #[.string fb, .string tb, .string lb, .int .i64 mb, .slice pb nb qb] 27)
      rw [World.size_alloc] at this; exact this
  have HWA := Lib.hid hWA
  have HN := Lib.hid hn
  rw [← hn] at hc hl
  have BK0 := Lib.hid bk
  rw [← hn]
  unfold ev
  simp only
  clear hA hB h hna hnb hWA hgA bk hn
  go_enter Try.func4, Try.ntmps4
  go_upto_region 1 with fail
  rw [← HWA.out]
  go_wp2_with fail
  refine (awake_any WA).mono ?_
  rintro e w1 ⟨rfl, hg⟩
  have BK1 := Lib.hid (BK0.out.next hg)
  obtain ⟨a0, a1, a2, a3, a4⟩ := cells5 BK1.out.a
  obtain ⟨b0, b1, b2, b3, b4⟩ := cells5 BK1.out.b
  clear BK0 hg HWA
  go_wp2_with fail
  have hg2 : G w1 (w1.alloc (.cells (ecs [⟨fa, ta, la, ma, .slice pa na qa, psa⟩, ⟨fb, tb, lb, mb, .slice pb nb qb, psb⟩]).toArray 27)) := (G.refl w1).alloc _
  have BK2 := Lib.hid (BK1.out.next hg2)
  refine (size_any [⟨fa, ta, la, ma, .slice pa na qa, psa⟩, ⟨fb, tb, lb, mb, .slice pb nb qb, psb⟩] _ _ (rdrE_two ⟨fa, ta, la, ma, .slice pa na qa, psa⟩ ⟨fb, tb, lb, mb, .slice pb nb qb, psb⟩ BK1.out.ea BK1.out.eb) (by show (2 : Nat) ≤ _; omega)).mono ?_
  rintro e w2 ⟨z, rfl, hz1, -, hw2⟩
  rw [hw2] at BK2
  clear BK1 hg2 hw2 a0 a1 a2 a3 a4 b0 b1 b2 b3 b4
  obtain ⟨a0, a1, a2, a3, a4⟩ := cells5 BK2.out.a
  obtain ⟨b0, b1, b2, b3, b4⟩ := cells5 BK2.out.b
  by_cases hbig : 2000 < z + n
  · have hbI : (2000 : Int) < (z : Int) + (n : Int) := by omega
    go_wp2_with fail
    go_ret
    exact ⟨rfl, BK2.out.g⟩
  · have hbI : ¬ (2000 : Int) < (z : Int) + (n : Int) := by omega
    obtain ⟨ca, hca⟩ : ∃ x, x = checkE ⟨fa, ta, la, ma, .slice pa na qa, psa⟩ := ⟨_, rfl⟩
    obtain ⟨cb, hcb⟩ : ∃ x, x = checkE ⟨fb, tb, lb, mb, .slice pb nb qb, psb⟩ := ⟨_, rfl⟩
    have HPA := Lib.hid (put_any _ w2 BK2.out.ea)
    unfold ev at HPA
    simp only at HPA
    rw [← hca] at HPA
    have HCA := Lib.hid hca
    have HCB := Lib.hid hcb
    clear hca hcb hbig
    go_wp2_with fail
    refine HPA.out.mono ?_
    rintro e w3 ⟨x, rfl, hx, hg3⟩
    have BK3 := Lib.hid (BK2.out.next hg3)
    obtain ⟨xp, xc, rfl, hx1, hx2⟩ := own_slice hx
    have RX3 := Lib.hid (rdr_of_owns hx)
    have HXC := Lib.hid (And.intro hx1 hx2)
    obtain ⟨xn, hxn⟩ : ∃ k, k = (putE ⟨fa, ta, la, ma, .slice pa na qa, psa⟩).length := ⟨_, rfl⟩
    rw [← hxn] at RX3 HXC ⊢
    have HXN := Lib.hid hxn
    obtain ⟨a0, a1, a2, a3, a4⟩ := cells5 BK3.out.a
    obtain ⟨b0, b1, b2, b3, b4⟩ := cells5 BK3.out.b
    have HPB := Lib.hid (put_any _ w3 BK3.out.eb)
    unfold ev at HPB
    simp only at HPB
    rw [← HCB.out] at HPB
    clear HPA hx hg3 BK2 hx1 hx2 hxn
    go_wp2_with fail
    refine HPB.out.mono ?_
    rintro e w4 ⟨y, rfl, hy, hg4⟩
    have BK4 := Lib.hid (BK3.out.next hg4)
    obtain ⟨yp, yc, rfl, -, -⟩ := own_slice hy
    have RY4 := Lib.hid (rdr_of_owns hy)
    obtain ⟨yn, hyn⟩ : ∃ k, k = (putE ⟨fb, tb, lb, mb, .slice pb nb qb, psb⟩).length := ⟨_, rfl⟩
    rw [← hyn] at RY4 ⊢
    have HYN := Lib.hid hyn
    have RX4 := Lib.hid (RX3.out.g hg4)
    obtain ⟨a0, a1, a2, a3, a4⟩ := cells5 BK4.out.a
    obtain ⟨b0, b1, b2, b3, b4⟩ := cells5 BK4.out.b
    have HK := Lib.hid (check_any _ w4 BK4.out.ea)
    unfold ev at HK
    simp only at HK
    rw [← HCA.out] at HK
    clear HPB hy hg4 BK3 RX3 hyn
    go_wp2_with fail
    refine HK.out.mono ?_
    rintro e w5 ⟨rfl, hg5⟩
    have BK5 := Lib.hid (BK4.out.next hg5)
    have RX5 := Lib.hid (RX4.out.g hg5)
    have RY5 := Lib.hid (RY4.out.g hg5)
    clear HK hg5 BK4 RX4 RY4 a0 a1 a2 a3 a4 b0 b1 b2 b3 b4
    by_cases hca0 : ca = 0
    · have HOK := Lib.hid (parse_ok (HCA.out.symm.trans hca0))
      subst hca0
      have HQ := Lib.hid (parse_any xp xc (putE ⟨fa, ta, la, ma, .slice pa na qa, psa⟩) w5 (by have := RX5.out; rw [HXN.out] at this; exact this) (by rw [← HXN.out]; exact HXC.out.1) (by have := HXC.out.2; unfold maxLen at this; exact this))
      rw [HOK.out.1, ← HXN.out] at HQ
      go_wp2_with fail
      refine HQ.out.mono ?_
      rintro e w6 ⟨D, rfl, hout, hatD, hg6⟩
      have hsame := same_of_out (hout.trans HOK.out.2)
      have BK6 := Lib.hid (BK5.out.next hg6)
      have RX6 := Lib.hid (RX5.out.g hg6)
      have RY6 := Lib.hid (RY5.out.g hg6)
      obtain ⟨fd, td, ld, md, vd, psd⟩ := D
      obtain ⟨-, pd, qd, hvd, -⟩ := id hatD.rdr
      simp only at hvd
      obtain ⟨nd, hnd⟩ : ∃ k, k = psd.length := ⟨_, rfl⟩
      rw [← hnd] at hvd
      subst hvd
      unfold ev
      simp only
      obtain ⟨W7, hW7⟩ : ∃ X : World, X = w6.alloc (.cells #[.string fd, .string td, .string ld, .int .i64 md, .slice pd nd qd] 27) := ⟨_, rfl⟩
      have hg7 : G w6 W7 := by rw [hW7]; exact (G.refl w6).alloc _
      have hb7 := alloc_new w6 (.cells #[.string fd, .string td, .string ld, .int .i64 md, .slice pd nd qd] 27)
      rw [← hW7] at hb7
      have BK7 := Lib.hid (BK6.out.next hg7)
      have RX7 := Lib.hid (RX6.out.g hg7)
      have RY7 := Lib.hid (RY6.out.g hg7)
      have HSD := Lib.hid (sameE_any _ _ W7 (hatD.g hg7) BK7.out.ea)
      rw [hsame] at HSD
      unfold ev at HSD
      simp only at HSD
      have HW7 := Lib.hid hW7
      have HB7 := Lib.hid hb7
      clear HQ hout hatD hg6 hg7 hsame hnd hW7 hb7 BK5 BK6 RX5 RX6 RY5 RY6
      go_upto_region 11 with fail
      rw [← HW7.out]
      obtain ⟨d0, d1, d2, d3, d4⟩ := cells5 HB7.out
      obtain ⟨a0, a1, a2, a3, a4⟩ := cells5 BK7.out.a
      go_wp2_with fail
      refine HSD.out.mono ?_
      rintro e w8 ⟨rfl, hg8⟩
      have BK8 := Lib.hid (BK7.out.next hg8)
      have RX8 := Lib.hid (RX7.out.g hg8)
      have RY8 := Lib.hid (RY7.out.g hg8)
      clear hg8 BK7 RX7 RY7 d0 d1 d2 d3 d4 a0 a1 a2 a3 a4 HSD HB7 HW7
      by_cases hcb0 : cb = 0
      · obtain ⟨sq, hsq⟩ : ∃ q, q = sameE ⟨fa, ta, la, ma, .slice pa na qa, psa⟩ ⟨fb, tb, lb, mb, .slice pb nb qb, psb⟩ := ⟨_, rfl⟩
        have hsx : ∀ X, G w8 X → Calls Try.prog 18 #[.slice xp xn xc, .slice yp yn yc] X fun e w' => e = .returned (.bool sq) ∧ G X w' := fun X hX => by
          rw [hsq, ← same_put HCA.out.symm (HCB.out.symm.trans hcb0)]
          exact sameB_any _ _ _ _ X (by have := RX8.out.g hX; rwa [HXN.out] at this ⊢) (by have := RY8.out.g hX; rwa [HYN.out] at this ⊢) (by have := putE_len HCA.out.symm; omega) (by have := putE_len (HCB.out.symm.trans hcb0); omega)
        have hse : ∀ X, G w8 X → Calls Try.prog 13 #[.agg #[.string fa, .string ta, .string la, .int .i64 ma, .slice pa na qa], .agg #[.string fb, .string tb, .string lb, .int .i64 mb, .slice pb nb qb]] X fun e w' => e = .returned (.bool sq) ∧ G X w' := fun X hX => by
          rw [hsq]
          exact sameE_any _ _ X (BK8.out.ea.g hX) (BK8.out.eb.g hX)
        have HSX := Lib.hid hsx
        have HSE := Lib.hid hse
        have hqq : (sq != sq) = false := bool_ne sq
        clear hsq hsx hse
        subst hcb0
        go_upto_region 13 with fail
        obtain ⟨WD, hWD⟩ : ∃ WD : World, WD = w8.drew := ⟨_, rfl⟩
        have hsD : G w8 WD := by rw [hWD]; exact (G.refl w8).drew
        refine region_hlW (fun w' => G w8 w') 99 15 (by kernel_rfl) rfl ?_
        intro Q0 HQ0
        simp only [List.replicate_succ, List.replicate_zero]
        rw [← hWD]
        clear hWD
        obtain ⟨a0, a1, a2, a3, a4⟩ := cells5 BK8.out.a
        obtain ⟨b0, b1, b2, b3, b4⟩ := cells5 BK8.out.b
        refine hl_take_np 0 (by kernel_rfl) (by kernel_rfl) rfl (by kernel_rfl) hsD (v := ?_) ?_ ?_
        rotate_left
        · (rintro x hx; have k0 := hx.cell a0; have k1 := hx.cell a1; have k2 := hx.cell a2; have k3 := hx.cell a3; have k4 := hx.cell a4; have j0 := hx.cell b0; have j1 := hx.cell b1; have j2 := hx.cell b2; have j3 := hx.cell b3; have j4 := hx.cell b4; clear hx; go_simp; try rfl)
        simp only [Act.put, List.setIfInBounds_toArray, List.set_cons_zero, List.set_cons_succ]
        refine hl_take_np 1 (by kernel_rfl) (by kernel_rfl) rfl (by kernel_rfl) hsD (v := ?_) ?_ ?_
        rotate_left
        · (rintro x hx; have k0 := hx.cell a0; have k1 := hx.cell a1; have k2 := hx.cell a2; have k3 := hx.cell a3; have k4 := hx.cell a4; have j0 := hx.cell b0; have j1 := hx.cell b1; have j2 := hx.cell b2; have j3 := hx.cell b3; have j4 := hx.cell b4; clear hx; go_simp; try rfl)
        simp only [Act.put, List.setIfInBounds_toArray, List.set_cons_zero, List.set_cons_succ]
        refine hl_take_np 2 (by kernel_rfl) (by kernel_rfl) rfl (by kernel_rfl) hsD (v := ?_) ?_ ?_
        rotate_left
        · (rintro x hx; have k0 := hx.cell a0; have k1 := hx.cell a1; have k2 := hx.cell a2; have k3 := hx.cell a3; have k4 := hx.cell a4; have j0 := hx.cell b0; have j1 := hx.cell b1; have j2 := hx.cell b2; have j3 := hx.cell b3; have j4 := hx.cell b4; clear hx; go_simp; try rfl)
        simp only [Act.put, List.setIfInBounds_toArray, List.set_cons_zero, List.set_cons_succ]
        refine hl_take_np 3 (by kernel_rfl) (by kernel_rfl) rfl (by kernel_rfl) hsD (v := ?_) ?_ ?_
        rotate_left
        · (rintro x hx; have k0 := hx.cell a0; have k1 := hx.cell a1; have k2 := hx.cell a2; have k3 := hx.cell a3; have k4 := hx.cell a4; have j0 := hx.cell b0; have j1 := hx.cell b1; have j2 := hx.cell b2; have j3 := hx.cell b3; have j4 := hx.cell b4; clear hx; go_simp; try rfl)
        simp only [Act.put, List.setIfInBounds_toArray, List.set_cons_zero, List.set_cons_succ]
        refine hl_take_np 4 (by kernel_rfl) (by kernel_rfl) rfl (by kernel_rfl) hsD (v := ?_) ?_ ?_
        rotate_left
        · (rintro x hx; have k0 := hx.cell a0; have k1 := hx.cell a1; have k2 := hx.cell a2; have k3 := hx.cell a3; have k4 := hx.cell a4; have j0 := hx.cell b0; have j1 := hx.cell b1; have j2 := hx.cell b2; have j3 := hx.cell b3; have j4 := hx.cell b4; clear hx; go_simp; try rfl)
        simp only [Act.put, List.setIfInBounds_toArray, List.set_cons_zero, List.set_cons_succ]
        refine hl_take_np 5 (by kernel_rfl) (by kernel_rfl) rfl (by kernel_rfl) hsD (v := ?_) ?_ ?_
        rotate_left
        · (rintro x hx; have k0 := hx.cell a0; have k1 := hx.cell a1; have k2 := hx.cell a2; have k3 := hx.cell a3; have k4 := hx.cell a4; have j0 := hx.cell b0; have j1 := hx.cell b1; have j2 := hx.cell b2; have j3 := hx.cell b3; have j4 := hx.cell b4; clear hx; go_simp; try rfl)
        simp only [Act.put, List.setIfInBounds_toArray, List.set_cons_zero, List.set_cons_succ]
        refine hl_take_np 6 (by kernel_rfl) (by kernel_rfl) rfl (by kernel_rfl) hsD (v := ?_) ?_ ?_
        rotate_left
        · (rintro x hx; have k0 := hx.cell a0; have k1 := hx.cell a1; have k2 := hx.cell a2; have k3 := hx.cell a3; have k4 := hx.cell a4; have j0 := hx.cell b0; have j1 := hx.cell b1; have j2 := hx.cell b2; have j3 := hx.cell b3; have j4 := hx.cell b4; clear hx; go_simp; try rfl)
        simp only [Act.put, List.setIfInBounds_toArray, List.set_cons_zero, List.set_cons_succ]
        refine hl_take_np 7 (by kernel_rfl) (by kernel_rfl) rfl (by kernel_rfl) hsD (v := ?_) ?_ ?_
        rotate_left
        · (rintro x hx; have k0 := hx.cell a0; have k1 := hx.cell a1; have k2 := hx.cell a2; have k3 := hx.cell a3; have k4 := hx.cell a4; have j0 := hx.cell b0; have j1 := hx.cell b1; have j2 := hx.cell b2; have j3 := hx.cell b3; have j4 := hx.cell b4; clear hx; go_simp; try rfl)
        simp only [Act.put, List.setIfInBounds_toArray, List.set_cons_zero, List.set_cons_succ]
        refine hl_take_np 8 (by kernel_rfl) (by kernel_rfl) rfl (by kernel_rfl) hsD (v := ?_) ?_ ?_
        rotate_left
        · (rintro x hx; have k0 := hx.cell a0; have k1 := hx.cell a1; have k2 := hx.cell a2; have k3 := hx.cell a3; have k4 := hx.cell a4; have j0 := hx.cell b0; have j1 := hx.cell b1; have j2 := hx.cell b2; have j3 := hx.cell b3; have j4 := hx.cell b4; clear hx; go_simp; try rfl)
        simp only [Act.put, List.setIfInBounds_toArray, List.set_cons_zero, List.set_cons_succ]
        refine hl_take_np 10 (by kernel_rfl) (by kernel_rfl) rfl (by kernel_rfl) hsD (v := ?_) ?_ ?_
        rotate_left
        · (rintro x hx; have k0 := hx.cell a0; have k1 := hx.cell a1; have k2 := hx.cell a2; have k3 := hx.cell a3; have k4 := hx.cell a4; have j0 := hx.cell b0; have j1 := hx.cell b1; have j2 := hx.cell b2; have j3 := hx.cell b3; have j4 := hx.cell b4; clear hx; go_simp; try rfl)
        simp only [Act.put, List.setIfInBounds_toArray, List.set_cons_zero, List.set_cons_succ]
        refine hl_take_np 11 (by kernel_rfl) (by kernel_rfl) rfl (by kernel_rfl) hsD (v := ?_) ?_ ?_
        rotate_left
        · (rintro x hx; have k0 := hx.cell a0; have k1 := hx.cell a1; have k2 := hx.cell a2; have k3 := hx.cell a3; have k4 := hx.cell a4; have j0 := hx.cell b0; have j1 := hx.cell b1; have j2 := hx.cell b2; have j3 := hx.cell b3; have j4 := hx.cell b4; clear hx; go_simp; try rfl)
        simp only [Act.put, List.setIfInBounds_toArray, List.set_cons_zero, List.set_cons_succ]
        refine hl_stepW 9 (by kernel_rfl) rfl (by kernel_rfl) ?_
        intro K hK
        go_simp
        refine (HSX.out WD hsD).mono ?_
        rintro e W9 ⟨rfl, hgx⟩
        have hs9 : G w8 W9 := hsD.trans hgx
        refine hK _ _ (fun _ => hs9) ?_
        clear hK K hgx
        simp only [Act.put, List.setIfInBounds_toArray, List.set_cons_zero, List.set_cons_succ]
        refine hl_stepW 12 (by kernel_rfl) rfl (by kernel_rfl) ?_
        intro K hK
        go_simp
        refine (HSE.out W9 hs9).mono ?_
        rintro e WE ⟨rfl, hgx⟩
        have hsE : G w8 WE := hs9.trans hgx
        refine hK _ _ (fun _ => hsE) ?_
        clear hK K hgx
        simp only [Act.put, List.setIfInBounds_toArray, List.set_cons_zero, List.set_cons_succ]
        refine hl_take_np 13 (by kernel_rfl) (by kernel_rfl) rfl (by kernel_rfl) hsE (v := ?_) ?_ ?_
        rotate_left
        · (rintro x hx; clear hx; go_simp; try rfl)
        simp only [Act.put, List.setIfInBounds_toArray, List.set_cons_zero, List.set_cons_succ]
        refine hl_take_np 14 (by kernel_rfl) (by kernel_rfl) rfl (by kernel_rfl) hsE (v := ?_) ?_ ?_
        rotate_left
        · (rintro x hx; clear hx; go_simp; try rfl)
        simp only [Act.put, List.setIfInBounds_toArray, List.set_cons_zero, List.set_cons_succ]
        refine hl_done (by kernel_rfl) ?_ _
        refine NoPanic.normal (HQ0.out _ _ ?_)
        clear HQ0
        have BKD := Lib.hid (BK8.out.next hsE)
        clear hs9 hsD hsE BK8 RX8 RY8 HSX HSE hqq a0 a1 a2 a3 a4 b0 b1 b2 b3 b4
        have HQ0 := Lib.hid (parse_any p c l WE (by have := BKD.out.r; rw [HN.out] at this; exact this) (by rw [← HN.out]; exact hc) hc2)
        rw [← HN.out] at HQ0
        go_wp2_with fail
        refine HQ0.out.mono ?_
        rintro e v1 ⟨E, rfl, hout, hatE, hgv⟩
        have BV1 := Lib.hid (BKD.out.next hgv)
        obtain ⟨fe, te, le, me, ve, pse⟩ := E
        obtain ⟨-, pe, qe, hve, -⟩ := id hatE.rdr
        simp only at hve
        obtain ⟨ne, hne⟩ : ∃ k, k = pse.length := ⟨_, rfl⟩
        rw [← hne] at hve
        subst hve
        unfold ev
        simp only
        obtain ⟨V2, hV2⟩ : ∃ X : World, X = v1.alloc (.cells #[.string fe, .string te, .string le, .int .i64 me, .slice pe ne qe] 27) := ⟨_, rfl⟩
        have hgV : G v1 V2 := by rw [hV2]; exact (G.refl v1).alloc _
        have hbV := alloc_new v1 (.cells #[.string fe, .string te, .string le, .int .i64 me, .slice pe ne qe] 27)
        rw [← hV2] at hbV
        have BV2 := Lib.hid (BV1.out.next hgV)
        have HATV := Lib.hid (hatE.g hgV)
        have HOUT := Lib.hid hout
        have HV2 := Lib.hid hV2
        have HBV := Lib.hid hbV
        obtain ⟨k, hk⟩ : ∃ k, k = errP l := ⟨_, rfl⟩
        rw [← hk]
        have HKK := Lib.hid hk
        clear HQ0 hout hatE hgv hne hV2 hgV hbV BV1 hk BKD
        go_upto_region 16 with fail
        rw [← HV2.out]
        obtain ⟨d0, d1, d2, d3, d4⟩ := cells5 HBV.out
        rcases err_two l with hk0 | ⟨hk4, hko⟩
        · have hk0 := HKK.out.trans hk0
          obtain ⟨hce, hpe⟩ := back_ok (HKK.out.symm.trans hk0) HOUT.out
          subst hk0
          have HP := Lib.hid (put_any _ V2 HATV.out)
          unfold ev at HP
          simp only at HP
          rw [hce, hpe, ← HN.out] at HP
          clear hce hpe
          go_wp2_with fail
          refine HP.out.mono ?_
          rintro e v3 ⟨z, rfl, hz, hgz⟩
          obtain ⟨zp, zc, rfl, -, -⟩ := own_slice hz
          have HSB := Lib.hid (sameB_any l l _ _ v3 (by have := rdr_of_owns hz; rwa [HN.out] at this) (by have := (BV2.out.next hgz).r; exact this) (by rw [← HN.out]; omega) (by rw [← HN.out]; omega))
          have hdec : decide (l = l) = true := by simp
          rw [hdec] at HSB
          have BV3 := Lib.hid (BV2.out.next hgz)
          have hll := HN.out
          rw [← hll] at HSB
          clear HP hz hgz d0 d1 d2 d3 d4 BV2 hll hdec
          go_wp2_with fail
          refine HSB.out.mono ?_
          rintro e v4 ⟨rfl, hg9⟩
          go_wp2_with fail
          go_ret
          exact ⟨rfl, (BV3.out.next hg9).g⟩
        · have hk4 := HKK.out.trans hk4
          subst hk4
          have HS := Lib.hid (sameE_any _ zeroE V2 HATV.out (zeroE_at V2))
          rw [show sameE ⟨fe, te, le, me, .slice pe ne qe, pse⟩ zeroE = true from same_of_out (HOUT.out.trans hko)] at HS
          unfold ev at HS
          simp only [zeroE] at HS
          clear hko
          go_wp2_with fail
          refine HS.out.mono ?_
          rintro e v3 ⟨rfl, hg9⟩
          go_wp2_with fail
          go_ret
          exact ⟨rfl, (BV2.out.next hg9).g⟩
      · have hcn : (cb == 0) = false := by simpa using hcb0
        clear hcb0
        go_upto_region 13 with fail
        obtain ⟨WD, hWD⟩ : ∃ WD : World, WD = w8.drew := ⟨_, rfl⟩
        have hsD : G w8 WD := by rw [hWD]; exact (G.refl w8).drew
        refine region_hlW (fun w' => G w8 w') 99 15 (by kernel_rfl) rfl ?_
        intro Q0 HQ0
        simp only [List.replicate_succ, List.replicate_zero]
        rw [← hWD]
        clear hWD
        refine hl_take_np 0 (by kernel_rfl) (by kernel_rfl) rfl (by kernel_rfl) hsD (v := ?_) ?_ ?_
        rotate_left
        · (rintro x hx; clear hx; go_simp; try rfl)
        simp only [Act.put, List.setIfInBounds_toArray, List.set_cons_zero, List.set_cons_succ]
        refine hl_take_np 1 (by kernel_rfl) (by kernel_rfl) rfl (by kernel_rfl) hsD (v := ?_) ?_ ?_
        rotate_left
        · (rintro x hx; clear hx; go_simp; try rfl)
        simp only [Act.put, List.setIfInBounds_toArray, List.set_cons_zero, List.set_cons_succ]
        refine hl_take_np 2 (by kernel_rfl) (by kernel_rfl) rfl (by kernel_rfl) hsD (v := ?_) ?_ ?_
        rotate_left
        · (rintro x hx; clear hx; go_simp; try rfl)
        simp only [Act.put, List.setIfInBounds_toArray, List.set_cons_zero, List.set_cons_succ]
        refine hl_take_np 3 (by kernel_rfl) (by kernel_rfl) rfl (by kernel_rfl) hsD (v := ?_) ?_ ?_
        rotate_left
        · (rintro x hx; clear hx; go_simp; try rfl)
        simp only [Act.put, List.setIfInBounds_toArray, List.set_cons_zero, List.set_cons_succ]
        refine hl_take_np 4 (by kernel_rfl) (by kernel_rfl) rfl (by kernel_rfl) hsD (v := ?_) ?_ ?_
        rotate_left
        · (rintro x hx; clear hx; go_simp; try rfl)
        simp only [Act.put, List.setIfInBounds_toArray, List.set_cons_zero, List.set_cons_succ]
        refine hl_take_np 5 (by kernel_rfl) (by kernel_rfl) rfl (by kernel_rfl) hsD (v := ?_) ?_ ?_
        rotate_left
        · (rintro x hx; clear hx; go_simp; try rfl)
        simp only [Act.put, List.setIfInBounds_toArray, List.set_cons_zero, List.set_cons_succ]
        refine hl_take_np 6 (by kernel_rfl) (by kernel_rfl) rfl (by kernel_rfl) hsD (v := ?_) ?_ ?_
        rotate_left
        · (rintro x hx; clear hx; go_simp; try rfl)
        simp only [Act.put, List.setIfInBounds_toArray, List.set_cons_zero, List.set_cons_succ]
        refine hl_skip_np 7 (by kernel_rfl) (by kernel_rfl) rfl (by kernel_rfl) hsD ?_
        simp only [Act.put, List.setIfInBounds_toArray, List.set_cons_zero, List.set_cons_succ]
        refine hl_skip_np 8 (by kernel_rfl) (by kernel_rfl) rfl (by kernel_rfl) hsD ?_
        simp only [Act.put, List.setIfInBounds_toArray, List.set_cons_zero, List.set_cons_succ]
        refine hl_skip_np 10 (by kernel_rfl) (by kernel_rfl) rfl (by kernel_rfl) hsD ?_
        simp only [Act.put, List.setIfInBounds_toArray, List.set_cons_zero, List.set_cons_succ]
        refine hl_skip_np 11 (by kernel_rfl) (by kernel_rfl) rfl (by kernel_rfl) hsD ?_
        simp only [Act.put, List.setIfInBounds_toArray, List.set_cons_zero, List.set_cons_succ]
        refine hl_skip_np 9 (by kernel_rfl) (by kernel_rfl) rfl (by kernel_rfl) hsD ?_
        simp only [Act.put, List.setIfInBounds_toArray, List.set_cons_zero, List.set_cons_succ]
        refine hl_skip_np 12 (by kernel_rfl) (by kernel_rfl) rfl (by kernel_rfl) hsD ?_
        simp only [Act.put, List.setIfInBounds_toArray, List.set_cons_zero, List.set_cons_succ]
        refine hl_skip_np 13 (by kernel_rfl) (by kernel_rfl) rfl (by kernel_rfl) hsD ?_
        simp only [Act.put, List.setIfInBounds_toArray, List.set_cons_zero, List.set_cons_succ]
        refine hl_take_np 14 (by kernel_rfl) (by kernel_rfl) rfl (by kernel_rfl) hsD (v := ?_) ?_ ?_
        rotate_left
        · (rintro x hx; clear hx; go_simp; try rfl)
        simp only [Act.put, List.setIfInBounds_toArray, List.set_cons_zero, List.set_cons_succ]
        refine hl_done (by kernel_rfl) ?_ _
        refine NoPanic.normal (HQ0.out _ _ ?_)
        clear HQ0
        have BKD := Lib.hid (BK8.out.next hsD)
        clear hsD BK8 RX8 RY8
        have HQ0 := Lib.hid (parse_any p c l WD (by have := BKD.out.r; rw [HN.out] at this; exact this) (by rw [← HN.out]; exact hc) hc2)
        rw [← HN.out] at HQ0
        go_wp2_with fail
        refine HQ0.out.mono ?_
        rintro e v1 ⟨E, rfl, hout, hatE, hgv⟩
        have BV1 := Lib.hid (BKD.out.next hgv)
        obtain ⟨fe, te, le, me, ve, pse⟩ := E
        obtain ⟨-, pe, qe, hve, -⟩ := id hatE.rdr
        simp only at hve
        obtain ⟨ne, hne⟩ : ∃ k, k = pse.length := ⟨_, rfl⟩
        rw [← hne] at hve
        subst hve
        unfold ev
        simp only
        obtain ⟨V2, hV2⟩ : ∃ X : World, X = v1.alloc (.cells #[.string fe, .string te, .string le, .int .i64 me, .slice pe ne qe] 27) := ⟨_, rfl⟩
        have hgV : G v1 V2 := by rw [hV2]; exact (G.refl v1).alloc _
        have hbV := alloc_new v1 (.cells #[.string fe, .string te, .string le, .int .i64 me, .slice pe ne qe] 27)
        rw [← hV2] at hbV
        have BV2 := Lib.hid (BV1.out.next hgV)
        have HATV := Lib.hid (hatE.g hgV)
        have HOUT := Lib.hid hout
        have HV2 := Lib.hid hV2
        have HBV := Lib.hid hbV
        obtain ⟨k, hk⟩ : ∃ k, k = errP l := ⟨_, rfl⟩
        rw [← hk]
        have HKK := Lib.hid hk
        clear HQ0 hout hatE hgv hne hV2 hgV hbV BV1 hk BKD
        go_upto_region 16 with fail
        rw [← HV2.out]
        obtain ⟨d0, d1, d2, d3, d4⟩ := cells5 HBV.out
        rcases err_two l with hk0 | ⟨hk4, hko⟩
        · have hk0 := HKK.out.trans hk0
          obtain ⟨hce, hpe⟩ := back_ok (HKK.out.symm.trans hk0) HOUT.out
          subst hk0
          have HP := Lib.hid (put_any _ V2 HATV.out)
          unfold ev at HP
          simp only at HP
          rw [hce, hpe, ← HN.out] at HP
          clear hce hpe
          go_wp2_with fail
          refine HP.out.mono ?_
          rintro e v3 ⟨z, rfl, hz, hgz⟩
          obtain ⟨zp, zc, rfl, -, -⟩ := own_slice hz
          have HSB := Lib.hid (sameB_any l l _ _ v3 (by have := rdr_of_owns hz; rwa [HN.out] at this) (by have := (BV2.out.next hgz).r; exact this) (by rw [← HN.out]; omega) (by rw [← HN.out]; omega))
          have hdec : decide (l = l) = true := by simp
          rw [hdec] at HSB
          have BV3 := Lib.hid (BV2.out.next hgz)
          have hll := HN.out
          rw [← hll] at HSB
          clear HP hz hgz d0 d1 d2 d3 d4 BV2 hll hdec
          go_wp2_with fail
          refine HSB.out.mono ?_
          rintro e v4 ⟨rfl, hg9⟩
          go_wp2_with fail
          go_ret
          exact ⟨rfl, (BV3.out.next hg9).g⟩
        · have hk4 := HKK.out.trans hk4
          subst hk4
          have HS := Lib.hid (sameE_any _ zeroE V2 HATV.out (zeroE_at V2))
          rw [show sameE ⟨fe, te, le, me, .slice pe ne qe, pse⟩ zeroE = true from same_of_out (HOUT.out.trans hko)] at HS
          unfold ev at HS
          simp only [zeroE] at HS
          clear hko
          go_wp2_with fail
          refine HS.out.mono ?_
          rintro e v3 ⟨rfl, hg9⟩
          go_wp2_with fail
          go_ret
          exact ⟨rfl, (BV2.out.next hg9).g⟩
    · have hcn : (ca == 0) = false := by simpa using hca0
      clear hca0
      go_upto_region 13 with fail
      obtain ⟨WD, hWD⟩ : ∃ WD : World, WD = w5.drew := ⟨_, rfl⟩
      have hsD : G w5 WD := by rw [hWD]; exact (G.refl w5).drew
      refine region_hlW (fun w' => G w5 w') 99 15 (by kernel_rfl) rfl ?_
      intro Q0 HQ0
      simp only [List.replicate_succ, List.replicate_zero]
      rw [← hWD]
      clear hWD
      refine hl_take_np 0 (by kernel_rfl) (by kernel_rfl) rfl (by kernel_rfl) hsD (v := ?_) ?_ ?_
      rotate_left
      · (rintro x hx; clear hx; go_simp; try rfl)
      simp only [Act.put, List.setIfInBounds_toArray, List.set_cons_zero, List.set_cons_succ]
      refine hl_take_np 1 (by kernel_rfl) (by kernel_rfl) rfl (by kernel_rfl) hsD (v := ?_) ?_ ?_
      rotate_left
      · (rintro x hx; clear hx; go_simp; try rfl)
      simp only [Act.put, List.setIfInBounds_toArray, List.set_cons_zero, List.set_cons_succ]
      refine hl_take_np 2 (by kernel_rfl) (by kernel_rfl) rfl (by kernel_rfl) hsD (v := ?_) ?_ ?_
      rotate_left
      · (rintro x hx; clear hx; go_simp; try rfl)
      simp only [Act.put, List.setIfInBounds_toArray, List.set_cons_zero, List.set_cons_succ]
      refine hl_skip_np 3 (by kernel_rfl) (by kernel_rfl) rfl (by kernel_rfl) hsD ?_
      simp only [Act.put, List.setIfInBounds_toArray, List.set_cons_zero, List.set_cons_succ]
      refine hl_skip_np 4 (by kernel_rfl) (by kernel_rfl) rfl (by kernel_rfl) hsD ?_
      simp only [Act.put, List.setIfInBounds_toArray, List.set_cons_zero, List.set_cons_succ]
      refine hl_take_np 5 (by kernel_rfl) (by kernel_rfl) rfl (by kernel_rfl) hsD (v := ?_) ?_ ?_
      rotate_left
      · (rintro x hx; clear hx; go_simp; try rfl)
      simp only [Act.put, List.setIfInBounds_toArray, List.set_cons_zero, List.set_cons_succ]
      refine hl_take_np 6 (by kernel_rfl) (by kernel_rfl) rfl (by kernel_rfl) hsD (v := ?_) ?_ ?_
      rotate_left
      · (rintro x hx; clear hx; go_simp; try rfl)
      simp only [Act.put, List.setIfInBounds_toArray, List.set_cons_zero, List.set_cons_succ]
      refine hl_skip_np 7 (by kernel_rfl) (by kernel_rfl) rfl (by kernel_rfl) hsD ?_
      simp only [Act.put, List.setIfInBounds_toArray, List.set_cons_zero, List.set_cons_succ]
      refine hl_skip_np 8 (by kernel_rfl) (by kernel_rfl) rfl (by kernel_rfl) hsD ?_
      simp only [Act.put, List.setIfInBounds_toArray, List.set_cons_zero, List.set_cons_succ]
      refine hl_skip_np 10 (by kernel_rfl) (by kernel_rfl) rfl (by kernel_rfl) hsD ?_
      simp only [Act.put, List.setIfInBounds_toArray, List.set_cons_zero, List.set_cons_succ]
      refine hl_skip_np 11 (by kernel_rfl) (by kernel_rfl) rfl (by kernel_rfl) hsD ?_
      simp only [Act.put, List.setIfInBounds_toArray, List.set_cons_zero, List.set_cons_succ]
      refine hl_skip_np 9 (by kernel_rfl) (by kernel_rfl) rfl (by kernel_rfl) hsD ?_
      simp only [Act.put, List.setIfInBounds_toArray, List.set_cons_zero, List.set_cons_succ]
      refine hl_skip_np 12 (by kernel_rfl) (by kernel_rfl) rfl (by kernel_rfl) hsD ?_
      simp only [Act.put, List.setIfInBounds_toArray, List.set_cons_zero, List.set_cons_succ]
      refine hl_skip_np 13 (by kernel_rfl) (by kernel_rfl) rfl (by kernel_rfl) hsD ?_
      simp only [Act.put, List.setIfInBounds_toArray, List.set_cons_zero, List.set_cons_succ]
      refine hl_take_np 14 (by kernel_rfl) (by kernel_rfl) rfl (by kernel_rfl) hsD (v := ?_) ?_ ?_
      rotate_left
      · (rintro x hx; clear hx; go_simp; try rfl)
      simp only [Act.put, List.setIfInBounds_toArray, List.set_cons_zero, List.set_cons_succ]
      refine hl_done (by kernel_rfl) ?_ _
      refine NoPanic.normal (HQ0.out _ _ ?_)
      clear HQ0
      have BKD := Lib.hid (BK5.out.next hsD)
      clear hsD BK5 RX5 RY5
      have HQ0 := Lib.hid (parse_any p c l WD (by have := BKD.out.r; rw [HN.out] at this; exact this) (by rw [← HN.out]; exact hc) hc2)
      rw [← HN.out] at HQ0
      go_wp2_with fail
      refine HQ0.out.mono ?_
      rintro e v1 ⟨E, rfl, hout, hatE, hgv⟩
      have BV1 := Lib.hid (BKD.out.next hgv)
      obtain ⟨fe, te, le, me, ve, pse⟩ := E
      obtain ⟨-, pe, qe, hve, -⟩ := id hatE.rdr
      simp only at hve
      obtain ⟨ne, hne⟩ : ∃ k, k = pse.length := ⟨_, rfl⟩
      rw [← hne] at hve
      subst hve
      unfold ev
      simp only
      obtain ⟨V2, hV2⟩ : ∃ X : World, X = v1.alloc (.cells #[.string fe, .string te, .string le, .int .i64 me, .slice pe ne qe] 27) := ⟨_, rfl⟩
      have hgV : G v1 V2 := by rw [hV2]; exact (G.refl v1).alloc _
      have hbV := alloc_new v1 (.cells #[.string fe, .string te, .string le, .int .i64 me, .slice pe ne qe] 27)
      rw [← hV2] at hbV
      have BV2 := Lib.hid (BV1.out.next hgV)
      have HATV := Lib.hid (hatE.g hgV)
      have HOUT := Lib.hid hout
      have HV2 := Lib.hid hV2
      have HBV := Lib.hid hbV
      obtain ⟨k, hk⟩ : ∃ k, k = errP l := ⟨_, rfl⟩
      rw [← hk]
      have HKK := Lib.hid hk
      clear HQ0 hout hatE hgv hne hV2 hgV hbV BV1 hk BKD
      go_upto_region 16 with fail
      rw [← HV2.out]
      obtain ⟨d0, d1, d2, d3, d4⟩ := cells5 HBV.out
      rcases err_two l with hk0 | ⟨hk4, hko⟩
      · have hk0 := HKK.out.trans hk0
        obtain ⟨hce, hpe⟩ := back_ok (HKK.out.symm.trans hk0) HOUT.out
        subst hk0
        have HP := Lib.hid (put_any _ V2 HATV.out)
        unfold ev at HP
        simp only at HP
        rw [hce, hpe, ← HN.out] at HP
        clear hce hpe
        go_wp2_with fail
        refine HP.out.mono ?_
        rintro e v3 ⟨z, rfl, hz, hgz⟩
        obtain ⟨zp, zc, rfl, -, -⟩ := own_slice hz
        have HSB := Lib.hid (sameB_any l l _ _ v3 (by have := rdr_of_owns hz; rwa [HN.out] at this) (by have := (BV2.out.next hgz).r; exact this) (by rw [← HN.out]; omega) (by rw [← HN.out]; omega))
        have hdec : decide (l = l) = true := by simp
        rw [hdec] at HSB
        have BV3 := Lib.hid (BV2.out.next hgz)
        have hll := HN.out
        rw [← hll] at HSB
        clear HP hz hgz d0 d1 d2 d3 d4 BV2 hll hdec
        go_wp2_with fail
        refine HSB.out.mono ?_
        rintro e v4 ⟨rfl, hg9⟩
        go_wp2_with fail
        go_ret
        exact ⟨rfl, (BV3.out.next hg9).g⟩
      · have hk4 := HKK.out.trans hk4
        subst hk4
        have HS := Lib.hid (sameE_any _ zeroE V2 HATV.out (zeroE_at V2))
        rw [show sameE ⟨fe, te, le, me, .slice pe ne qe, pse⟩ zeroE = true from same_of_out (HOUT.out.trans hko)] at HS
        unfold ev at HS
        simp only [zeroE] at HS
        clear hko
        go_wp2_with fail
        refine HS.out.mono ?_
        rintro e v3 ⟨rfl, hg9⟩
        go_wp2_with fail
        go_ret
        exact ⟨rfl, (BV2.out.next hg9).g⟩
end Go.Proofs.Ytfdajignnnhnmaa
