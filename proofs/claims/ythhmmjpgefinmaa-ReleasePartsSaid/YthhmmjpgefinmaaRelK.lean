/- alike -/
import Derived.Test.YthhmmjpgefinmaaRelU
set_option maxRecDepth 10000
namespace Go.Proofs.Ythhmmjpgefinmaa
set_option linter.unusedVariables false
set_option linter.unusedSimpArgs false
open Go.RowKit Go.Shelf
attribute [local go_sem] Oper.semAt_some

theorem sameE_yesK {A B : Edg} (h : outE A = outE B) : sameE A B = true := by
  have h1 : A.f = B.f := congrArg (fun o : Out => o.1) h
  have h2 : A.t = B.t := congrArg (fun o : Out => o.2.1) h
  have h3 : A.l = B.l := congrArg (fun o : Out => o.2.2.1) h
  have h4 : A.tm = B.tm := congrArg (fun o : Out => o.2.2.2.1) h
  have h5 : A.ps = B.ps := congrArg (fun o : Out => o.2.2.2.2) h
  unfold sameE
  simp [h1, h2, h3, h4, h5]
set_option maxHeartbeats 8000000 in
theorem alike_any (A B : List EV) (va vb : Value) (w : World) (ha : Rdr w 8 va A.length (vcs A)) (hb : Rdr w 8 vb B.length (vcs B)) (hEa : ∀ x ∈ A, EdgAt w x.e.1) (hEb : ∀ x ∈ B, EdgAt w x.e.1) (h : A.map outV = B.map outV) (hn : A.length ≤ 100000) :
    Calls Try.prog 17 #[va, vb] w fun e w' => e = .returned (.bool true) ∧ G w w' := by
  have hl : A.length = B.length := by have := congrArg List.length h; simpa using this
  obtain ⟨-, pa, ca, rfl, -⟩ := id ha
  obtain ⟨-, pb, cb, rfl, -⟩ := id hb
  rw [← hl] at hb ⊢
  obtain ⟨n, hnn⟩ : ∃ n, n = A.length := ⟨_, rfl⟩
  have HNB : Hid (n = B.length) := Lib.hid (by omega)
  rw [← hnn] at ha hb hn ⊢
  have HN := Lib.hid hnn
  have HA := Lib.hid ha
  have HB := Lib.hid hb
  have HEA := Lib.hid hEa
  have HEB := Lib.hid hEb
  have HH := Lib.hid h
  clear hl hnn ha hb hEa hEb h
  go_enter Try.func17, Try.ntmps17
  go_wp2_with fail
  go_loopw [5] (fun iv wr => ∃ i : Nat, iv = .int .i64 i ∧ i ≤ n ∧ Hid (G w wr)) (fun iv _ => n - (intOf iv).toNat)
  case atStart => exact ⟨0, rfl, by omega, Lib.hid (G.refl _)⟩
  case round =>
    obtain ⟨i, rfl, hi, HG⟩ := hrel
    by_cases hlt : i < n
    · have hiI : (i : Int) < (n : Int) := by omega
      have hi0 : (0 : Int) ≤ (i : Int) := by omega
      obtain ⟨x, hx⟩ : ∃ x, A[i]? = some x := ⟨A[i]'(by have := HN.out; omega), List.getElem?_eq_getElem _⟩
      obtain ⟨y, hy⟩ : ∃ y, B[i]? = some y := ⟨B[i]'(by have := HNB.out; omega), List.getElem?_eq_getElem _⟩
      have hxy : outV x = outV y := by
        have h1 : (A.map outV)[i]? = some (outV x) := by rw [List.getElem?_map, hx]; rfl
        have h2 : (B.map outV)[i]? = some (outV y) := by rw [List.getElem?_map, hy]; rfl
        rw [HH.out, h2] at h1
        exact (Option.some.inj h1).symm
      obtain ⟨ba, oa, rfl, c0, c1, c2, c3, c4, c5, c6, c7⟩ := cellsAt8 (HA.out.g HG.out) HN.out hx
      obtain ⟨bb, ob, rfl, d0, d1, d2, d3, d4, d5, d6, d7⟩ := cellsAt8 (HB.out.g HG.out) HNB.out hy
      have HXA := Lib.hid ((HEA.out x (List.mem_of_getElem? hx)).g HG.out)
      have HYA := Lib.hid ((HEB.out y (List.mem_of_getElem? hy)).g HG.out)
      clear hx hy
      obtain ⟨xc, ⟨⟨xf, xt, xl, xm, xv, xps⟩, px, nx, cx, hv⟩, xq, xa⟩ := x
      simp only at hv
      subst hv
      obtain ⟨yc, ⟨⟨yf, yt, yl, ym, yv, yps⟩, py, ny, cy, hv⟩, yq, ya⟩ := y
      simp only at hv
      subst hv
      obtain rfl : xc = yc := congrArg (fun z : PEv => z.1) hxy
      obtain rfl : xq = yq := congrArg (fun z : PEv => z.2.2.1) hxy
      obtain rfl : xa = ya := congrArg (fun z : PEv => z.2.2.2) hxy
      have hxo : outE ⟨xf, xt, xl, xm, .slice px nx cx, xps⟩ = outE ⟨yf, yt, yl, ym, .slice py ny cy, yps⟩ := congrArg (fun z : PEv => z.2.1) hxy
      simp only at c0 c1 c2 c3 c4 c5 c6 c7 d0 d1 d2 d3 d4 d5 d6 d7
      have HSE : Hid (∀ X, G wr X → Calls Try.prog 22 #[.agg #[.string xf, .string xt, .string xl, .int .i64 xm, .slice px nx cx], .agg #[.string yf, .string yt, .string yl, .int .i64 ym, .slice py ny cy]] X fun e' w' => e' = .returned (.bool true) ∧ G X w') := Lib.hid (fun X hX => by
        have h1 := sameE_any _ _ X (HXA.out.g hX) (HYA.out.g hX)
        rw [sameE_yesK hxo] at h1
        exact h1)
      clear hxy hxo
      cases xc
      · go_upto_region 6 with fail
        refine region_hl (fun w' => G wr w') 99 51 (by kernel_rfl) rfl ?_
        simp only [List.replicate_succ, List.replicate_zero]
        have hs0 : (fun w' : World => G wr w') wr.drew := (G.refl wr).drew
        refine hl_take_np 0 (by kernel_rfl) (by kernel_rfl) rfl (by kernel_rfl) hs0 (v := ?_) ?_ ?_
        rotate_left
        · (rintro x hx; have r0 := hx.cell c0; have s0 := hx.cell d0; have r1 := hx.cell c1; have s1 := hx.cell d1; have r2 := hx.cell c2; have s2 := hx.cell d2; have r3 := hx.cell c3; have s3 := hx.cell d3; have r4 := hx.cell c4; have s4 := hx.cell d4; have r5 := hx.cell c5; have s5 := hx.cell d5; have r6 := hx.cell c6; have s6 := hx.cell d6; have r7 := hx.cell c7; have s7 := hx.cell d7; clear hx; go_simp; try rfl)
        simp only [Act.put, List.setIfInBounds_toArray, List.set_cons_zero, List.set_cons_succ]
        refine hl_take_np 1 (by kernel_rfl) (by kernel_rfl) rfl (by kernel_rfl) hs0 (v := ?_) ?_ ?_
        rotate_left
        · (rintro x hx; have r0 := hx.cell c0; have s0 := hx.cell d0; have r1 := hx.cell c1; have s1 := hx.cell d1; have r2 := hx.cell c2; have s2 := hx.cell d2; have r3 := hx.cell c3; have s3 := hx.cell d3; have r4 := hx.cell c4; have s4 := hx.cell d4; have r5 := hx.cell c5; have s5 := hx.cell d5; have r6 := hx.cell c6; have s6 := hx.cell d6; have r7 := hx.cell c7; have s7 := hx.cell d7; clear hx; go_simp; try rfl)
        simp only [Act.put, List.setIfInBounds_toArray, List.set_cons_zero, List.set_cons_succ]
        refine hl_take_np 2 (by kernel_rfl) (by kernel_rfl) rfl (by kernel_rfl) hs0 (v := ?_) ?_ ?_
        rotate_left
        · (rintro x hx; have r0 := hx.cell c0; have s0 := hx.cell d0; have r1 := hx.cell c1; have s1 := hx.cell d1; have r2 := hx.cell c2; have s2 := hx.cell d2; have r3 := hx.cell c3; have s3 := hx.cell d3; have r4 := hx.cell c4; have s4 := hx.cell d4; have r5 := hx.cell c5; have s5 := hx.cell d5; have r6 := hx.cell c6; have s6 := hx.cell d6; have r7 := hx.cell c7; have s7 := hx.cell d7; clear hx; go_simp; try rfl)
        simp only [Act.put, List.setIfInBounds_toArray, List.set_cons_zero, List.set_cons_succ]
        refine hl_take_np 3 (by kernel_rfl) (by kernel_rfl) rfl (by kernel_rfl) hs0 (v := ?_) ?_ ?_
        rotate_left
        · (rintro x hx; have r0 := hx.cell c0; have s0 := hx.cell d0; have r1 := hx.cell c1; have s1 := hx.cell d1; have r2 := hx.cell c2; have s2 := hx.cell d2; have r3 := hx.cell c3; have s3 := hx.cell d3; have r4 := hx.cell c4; have s4 := hx.cell d4; have r5 := hx.cell c5; have s5 := hx.cell d5; have r6 := hx.cell c6; have s6 := hx.cell d6; have r7 := hx.cell c7; have s7 := hx.cell d7; clear hx; go_simp; try rfl)
        simp only [Act.put, List.setIfInBounds_toArray, List.set_cons_zero, List.set_cons_succ]
        refine hl_take_np 4 (by kernel_rfl) (by kernel_rfl) rfl (by kernel_rfl) hs0 (v := ?_) ?_ ?_
        rotate_left
        · (rintro x hx; have r0 := hx.cell c0; have s0 := hx.cell d0; have r1 := hx.cell c1; have s1 := hx.cell d1; have r2 := hx.cell c2; have s2 := hx.cell d2; have r3 := hx.cell c3; have s3 := hx.cell d3; have r4 := hx.cell c4; have s4 := hx.cell d4; have r5 := hx.cell c5; have s5 := hx.cell d5; have r6 := hx.cell c6; have s6 := hx.cell d6; have r7 := hx.cell c7; have s7 := hx.cell d7; clear hx; go_simp; try rfl)
        simp only [Act.put, List.setIfInBounds_toArray, List.set_cons_zero, List.set_cons_succ]
        refine hl_take_np 5 (by kernel_rfl) (by kernel_rfl) rfl (by kernel_rfl) hs0 (v := ?_) ?_ ?_
        rotate_left
        · (rintro x hx; have r0 := hx.cell c0; have s0 := hx.cell d0; have r1 := hx.cell c1; have s1 := hx.cell d1; have r2 := hx.cell c2; have s2 := hx.cell d2; have r3 := hx.cell c3; have s3 := hx.cell d3; have r4 := hx.cell c4; have s4 := hx.cell d4; have r5 := hx.cell c5; have s5 := hx.cell d5; have r6 := hx.cell c6; have s6 := hx.cell d6; have r7 := hx.cell c7; have s7 := hx.cell d7; clear hx; go_simp; try rfl)
        simp only [Act.put, List.setIfInBounds_toArray, List.set_cons_zero, List.set_cons_succ]
        refine hl_take_np 6 (by kernel_rfl) (by kernel_rfl) rfl (by kernel_rfl) hs0 (v := ?_) ?_ ?_
        rotate_left
        · (rintro x hx; have r0 := hx.cell c0; have s0 := hx.cell d0; have r1 := hx.cell c1; have s1 := hx.cell d1; have r2 := hx.cell c2; have s2 := hx.cell d2; have r3 := hx.cell c3; have s3 := hx.cell d3; have r4 := hx.cell c4; have s4 := hx.cell d4; have r5 := hx.cell c5; have s5 := hx.cell d5; have r6 := hx.cell c6; have s6 := hx.cell d6; have r7 := hx.cell c7; have s7 := hx.cell d7; clear hx; go_simp; try rfl)
        simp only [Act.put, List.setIfInBounds_toArray, List.set_cons_zero, List.set_cons_succ]
        refine hl_take_np 7 (by kernel_rfl) (by kernel_rfl) rfl (by kernel_rfl) hs0 (v := ?_) ?_ ?_
        rotate_left
        · (rintro x hx; have r0 := hx.cell c0; have s0 := hx.cell d0; have r1 := hx.cell c1; have s1 := hx.cell d1; have r2 := hx.cell c2; have s2 := hx.cell d2; have r3 := hx.cell c3; have s3 := hx.cell d3; have r4 := hx.cell c4; have s4 := hx.cell d4; have r5 := hx.cell c5; have s5 := hx.cell d5; have r6 := hx.cell c6; have s6 := hx.cell d6; have r7 := hx.cell c7; have s7 := hx.cell d7; clear hx; go_simp; try rfl)
        simp only [Act.put, List.setIfInBounds_toArray, List.set_cons_zero, List.set_cons_succ]
        refine hl_take_np 8 (by kernel_rfl) (by kernel_rfl) rfl (by kernel_rfl) hs0 (v := ?_) ?_ ?_
        rotate_left
        · (rintro x hx; have r0 := hx.cell c0; have s0 := hx.cell d0; have r1 := hx.cell c1; have s1 := hx.cell d1; have r2 := hx.cell c2; have s2 := hx.cell d2; have r3 := hx.cell c3; have s3 := hx.cell d3; have r4 := hx.cell c4; have s4 := hx.cell d4; have r5 := hx.cell c5; have s5 := hx.cell d5; have r6 := hx.cell c6; have s6 := hx.cell d6; have r7 := hx.cell c7; have s7 := hx.cell d7; clear hx; go_simp; try rfl)
        simp only [Act.put, List.setIfInBounds_toArray, List.set_cons_zero, List.set_cons_succ]
        refine hl_take_np 9 (by kernel_rfl) (by kernel_rfl) rfl (by kernel_rfl) hs0 (v := ?_) ?_ ?_
        rotate_left
        · (rintro x hx; have r0 := hx.cell c0; have s0 := hx.cell d0; have r1 := hx.cell c1; have s1 := hx.cell d1; have r2 := hx.cell c2; have s2 := hx.cell d2; have r3 := hx.cell c3; have s3 := hx.cell d3; have r4 := hx.cell c4; have s4 := hx.cell d4; have r5 := hx.cell c5; have s5 := hx.cell d5; have r6 := hx.cell c6; have s6 := hx.cell d6; have r7 := hx.cell c7; have s7 := hx.cell d7; clear hx; go_simp; try rfl)
        simp only [Act.put, List.setIfInBounds_toArray, List.set_cons_zero, List.set_cons_succ]
        refine hl_take_np 10 (by kernel_rfl) (by kernel_rfl) rfl (by kernel_rfl) hs0 (v := ?_) ?_ ?_
        rotate_left
        · (rintro x hx; have r0 := hx.cell c0; have s0 := hx.cell d0; have r1 := hx.cell c1; have s1 := hx.cell d1; have r2 := hx.cell c2; have s2 := hx.cell d2; have r3 := hx.cell c3; have s3 := hx.cell d3; have r4 := hx.cell c4; have s4 := hx.cell d4; have r5 := hx.cell c5; have s5 := hx.cell d5; have r6 := hx.cell c6; have s6 := hx.cell d6; have r7 := hx.cell c7; have s7 := hx.cell d7; clear hx; go_simp; try rfl)
        simp only [Act.put, List.setIfInBounds_toArray, List.set_cons_zero, List.set_cons_succ]
        refine hl_take_np 11 (by kernel_rfl) (by kernel_rfl) rfl (by kernel_rfl) hs0 (v := ?_) ?_ ?_
        rotate_left
        · (rintro x hx; have r0 := hx.cell c0; have s0 := hx.cell d0; have r1 := hx.cell c1; have s1 := hx.cell d1; have r2 := hx.cell c2; have s2 := hx.cell d2; have r3 := hx.cell c3; have s3 := hx.cell d3; have r4 := hx.cell c4; have s4 := hx.cell d4; have r5 := hx.cell c5; have s5 := hx.cell d5; have r6 := hx.cell c6; have s6 := hx.cell d6; have r7 := hx.cell c7; have s7 := hx.cell d7; clear hx; go_simp; try rfl)
        simp only [Act.put, List.setIfInBounds_toArray, List.set_cons_zero, List.set_cons_succ]
        refine hl_take_np 12 (by kernel_rfl) (by kernel_rfl) rfl (by kernel_rfl) hs0 (v := ?_) ?_ ?_
        rotate_left
        · (rintro x hx; have r0 := hx.cell c0; have s0 := hx.cell d0; have r1 := hx.cell c1; have s1 := hx.cell d1; have r2 := hx.cell c2; have s2 := hx.cell d2; have r3 := hx.cell c3; have s3 := hx.cell d3; have r4 := hx.cell c4; have s4 := hx.cell d4; have r5 := hx.cell c5; have s5 := hx.cell d5; have r6 := hx.cell c6; have s6 := hx.cell d6; have r7 := hx.cell c7; have s7 := hx.cell d7; clear hx; go_simp; try rfl)
        simp only [Act.put, List.setIfInBounds_toArray, List.set_cons_zero, List.set_cons_succ]
        refine hl_take_np 13 (by kernel_rfl) (by kernel_rfl) rfl (by kernel_rfl) hs0 (v := ?_) ?_ ?_
        rotate_left
        · (rintro x hx; have r0 := hx.cell c0; have s0 := hx.cell d0; have r1 := hx.cell c1; have s1 := hx.cell d1; have r2 := hx.cell c2; have s2 := hx.cell d2; have r3 := hx.cell c3; have s3 := hx.cell d3; have r4 := hx.cell c4; have s4 := hx.cell d4; have r5 := hx.cell c5; have s5 := hx.cell d5; have r6 := hx.cell c6; have s6 := hx.cell d6; have r7 := hx.cell c7; have s7 := hx.cell d7; clear hx; go_simp; try rfl)
        simp only [Act.put, List.setIfInBounds_toArray, List.set_cons_zero, List.set_cons_succ]
        refine hl_take_np 14 (by kernel_rfl) (by kernel_rfl) rfl (by kernel_rfl) hs0 (v := ?_) ?_ ?_
        rotate_left
        · (rintro x hx; have r0 := hx.cell c0; have s0 := hx.cell d0; have r1 := hx.cell c1; have s1 := hx.cell d1; have r2 := hx.cell c2; have s2 := hx.cell d2; have r3 := hx.cell c3; have s3 := hx.cell d3; have r4 := hx.cell c4; have s4 := hx.cell d4; have r5 := hx.cell c5; have s5 := hx.cell d5; have r6 := hx.cell c6; have s6 := hx.cell d6; have r7 := hx.cell c7; have s7 := hx.cell d7; clear hx; go_simp; try rfl)
        simp only [Act.put, List.setIfInBounds_toArray, List.set_cons_zero, List.set_cons_succ]
        refine hl_take_np 15 (by kernel_rfl) (by kernel_rfl) rfl (by kernel_rfl) hs0 (v := ?_) ?_ ?_
        rotate_left
        · (rintro x hx; have r0 := hx.cell c0; have s0 := hx.cell d0; have r1 := hx.cell c1; have s1 := hx.cell d1; have r2 := hx.cell c2; have s2 := hx.cell d2; have r3 := hx.cell c3; have s3 := hx.cell d3; have r4 := hx.cell c4; have s4 := hx.cell d4; have r5 := hx.cell c5; have s5 := hx.cell d5; have r6 := hx.cell c6; have s6 := hx.cell d6; have r7 := hx.cell c7; have s7 := hx.cell d7; clear hx; go_simp; try rfl)
        simp only [Act.put, List.setIfInBounds_toArray, List.set_cons_zero, List.set_cons_succ]
        refine hl_take_np 16 (by kernel_rfl) (by kernel_rfl) rfl (by kernel_rfl) hs0 (v := ?_) ?_ ?_
        rotate_left
        · (rintro x hx; have r0 := hx.cell c0; have s0 := hx.cell d0; have r1 := hx.cell c1; have s1 := hx.cell d1; have r2 := hx.cell c2; have s2 := hx.cell d2; have r3 := hx.cell c3; have s3 := hx.cell d3; have r4 := hx.cell c4; have s4 := hx.cell d4; have r5 := hx.cell c5; have s5 := hx.cell d5; have r6 := hx.cell c6; have s6 := hx.cell d6; have r7 := hx.cell c7; have s7 := hx.cell d7; clear hx; go_simp; try rfl)
        simp only [Act.put, List.setIfInBounds_toArray, List.set_cons_zero, List.set_cons_succ]
        refine hl_take_np 17 (by kernel_rfl) (by kernel_rfl) rfl (by kernel_rfl) hs0 (v := ?_) ?_ ?_
        rotate_left
        · (rintro x hx; have r0 := hx.cell c0; have s0 := hx.cell d0; have r1 := hx.cell c1; have s1 := hx.cell d1; have r2 := hx.cell c2; have s2 := hx.cell d2; have r3 := hx.cell c3; have s3 := hx.cell d3; have r4 := hx.cell c4; have s4 := hx.cell d4; have r5 := hx.cell c5; have s5 := hx.cell d5; have r6 := hx.cell c6; have s6 := hx.cell d6; have r7 := hx.cell c7; have s7 := hx.cell d7; clear hx; go_simp; try rfl)
        simp only [Act.put, List.setIfInBounds_toArray, List.set_cons_zero, List.set_cons_succ]
        refine hl_take_np 18 (by kernel_rfl) (by kernel_rfl) rfl (by kernel_rfl) hs0 (v := ?_) ?_ ?_
        rotate_left
        · (rintro x hx; have r0 := hx.cell c0; have s0 := hx.cell d0; have r1 := hx.cell c1; have s1 := hx.cell d1; have r2 := hx.cell c2; have s2 := hx.cell d2; have r3 := hx.cell c3; have s3 := hx.cell d3; have r4 := hx.cell c4; have s4 := hx.cell d4; have r5 := hx.cell c5; have s5 := hx.cell d5; have r6 := hx.cell c6; have s6 := hx.cell d6; have r7 := hx.cell c7; have s7 := hx.cell d7; clear hx; go_simp; try rfl)
        simp only [Act.put, List.setIfInBounds_toArray, List.set_cons_zero, List.set_cons_succ]
        refine hl_take_np 19 (by kernel_rfl) (by kernel_rfl) rfl (by kernel_rfl) hs0 (v := ?_) ?_ ?_
        rotate_left
        · (rintro x hx; have r0 := hx.cell c0; have s0 := hx.cell d0; have r1 := hx.cell c1; have s1 := hx.cell d1; have r2 := hx.cell c2; have s2 := hx.cell d2; have r3 := hx.cell c3; have s3 := hx.cell d3; have r4 := hx.cell c4; have s4 := hx.cell d4; have r5 := hx.cell c5; have s5 := hx.cell d5; have r6 := hx.cell c6; have s6 := hx.cell d6; have r7 := hx.cell c7; have s7 := hx.cell d7; clear hx; go_simp; try rfl)
        simp only [Act.put, List.setIfInBounds_toArray, List.set_cons_zero, List.set_cons_succ]
        refine hl_take_np 20 (by kernel_rfl) (by kernel_rfl) rfl (by kernel_rfl) hs0 (v := ?_) ?_ ?_
        rotate_left
        · (rintro x hx; have r0 := hx.cell c0; have s0 := hx.cell d0; have r1 := hx.cell c1; have s1 := hx.cell d1; have r2 := hx.cell c2; have s2 := hx.cell d2; have r3 := hx.cell c3; have s3 := hx.cell d3; have r4 := hx.cell c4; have s4 := hx.cell d4; have r5 := hx.cell c5; have s5 := hx.cell d5; have r6 := hx.cell c6; have s6 := hx.cell d6; have r7 := hx.cell c7; have s7 := hx.cell d7; clear hx; go_simp; try rfl)
        simp only [Act.put, List.setIfInBounds_toArray, List.set_cons_zero, List.set_cons_succ]
        refine hl_take_np 21 (by kernel_rfl) (by kernel_rfl) rfl (by kernel_rfl) hs0 (v := ?_) ?_ ?_
        rotate_left
        · (rintro x hx; have r0 := hx.cell c0; have s0 := hx.cell d0; have r1 := hx.cell c1; have s1 := hx.cell d1; have r2 := hx.cell c2; have s2 := hx.cell d2; have r3 := hx.cell c3; have s3 := hx.cell d3; have r4 := hx.cell c4; have s4 := hx.cell d4; have r5 := hx.cell c5; have s5 := hx.cell d5; have r6 := hx.cell c6; have s6 := hx.cell d6; have r7 := hx.cell c7; have s7 := hx.cell d7; clear hx; go_simp; try rfl)
        simp only [Act.put, List.setIfInBounds_toArray, List.set_cons_zero, List.set_cons_succ]
        refine hl_take_np 22 (by kernel_rfl) (by kernel_rfl) rfl (by kernel_rfl) hs0 (v := ?_) ?_ ?_
        rotate_left
        · (rintro x hx; have r0 := hx.cell c0; have s0 := hx.cell d0; have r1 := hx.cell c1; have s1 := hx.cell d1; have r2 := hx.cell c2; have s2 := hx.cell d2; have r3 := hx.cell c3; have s3 := hx.cell d3; have r4 := hx.cell c4; have s4 := hx.cell d4; have r5 := hx.cell c5; have s5 := hx.cell d5; have r6 := hx.cell c6; have s6 := hx.cell d6; have r7 := hx.cell c7; have s7 := hx.cell d7; clear hx; go_simp; try rfl)
        simp only [Act.put, List.setIfInBounds_toArray, List.set_cons_zero, List.set_cons_succ]
        refine hl_take_np 23 (by kernel_rfl) (by kernel_rfl) rfl (by kernel_rfl) hs0 (v := ?_) ?_ ?_
        rotate_left
        · (rintro x hx; have r0 := hx.cell c0; have s0 := hx.cell d0; have r1 := hx.cell c1; have s1 := hx.cell d1; have r2 := hx.cell c2; have s2 := hx.cell d2; have r3 := hx.cell c3; have s3 := hx.cell d3; have r4 := hx.cell c4; have s4 := hx.cell d4; have r5 := hx.cell c5; have s5 := hx.cell d5; have r6 := hx.cell c6; have s6 := hx.cell d6; have r7 := hx.cell c7; have s7 := hx.cell d7; clear hx; go_simp; try rfl)
        simp only [Act.put, List.setIfInBounds_toArray, List.set_cons_zero, List.set_cons_succ]
        refine hl_take_np 24 (by kernel_rfl) (by kernel_rfl) rfl (by kernel_rfl) hs0 (v := ?_) ?_ ?_
        rotate_left
        · (rintro x hx; have r0 := hx.cell c0; have s0 := hx.cell d0; have r1 := hx.cell c1; have s1 := hx.cell d1; have r2 := hx.cell c2; have s2 := hx.cell d2; have r3 := hx.cell c3; have s3 := hx.cell d3; have r4 := hx.cell c4; have s4 := hx.cell d4; have r5 := hx.cell c5; have s5 := hx.cell d5; have r6 := hx.cell c6; have s6 := hx.cell d6; have r7 := hx.cell c7; have s7 := hx.cell d7; clear hx; go_simp; try rfl)
        simp only [Act.put, List.setIfInBounds_toArray, List.set_cons_zero, List.set_cons_succ]
        refine hl_take_np 25 (by kernel_rfl) (by kernel_rfl) rfl (by kernel_rfl) hs0 (v := ?_) ?_ ?_
        rotate_left
        · (rintro x hx; have r0 := hx.cell c0; have s0 := hx.cell d0; have r1 := hx.cell c1; have s1 := hx.cell d1; have r2 := hx.cell c2; have s2 := hx.cell d2; have r3 := hx.cell c3; have s3 := hx.cell d3; have r4 := hx.cell c4; have s4 := hx.cell d4; have r5 := hx.cell c5; have s5 := hx.cell d5; have r6 := hx.cell c6; have s6 := hx.cell d6; have r7 := hx.cell c7; have s7 := hx.cell d7; clear hx; go_simp; try rfl)
        simp only [Act.put, List.setIfInBounds_toArray, List.set_cons_zero, List.set_cons_succ]
        refine hl_take_np 26 (by kernel_rfl) (by kernel_rfl) rfl (by kernel_rfl) hs0 (v := ?_) ?_ ?_
        rotate_left
        · (rintro x hx; have r0 := hx.cell c0; have s0 := hx.cell d0; have r1 := hx.cell c1; have s1 := hx.cell d1; have r2 := hx.cell c2; have s2 := hx.cell d2; have r3 := hx.cell c3; have s3 := hx.cell d3; have r4 := hx.cell c4; have s4 := hx.cell d4; have r5 := hx.cell c5; have s5 := hx.cell d5; have r6 := hx.cell c6; have s6 := hx.cell d6; have r7 := hx.cell c7; have s7 := hx.cell d7; clear hx; go_simp; try rfl)
        simp only [Act.put, List.setIfInBounds_toArray, List.set_cons_zero, List.set_cons_succ]
        refine hl_take_np 27 (by kernel_rfl) (by kernel_rfl) rfl (by kernel_rfl) hs0 (v := ?_) ?_ ?_
        rotate_left
        · (rintro x hx; have r0 := hx.cell c0; have s0 := hx.cell d0; have r1 := hx.cell c1; have s1 := hx.cell d1; have r2 := hx.cell c2; have s2 := hx.cell d2; have r3 := hx.cell c3; have s3 := hx.cell d3; have r4 := hx.cell c4; have s4 := hx.cell d4; have r5 := hx.cell c5; have s5 := hx.cell d5; have r6 := hx.cell c6; have s6 := hx.cell d6; have r7 := hx.cell c7; have s7 := hx.cell d7; clear hx; go_simp; try rfl)
        simp only [Act.put, List.setIfInBounds_toArray, List.set_cons_zero, List.set_cons_succ]
        refine hl_take_np 28 (by kernel_rfl) (by kernel_rfl) rfl (by kernel_rfl) hs0 (v := ?_) ?_ ?_
        rotate_left
        · (rintro x hx; have r0 := hx.cell c0; have s0 := hx.cell d0; have r1 := hx.cell c1; have s1 := hx.cell d1; have r2 := hx.cell c2; have s2 := hx.cell d2; have r3 := hx.cell c3; have s3 := hx.cell d3; have r4 := hx.cell c4; have s4 := hx.cell d4; have r5 := hx.cell c5; have s5 := hx.cell d5; have r6 := hx.cell c6; have s6 := hx.cell d6; have r7 := hx.cell c7; have s7 := hx.cell d7; clear hx; go_simp; try rfl)
        simp only [Act.put, List.setIfInBounds_toArray, List.set_cons_zero, List.set_cons_succ]
        refine hl_take_np 29 (by kernel_rfl) (by kernel_rfl) rfl (by kernel_rfl) hs0 (v := ?_) ?_ ?_
        rotate_left
        · (rintro x hx; have r0 := hx.cell c0; have s0 := hx.cell d0; have r1 := hx.cell c1; have s1 := hx.cell d1; have r2 := hx.cell c2; have s2 := hx.cell d2; have r3 := hx.cell c3; have s3 := hx.cell d3; have r4 := hx.cell c4; have s4 := hx.cell d4; have r5 := hx.cell c5; have s5 := hx.cell d5; have r6 := hx.cell c6; have s6 := hx.cell d6; have r7 := hx.cell c7; have s7 := hx.cell d7; clear hx; go_simp; try rfl)
        simp only [Act.put, List.setIfInBounds_toArray, List.set_cons_zero, List.set_cons_succ]
        refine hl_take_np 30 (by kernel_rfl) (by kernel_rfl) rfl (by kernel_rfl) hs0 (v := ?_) ?_ ?_
        rotate_left
        · (rintro x hx; have r0 := hx.cell c0; have s0 := hx.cell d0; have r1 := hx.cell c1; have s1 := hx.cell d1; have r2 := hx.cell c2; have s2 := hx.cell d2; have r3 := hx.cell c3; have s3 := hx.cell d3; have r4 := hx.cell c4; have s4 := hx.cell d4; have r5 := hx.cell c5; have s5 := hx.cell d5; have r6 := hx.cell c6; have s6 := hx.cell d6; have r7 := hx.cell c7; have s7 := hx.cell d7; clear hx; go_simp; try rfl)
        simp only [Act.put, List.setIfInBounds_toArray, List.set_cons_zero, List.set_cons_succ]
        refine hl_take_np 31 (by kernel_rfl) (by kernel_rfl) rfl (by kernel_rfl) hs0 (v := ?_) ?_ ?_
        rotate_left
        · (rintro x hx; have r0 := hx.cell c0; have s0 := hx.cell d0; have r1 := hx.cell c1; have s1 := hx.cell d1; have r2 := hx.cell c2; have s2 := hx.cell d2; have r3 := hx.cell c3; have s3 := hx.cell d3; have r4 := hx.cell c4; have s4 := hx.cell d4; have r5 := hx.cell c5; have s5 := hx.cell d5; have r6 := hx.cell c6; have s6 := hx.cell d6; have r7 := hx.cell c7; have s7 := hx.cell d7; clear hx; go_simp; try rfl)
        simp only [Act.put, List.setIfInBounds_toArray, List.set_cons_zero, List.set_cons_succ]
        refine hl_take_np 32 (by kernel_rfl) (by kernel_rfl) rfl (by kernel_rfl) hs0 (v := ?_) ?_ ?_
        rotate_left
        · (rintro x hx; have r0 := hx.cell c0; have s0 := hx.cell d0; have r1 := hx.cell c1; have s1 := hx.cell d1; have r2 := hx.cell c2; have s2 := hx.cell d2; have r3 := hx.cell c3; have s3 := hx.cell d3; have r4 := hx.cell c4; have s4 := hx.cell d4; have r5 := hx.cell c5; have s5 := hx.cell d5; have r6 := hx.cell c6; have s6 := hx.cell d6; have r7 := hx.cell c7; have s7 := hx.cell d7; clear hx; go_simp; try rfl)
        simp only [Act.put, List.setIfInBounds_toArray, List.set_cons_zero, List.set_cons_succ]
        refine hl_take_np 33 (by kernel_rfl) (by kernel_rfl) rfl (by kernel_rfl) hs0 (v := ?_) ?_ ?_
        rotate_left
        · (rintro x hx; have r0 := hx.cell c0; have s0 := hx.cell d0; have r1 := hx.cell c1; have s1 := hx.cell d1; have r2 := hx.cell c2; have s2 := hx.cell d2; have r3 := hx.cell c3; have s3 := hx.cell d3; have r4 := hx.cell c4; have s4 := hx.cell d4; have r5 := hx.cell c5; have s5 := hx.cell d5; have r6 := hx.cell c6; have s6 := hx.cell d6; have r7 := hx.cell c7; have s7 := hx.cell d7; clear hx; go_simp; try rfl)
        simp only [Act.put, List.setIfInBounds_toArray, List.set_cons_zero, List.set_cons_succ]
        refine hl_take_np 34 (by kernel_rfl) (by kernel_rfl) rfl (by kernel_rfl) hs0 (v := ?_) ?_ ?_
        rotate_left
        · (rintro x hx; have r0 := hx.cell c0; have s0 := hx.cell d0; have r1 := hx.cell c1; have s1 := hx.cell d1; have r2 := hx.cell c2; have s2 := hx.cell d2; have r3 := hx.cell c3; have s3 := hx.cell d3; have r4 := hx.cell c4; have s4 := hx.cell d4; have r5 := hx.cell c5; have s5 := hx.cell d5; have r6 := hx.cell c6; have s6 := hx.cell d6; have r7 := hx.cell c7; have s7 := hx.cell d7; clear hx; go_simp; try rfl)
        simp only [Act.put, List.setIfInBounds_toArray, List.set_cons_zero, List.set_cons_succ]
        refine hl_take_np 35 (by kernel_rfl) (by kernel_rfl) rfl (by kernel_rfl) hs0 (v := ?_) ?_ ?_
        rotate_left
        · (rintro x hx; have r0 := hx.cell c0; have s0 := hx.cell d0; have r1 := hx.cell c1; have s1 := hx.cell d1; have r2 := hx.cell c2; have s2 := hx.cell d2; have r3 := hx.cell c3; have s3 := hx.cell d3; have r4 := hx.cell c4; have s4 := hx.cell d4; have r5 := hx.cell c5; have s5 := hx.cell d5; have r6 := hx.cell c6; have s6 := hx.cell d6; have r7 := hx.cell c7; have s7 := hx.cell d7; clear hx; go_simp; try rfl)
        simp only [Act.put, List.setIfInBounds_toArray, List.set_cons_zero, List.set_cons_succ]
        refine hl_take_np 36 (by kernel_rfl) (by kernel_rfl) rfl (by kernel_rfl) hs0 (v := ?_) ?_ ?_
        rotate_left
        · (rintro x hx; have r0 := hx.cell c0; have s0 := hx.cell d0; have r1 := hx.cell c1; have s1 := hx.cell d1; have r2 := hx.cell c2; have s2 := hx.cell d2; have r3 := hx.cell c3; have s3 := hx.cell d3; have r4 := hx.cell c4; have s4 := hx.cell d4; have r5 := hx.cell c5; have s5 := hx.cell d5; have r6 := hx.cell c6; have s6 := hx.cell d6; have r7 := hx.cell c7; have s7 := hx.cell d7; clear hx; go_simp; try rfl)
        simp only [Act.put, List.setIfInBounds_toArray, List.set_cons_zero, List.set_cons_succ]
        refine hl_take_np 37 (by kernel_rfl) (by kernel_rfl) rfl (by kernel_rfl) hs0 (v := ?_) ?_ ?_
        rotate_left
        · (rintro x hx; have r0 := hx.cell c0; have s0 := hx.cell d0; have r1 := hx.cell c1; have s1 := hx.cell d1; have r2 := hx.cell c2; have s2 := hx.cell d2; have r3 := hx.cell c3; have s3 := hx.cell d3; have r4 := hx.cell c4; have s4 := hx.cell d4; have r5 := hx.cell c5; have s5 := hx.cell d5; have r6 := hx.cell c6; have s6 := hx.cell d6; have r7 := hx.cell c7; have s7 := hx.cell d7; clear hx; go_simp; try rfl)
        simp only [Act.put, List.setIfInBounds_toArray, List.set_cons_zero, List.set_cons_succ]
        refine hl_take_np 38 (by kernel_rfl) (by kernel_rfl) rfl (by kernel_rfl) hs0 (v := ?_) ?_ ?_
        rotate_left
        · (rintro x hx; have r0 := hx.cell c0; have s0 := hx.cell d0; have r1 := hx.cell c1; have s1 := hx.cell d1; have r2 := hx.cell c2; have s2 := hx.cell d2; have r3 := hx.cell c3; have s3 := hx.cell d3; have r4 := hx.cell c4; have s4 := hx.cell d4; have r5 := hx.cell c5; have s5 := hx.cell d5; have r6 := hx.cell c6; have s6 := hx.cell d6; have r7 := hx.cell c7; have s7 := hx.cell d7; clear hx; go_simp; try rfl)
        simp only [Act.put, List.setIfInBounds_toArray, List.set_cons_zero, List.set_cons_succ]
        refine hl_take_np 39 (by kernel_rfl) (by kernel_rfl) rfl (by kernel_rfl) hs0 (v := ?_) ?_ ?_
        rotate_left
        · (rintro x hx; have r0 := hx.cell c0; have s0 := hx.cell d0; have r1 := hx.cell c1; have s1 := hx.cell d1; have r2 := hx.cell c2; have s2 := hx.cell d2; have r3 := hx.cell c3; have s3 := hx.cell d3; have r4 := hx.cell c4; have s4 := hx.cell d4; have r5 := hx.cell c5; have s5 := hx.cell d5; have r6 := hx.cell c6; have s6 := hx.cell d6; have r7 := hx.cell c7; have s7 := hx.cell d7; clear hx; go_simp; try rfl)
        simp only [Act.put, List.setIfInBounds_toArray, List.set_cons_zero, List.set_cons_succ]
        refine hl_take_np 40 (by kernel_rfl) (by kernel_rfl) rfl (by kernel_rfl) hs0 (v := ?_) ?_ ?_
        rotate_left
        · (rintro x hx; have r0 := hx.cell c0; have s0 := hx.cell d0; have r1 := hx.cell c1; have s1 := hx.cell d1; have r2 := hx.cell c2; have s2 := hx.cell d2; have r3 := hx.cell c3; have s3 := hx.cell d3; have r4 := hx.cell c4; have s4 := hx.cell d4; have r5 := hx.cell c5; have s5 := hx.cell d5; have r6 := hx.cell c6; have s6 := hx.cell d6; have r7 := hx.cell c7; have s7 := hx.cell d7; clear hx; go_simp; try rfl)
        simp only [Act.put, List.setIfInBounds_toArray, List.set_cons_zero, List.set_cons_succ]
        refine hl_take_np 41 (by kernel_rfl) (by kernel_rfl) rfl (by kernel_rfl) hs0 (v := ?_) ?_ ?_
        rotate_left
        · (rintro x hx; have r0 := hx.cell c0; have s0 := hx.cell d0; have r1 := hx.cell c1; have s1 := hx.cell d1; have r2 := hx.cell c2; have s2 := hx.cell d2; have r3 := hx.cell c3; have s3 := hx.cell d3; have r4 := hx.cell c4; have s4 := hx.cell d4; have r5 := hx.cell c5; have s5 := hx.cell d5; have r6 := hx.cell c6; have s6 := hx.cell d6; have r7 := hx.cell c7; have s7 := hx.cell d7; clear hx; go_simp; try rfl)
        simp only [Act.put, List.setIfInBounds_toArray, List.set_cons_zero, List.set_cons_succ]
        refine hl_take_np 42 (by kernel_rfl) (by kernel_rfl) rfl (by kernel_rfl) hs0 (v := ?_) ?_ ?_
        rotate_left
        · (rintro x hx; have r0 := hx.cell c0; have s0 := hx.cell d0; have r1 := hx.cell c1; have s1 := hx.cell d1; have r2 := hx.cell c2; have s2 := hx.cell d2; have r3 := hx.cell c3; have s3 := hx.cell d3; have r4 := hx.cell c4; have s4 := hx.cell d4; have r5 := hx.cell c5; have s5 := hx.cell d5; have r6 := hx.cell c6; have s6 := hx.cell d6; have r7 := hx.cell c7; have s7 := hx.cell d7; clear hx; go_simp; try rfl)
        simp only [Act.put, List.setIfInBounds_toArray, List.set_cons_zero, List.set_cons_succ]
        refine hl_take_np 43 (by kernel_rfl) (by kernel_rfl) rfl (by kernel_rfl) hs0 (v := ?_) ?_ ?_
        rotate_left
        · (rintro x hx; have r0 := hx.cell c0; have s0 := hx.cell d0; have r1 := hx.cell c1; have s1 := hx.cell d1; have r2 := hx.cell c2; have s2 := hx.cell d2; have r3 := hx.cell c3; have s3 := hx.cell d3; have r4 := hx.cell c4; have s4 := hx.cell d4; have r5 := hx.cell c5; have s5 := hx.cell d5; have r6 := hx.cell c6; have s6 := hx.cell d6; have r7 := hx.cell c7; have s7 := hx.cell d7; clear hx; go_simp; try rfl)
        simp only [Act.put, List.setIfInBounds_toArray, List.set_cons_zero, List.set_cons_succ]
        refine hl_take_np 44 (by kernel_rfl) (by kernel_rfl) rfl (by kernel_rfl) hs0 (v := ?_) ?_ ?_
        rotate_left
        · (rintro x hx; have r0 := hx.cell c0; have s0 := hx.cell d0; have r1 := hx.cell c1; have s1 := hx.cell d1; have r2 := hx.cell c2; have s2 := hx.cell d2; have r3 := hx.cell c3; have s3 := hx.cell d3; have r4 := hx.cell c4; have s4 := hx.cell d4; have r5 := hx.cell c5; have s5 := hx.cell d5; have r6 := hx.cell c6; have s6 := hx.cell d6; have r7 := hx.cell c7; have s7 := hx.cell d7; clear hx; go_simp; try rfl)
        simp only [Act.put, List.setIfInBounds_toArray, List.set_cons_zero, List.set_cons_succ]
        refine hl_take_np 45 (by kernel_rfl) (by kernel_rfl) rfl (by kernel_rfl) hs0 (v := ?_) ?_ ?_
        rotate_left
        · (rintro x hx; have r0 := hx.cell c0; have s0 := hx.cell d0; have r1 := hx.cell c1; have s1 := hx.cell d1; have r2 := hx.cell c2; have s2 := hx.cell d2; have r3 := hx.cell c3; have s3 := hx.cell d3; have r4 := hx.cell c4; have s4 := hx.cell d4; have r5 := hx.cell c5; have s5 := hx.cell d5; have r6 := hx.cell c6; have s6 := hx.cell d6; have r7 := hx.cell c7; have s7 := hx.cell d7; clear hx; go_simp; try rfl)
        simp only [Act.put, List.setIfInBounds_toArray, List.set_cons_zero, List.set_cons_succ]
        refine hl_take_np 46 (by kernel_rfl) (by kernel_rfl) rfl (by kernel_rfl) hs0 (v := ?_) ?_ ?_
        rotate_left
        · (rintro x hx; have r0 := hx.cell c0; have s0 := hx.cell d0; have r1 := hx.cell c1; have s1 := hx.cell d1; have r2 := hx.cell c2; have s2 := hx.cell d2; have r3 := hx.cell c3; have s3 := hx.cell d3; have r4 := hx.cell c4; have s4 := hx.cell d4; have r5 := hx.cell c5; have s5 := hx.cell d5; have r6 := hx.cell c6; have s6 := hx.cell d6; have r7 := hx.cell c7; have s7 := hx.cell d7; clear hx; go_simp; try rfl)
        simp only [Act.put, List.setIfInBounds_toArray, List.set_cons_zero, List.set_cons_succ]
        refine hl_take_np 47 (by kernel_rfl) (by kernel_rfl) rfl (by kernel_rfl) hs0 (v := ?_) ?_ ?_
        rotate_left
        · (rintro x hx; have r0 := hx.cell c0; have s0 := hx.cell d0; have r1 := hx.cell c1; have s1 := hx.cell d1; have r2 := hx.cell c2; have s2 := hx.cell d2; have r3 := hx.cell c3; have s3 := hx.cell d3; have r4 := hx.cell c4; have s4 := hx.cell d4; have r5 := hx.cell c5; have s5 := hx.cell d5; have r6 := hx.cell c6; have s6 := hx.cell d6; have r7 := hx.cell c7; have s7 := hx.cell d7; clear hx; go_simp; try rfl)
        simp only [Act.put, List.setIfInBounds_toArray, List.set_cons_zero, List.set_cons_succ]
        refine hl_stepW 48 (by kernel_rfl) rfl (by kernel_rfl) ?_
        intro K hK
        go_simp
        refine (HSE.out _ hs0).mono ?_
        rintro e0 w6 ⟨rfl, hga⟩
        have hs1 : G wr w6 := hs0.trans hga
        refine hK _ _ (fun _ => hs1) ?_
        clear hK
        simp only [Act.put, List.setIfInBounds_toArray, List.set_cons_zero, List.set_cons_succ]
        refine hl_take_np 49 (by kernel_rfl) (by kernel_rfl) rfl (by kernel_rfl) hs1 (v := ?_) ?_ ?_
        rotate_left
        · (rintro x hx; clear hx; go_simp; try rfl)
        simp only [Act.put, List.setIfInBounds_toArray, List.set_cons_zero, List.set_cons_succ]
        refine hl_take_np 50 (by kernel_rfl) (by kernel_rfl) rfl (by kernel_rfl) hs1 (v := ?_) ?_ ?_
        rotate_left
        · (rintro x hx; clear hx; go_simp; try rfl)
        simp only [Act.put, List.setIfInBounds_toArray, List.set_cons_zero, List.set_cons_succ]
        refine hl_done (by kernel_rfl) ?_ _
        refine NoPanic.normal ?_
        have HG7 := Lib.hid (HG.out.trans hs1)
        clear hs0 hs1 hga c0 c1 c2 c3 c4 c5 c6 c7 d0 d1 d2 d3 d4 d5 d6 d7 HSE
        go_wp2_with fail
        go_roundw
        case rel => exact ⟨i + 1, by go_num, by omega, HG7⟩
        case measure => simp [intOf]; omega
      · go_upto_region 6 with fail
        refine region_hl (fun w' => G wr w') 99 51 (by kernel_rfl) rfl ?_
        simp only [List.replicate_succ, List.replicate_zero]
        have hs0 : (fun w' : World => G wr w') wr.drew := (G.refl wr).drew
        refine hl_take_np 0 (by kernel_rfl) (by kernel_rfl) rfl (by kernel_rfl) hs0 (v := ?_) ?_ ?_
        rotate_left
        · (rintro x hx; have r0 := hx.cell c0; have s0 := hx.cell d0; have r1 := hx.cell c1; have s1 := hx.cell d1; have r2 := hx.cell c2; have s2 := hx.cell d2; have r3 := hx.cell c3; have s3 := hx.cell d3; have r4 := hx.cell c4; have s4 := hx.cell d4; have r5 := hx.cell c5; have s5 := hx.cell d5; have r6 := hx.cell c6; have s6 := hx.cell d6; have r7 := hx.cell c7; have s7 := hx.cell d7; clear hx; go_simp; try rfl)
        simp only [Act.put, List.setIfInBounds_toArray, List.set_cons_zero, List.set_cons_succ]
        refine hl_take_np 1 (by kernel_rfl) (by kernel_rfl) rfl (by kernel_rfl) hs0 (v := ?_) ?_ ?_
        rotate_left
        · (rintro x hx; have r0 := hx.cell c0; have s0 := hx.cell d0; have r1 := hx.cell c1; have s1 := hx.cell d1; have r2 := hx.cell c2; have s2 := hx.cell d2; have r3 := hx.cell c3; have s3 := hx.cell d3; have r4 := hx.cell c4; have s4 := hx.cell d4; have r5 := hx.cell c5; have s5 := hx.cell d5; have r6 := hx.cell c6; have s6 := hx.cell d6; have r7 := hx.cell c7; have s7 := hx.cell d7; clear hx; go_simp; try rfl)
        simp only [Act.put, List.setIfInBounds_toArray, List.set_cons_zero, List.set_cons_succ]
        refine hl_take_np 2 (by kernel_rfl) (by kernel_rfl) rfl (by kernel_rfl) hs0 (v := ?_) ?_ ?_
        rotate_left
        · (rintro x hx; have r0 := hx.cell c0; have s0 := hx.cell d0; have r1 := hx.cell c1; have s1 := hx.cell d1; have r2 := hx.cell c2; have s2 := hx.cell d2; have r3 := hx.cell c3; have s3 := hx.cell d3; have r4 := hx.cell c4; have s4 := hx.cell d4; have r5 := hx.cell c5; have s5 := hx.cell d5; have r6 := hx.cell c6; have s6 := hx.cell d6; have r7 := hx.cell c7; have s7 := hx.cell d7; clear hx; go_simp; try rfl)
        simp only [Act.put, List.setIfInBounds_toArray, List.set_cons_zero, List.set_cons_succ]
        refine hl_take_np 3 (by kernel_rfl) (by kernel_rfl) rfl (by kernel_rfl) hs0 (v := ?_) ?_ ?_
        rotate_left
        · (rintro x hx; have r0 := hx.cell c0; have s0 := hx.cell d0; have r1 := hx.cell c1; have s1 := hx.cell d1; have r2 := hx.cell c2; have s2 := hx.cell d2; have r3 := hx.cell c3; have s3 := hx.cell d3; have r4 := hx.cell c4; have s4 := hx.cell d4; have r5 := hx.cell c5; have s5 := hx.cell d5; have r6 := hx.cell c6; have s6 := hx.cell d6; have r7 := hx.cell c7; have s7 := hx.cell d7; clear hx; go_simp; try rfl)
        simp only [Act.put, List.setIfInBounds_toArray, List.set_cons_zero, List.set_cons_succ]
        refine hl_take_np 4 (by kernel_rfl) (by kernel_rfl) rfl (by kernel_rfl) hs0 (v := ?_) ?_ ?_
        rotate_left
        · (rintro x hx; have r0 := hx.cell c0; have s0 := hx.cell d0; have r1 := hx.cell c1; have s1 := hx.cell d1; have r2 := hx.cell c2; have s2 := hx.cell d2; have r3 := hx.cell c3; have s3 := hx.cell d3; have r4 := hx.cell c4; have s4 := hx.cell d4; have r5 := hx.cell c5; have s5 := hx.cell d5; have r6 := hx.cell c6; have s6 := hx.cell d6; have r7 := hx.cell c7; have s7 := hx.cell d7; clear hx; go_simp; try rfl)
        simp only [Act.put, List.setIfInBounds_toArray, List.set_cons_zero, List.set_cons_succ]
        refine hl_take_np 5 (by kernel_rfl) (by kernel_rfl) rfl (by kernel_rfl) hs0 (v := ?_) ?_ ?_
        rotate_left
        · (rintro x hx; have r0 := hx.cell c0; have s0 := hx.cell d0; have r1 := hx.cell c1; have s1 := hx.cell d1; have r2 := hx.cell c2; have s2 := hx.cell d2; have r3 := hx.cell c3; have s3 := hx.cell d3; have r4 := hx.cell c4; have s4 := hx.cell d4; have r5 := hx.cell c5; have s5 := hx.cell d5; have r6 := hx.cell c6; have s6 := hx.cell d6; have r7 := hx.cell c7; have s7 := hx.cell d7; clear hx; go_simp; try rfl)
        simp only [Act.put, List.setIfInBounds_toArray, List.set_cons_zero, List.set_cons_succ]
        refine hl_take_np 6 (by kernel_rfl) (by kernel_rfl) rfl (by kernel_rfl) hs0 (v := ?_) ?_ ?_
        rotate_left
        · (rintro x hx; have r0 := hx.cell c0; have s0 := hx.cell d0; have r1 := hx.cell c1; have s1 := hx.cell d1; have r2 := hx.cell c2; have s2 := hx.cell d2; have r3 := hx.cell c3; have s3 := hx.cell d3; have r4 := hx.cell c4; have s4 := hx.cell d4; have r5 := hx.cell c5; have s5 := hx.cell d5; have r6 := hx.cell c6; have s6 := hx.cell d6; have r7 := hx.cell c7; have s7 := hx.cell d7; clear hx; go_simp; try rfl)
        simp only [Act.put, List.setIfInBounds_toArray, List.set_cons_zero, List.set_cons_succ]
        refine hl_take_np 7 (by kernel_rfl) (by kernel_rfl) rfl (by kernel_rfl) hs0 (v := ?_) ?_ ?_
        rotate_left
        · (rintro x hx; have r0 := hx.cell c0; have s0 := hx.cell d0; have r1 := hx.cell c1; have s1 := hx.cell d1; have r2 := hx.cell c2; have s2 := hx.cell d2; have r3 := hx.cell c3; have s3 := hx.cell d3; have r4 := hx.cell c4; have s4 := hx.cell d4; have r5 := hx.cell c5; have s5 := hx.cell d5; have r6 := hx.cell c6; have s6 := hx.cell d6; have r7 := hx.cell c7; have s7 := hx.cell d7; clear hx; go_simp; try rfl)
        simp only [Act.put, List.setIfInBounds_toArray, List.set_cons_zero, List.set_cons_succ]
        refine hl_take_np 8 (by kernel_rfl) (by kernel_rfl) rfl (by kernel_rfl) hs0 (v := ?_) ?_ ?_
        rotate_left
        · (rintro x hx; have r0 := hx.cell c0; have s0 := hx.cell d0; have r1 := hx.cell c1; have s1 := hx.cell d1; have r2 := hx.cell c2; have s2 := hx.cell d2; have r3 := hx.cell c3; have s3 := hx.cell d3; have r4 := hx.cell c4; have s4 := hx.cell d4; have r5 := hx.cell c5; have s5 := hx.cell d5; have r6 := hx.cell c6; have s6 := hx.cell d6; have r7 := hx.cell c7; have s7 := hx.cell d7; clear hx; go_simp; try rfl)
        simp only [Act.put, List.setIfInBounds_toArray, List.set_cons_zero, List.set_cons_succ]
        refine hl_take_np 9 (by kernel_rfl) (by kernel_rfl) rfl (by kernel_rfl) hs0 (v := ?_) ?_ ?_
        rotate_left
        · (rintro x hx; have r0 := hx.cell c0; have s0 := hx.cell d0; have r1 := hx.cell c1; have s1 := hx.cell d1; have r2 := hx.cell c2; have s2 := hx.cell d2; have r3 := hx.cell c3; have s3 := hx.cell d3; have r4 := hx.cell c4; have s4 := hx.cell d4; have r5 := hx.cell c5; have s5 := hx.cell d5; have r6 := hx.cell c6; have s6 := hx.cell d6; have r7 := hx.cell c7; have s7 := hx.cell d7; clear hx; go_simp; try rfl)
        simp only [Act.put, List.setIfInBounds_toArray, List.set_cons_zero, List.set_cons_succ]
        refine hl_take_np 10 (by kernel_rfl) (by kernel_rfl) rfl (by kernel_rfl) hs0 (v := ?_) ?_ ?_
        rotate_left
        · (rintro x hx; have r0 := hx.cell c0; have s0 := hx.cell d0; have r1 := hx.cell c1; have s1 := hx.cell d1; have r2 := hx.cell c2; have s2 := hx.cell d2; have r3 := hx.cell c3; have s3 := hx.cell d3; have r4 := hx.cell c4; have s4 := hx.cell d4; have r5 := hx.cell c5; have s5 := hx.cell d5; have r6 := hx.cell c6; have s6 := hx.cell d6; have r7 := hx.cell c7; have s7 := hx.cell d7; clear hx; go_simp; try rfl)
        simp only [Act.put, List.setIfInBounds_toArray, List.set_cons_zero, List.set_cons_succ]
        refine hl_take_np 11 (by kernel_rfl) (by kernel_rfl) rfl (by kernel_rfl) hs0 (v := ?_) ?_ ?_
        rotate_left
        · (rintro x hx; have r0 := hx.cell c0; have s0 := hx.cell d0; have r1 := hx.cell c1; have s1 := hx.cell d1; have r2 := hx.cell c2; have s2 := hx.cell d2; have r3 := hx.cell c3; have s3 := hx.cell d3; have r4 := hx.cell c4; have s4 := hx.cell d4; have r5 := hx.cell c5; have s5 := hx.cell d5; have r6 := hx.cell c6; have s6 := hx.cell d6; have r7 := hx.cell c7; have s7 := hx.cell d7; clear hx; go_simp; try rfl)
        simp only [Act.put, List.setIfInBounds_toArray, List.set_cons_zero, List.set_cons_succ]
        refine hl_take_np 12 (by kernel_rfl) (by kernel_rfl) rfl (by kernel_rfl) hs0 (v := ?_) ?_ ?_
        rotate_left
        · (rintro x hx; have r0 := hx.cell c0; have s0 := hx.cell d0; have r1 := hx.cell c1; have s1 := hx.cell d1; have r2 := hx.cell c2; have s2 := hx.cell d2; have r3 := hx.cell c3; have s3 := hx.cell d3; have r4 := hx.cell c4; have s4 := hx.cell d4; have r5 := hx.cell c5; have s5 := hx.cell d5; have r6 := hx.cell c6; have s6 := hx.cell d6; have r7 := hx.cell c7; have s7 := hx.cell d7; clear hx; go_simp; try rfl)
        simp only [Act.put, List.setIfInBounds_toArray, List.set_cons_zero, List.set_cons_succ]
        refine hl_take_np 13 (by kernel_rfl) (by kernel_rfl) rfl (by kernel_rfl) hs0 (v := ?_) ?_ ?_
        rotate_left
        · (rintro x hx; have r0 := hx.cell c0; have s0 := hx.cell d0; have r1 := hx.cell c1; have s1 := hx.cell d1; have r2 := hx.cell c2; have s2 := hx.cell d2; have r3 := hx.cell c3; have s3 := hx.cell d3; have r4 := hx.cell c4; have s4 := hx.cell d4; have r5 := hx.cell c5; have s5 := hx.cell d5; have r6 := hx.cell c6; have s6 := hx.cell d6; have r7 := hx.cell c7; have s7 := hx.cell d7; clear hx; go_simp; try rfl)
        simp only [Act.put, List.setIfInBounds_toArray, List.set_cons_zero, List.set_cons_succ]
        refine hl_take_np 14 (by kernel_rfl) (by kernel_rfl) rfl (by kernel_rfl) hs0 (v := ?_) ?_ ?_
        rotate_left
        · (rintro x hx; have r0 := hx.cell c0; have s0 := hx.cell d0; have r1 := hx.cell c1; have s1 := hx.cell d1; have r2 := hx.cell c2; have s2 := hx.cell d2; have r3 := hx.cell c3; have s3 := hx.cell d3; have r4 := hx.cell c4; have s4 := hx.cell d4; have r5 := hx.cell c5; have s5 := hx.cell d5; have r6 := hx.cell c6; have s6 := hx.cell d6; have r7 := hx.cell c7; have s7 := hx.cell d7; clear hx; go_simp; try rfl)
        simp only [Act.put, List.setIfInBounds_toArray, List.set_cons_zero, List.set_cons_succ]
        refine hl_take_np 15 (by kernel_rfl) (by kernel_rfl) rfl (by kernel_rfl) hs0 (v := ?_) ?_ ?_
        rotate_left
        · (rintro x hx; have r0 := hx.cell c0; have s0 := hx.cell d0; have r1 := hx.cell c1; have s1 := hx.cell d1; have r2 := hx.cell c2; have s2 := hx.cell d2; have r3 := hx.cell c3; have s3 := hx.cell d3; have r4 := hx.cell c4; have s4 := hx.cell d4; have r5 := hx.cell c5; have s5 := hx.cell d5; have r6 := hx.cell c6; have s6 := hx.cell d6; have r7 := hx.cell c7; have s7 := hx.cell d7; clear hx; go_simp; try rfl)
        simp only [Act.put, List.setIfInBounds_toArray, List.set_cons_zero, List.set_cons_succ]
        refine hl_take_np 16 (by kernel_rfl) (by kernel_rfl) rfl (by kernel_rfl) hs0 (v := ?_) ?_ ?_
        rotate_left
        · (rintro x hx; have r0 := hx.cell c0; have s0 := hx.cell d0; have r1 := hx.cell c1; have s1 := hx.cell d1; have r2 := hx.cell c2; have s2 := hx.cell d2; have r3 := hx.cell c3; have s3 := hx.cell d3; have r4 := hx.cell c4; have s4 := hx.cell d4; have r5 := hx.cell c5; have s5 := hx.cell d5; have r6 := hx.cell c6; have s6 := hx.cell d6; have r7 := hx.cell c7; have s7 := hx.cell d7; clear hx; go_simp; try rfl)
        simp only [Act.put, List.setIfInBounds_toArray, List.set_cons_zero, List.set_cons_succ]
        refine hl_take_np 17 (by kernel_rfl) (by kernel_rfl) rfl (by kernel_rfl) hs0 (v := ?_) ?_ ?_
        rotate_left
        · (rintro x hx; have r0 := hx.cell c0; have s0 := hx.cell d0; have r1 := hx.cell c1; have s1 := hx.cell d1; have r2 := hx.cell c2; have s2 := hx.cell d2; have r3 := hx.cell c3; have s3 := hx.cell d3; have r4 := hx.cell c4; have s4 := hx.cell d4; have r5 := hx.cell c5; have s5 := hx.cell d5; have r6 := hx.cell c6; have s6 := hx.cell d6; have r7 := hx.cell c7; have s7 := hx.cell d7; clear hx; go_simp; try rfl)
        simp only [Act.put, List.setIfInBounds_toArray, List.set_cons_zero, List.set_cons_succ]
        refine hl_take_np 18 (by kernel_rfl) (by kernel_rfl) rfl (by kernel_rfl) hs0 (v := ?_) ?_ ?_
        rotate_left
        · (rintro x hx; have r0 := hx.cell c0; have s0 := hx.cell d0; have r1 := hx.cell c1; have s1 := hx.cell d1; have r2 := hx.cell c2; have s2 := hx.cell d2; have r3 := hx.cell c3; have s3 := hx.cell d3; have r4 := hx.cell c4; have s4 := hx.cell d4; have r5 := hx.cell c5; have s5 := hx.cell d5; have r6 := hx.cell c6; have s6 := hx.cell d6; have r7 := hx.cell c7; have s7 := hx.cell d7; clear hx; go_simp; try rfl)
        simp only [Act.put, List.setIfInBounds_toArray, List.set_cons_zero, List.set_cons_succ]
        refine hl_take_np 19 (by kernel_rfl) (by kernel_rfl) rfl (by kernel_rfl) hs0 (v := ?_) ?_ ?_
        rotate_left
        · (rintro x hx; have r0 := hx.cell c0; have s0 := hx.cell d0; have r1 := hx.cell c1; have s1 := hx.cell d1; have r2 := hx.cell c2; have s2 := hx.cell d2; have r3 := hx.cell c3; have s3 := hx.cell d3; have r4 := hx.cell c4; have s4 := hx.cell d4; have r5 := hx.cell c5; have s5 := hx.cell d5; have r6 := hx.cell c6; have s6 := hx.cell d6; have r7 := hx.cell c7; have s7 := hx.cell d7; clear hx; go_simp; try rfl)
        simp only [Act.put, List.setIfInBounds_toArray, List.set_cons_zero, List.set_cons_succ]
        refine hl_take_np 20 (by kernel_rfl) (by kernel_rfl) rfl (by kernel_rfl) hs0 (v := ?_) ?_ ?_
        rotate_left
        · (rintro x hx; have r0 := hx.cell c0; have s0 := hx.cell d0; have r1 := hx.cell c1; have s1 := hx.cell d1; have r2 := hx.cell c2; have s2 := hx.cell d2; have r3 := hx.cell c3; have s3 := hx.cell d3; have r4 := hx.cell c4; have s4 := hx.cell d4; have r5 := hx.cell c5; have s5 := hx.cell d5; have r6 := hx.cell c6; have s6 := hx.cell d6; have r7 := hx.cell c7; have s7 := hx.cell d7; clear hx; go_simp; try rfl)
        simp only [Act.put, List.setIfInBounds_toArray, List.set_cons_zero, List.set_cons_succ]
        refine hl_take_np 21 (by kernel_rfl) (by kernel_rfl) rfl (by kernel_rfl) hs0 (v := ?_) ?_ ?_
        rotate_left
        · (rintro x hx; have r0 := hx.cell c0; have s0 := hx.cell d0; have r1 := hx.cell c1; have s1 := hx.cell d1; have r2 := hx.cell c2; have s2 := hx.cell d2; have r3 := hx.cell c3; have s3 := hx.cell d3; have r4 := hx.cell c4; have s4 := hx.cell d4; have r5 := hx.cell c5; have s5 := hx.cell d5; have r6 := hx.cell c6; have s6 := hx.cell d6; have r7 := hx.cell c7; have s7 := hx.cell d7; clear hx; go_simp; try rfl)
        simp only [Act.put, List.setIfInBounds_toArray, List.set_cons_zero, List.set_cons_succ]
        refine hl_take_np 22 (by kernel_rfl) (by kernel_rfl) rfl (by kernel_rfl) hs0 (v := ?_) ?_ ?_
        rotate_left
        · (rintro x hx; have r0 := hx.cell c0; have s0 := hx.cell d0; have r1 := hx.cell c1; have s1 := hx.cell d1; have r2 := hx.cell c2; have s2 := hx.cell d2; have r3 := hx.cell c3; have s3 := hx.cell d3; have r4 := hx.cell c4; have s4 := hx.cell d4; have r5 := hx.cell c5; have s5 := hx.cell d5; have r6 := hx.cell c6; have s6 := hx.cell d6; have r7 := hx.cell c7; have s7 := hx.cell d7; clear hx; go_simp; try rfl)
        simp only [Act.put, List.setIfInBounds_toArray, List.set_cons_zero, List.set_cons_succ]
        refine hl_take_np 23 (by kernel_rfl) (by kernel_rfl) rfl (by kernel_rfl) hs0 (v := ?_) ?_ ?_
        rotate_left
        · (rintro x hx; have r0 := hx.cell c0; have s0 := hx.cell d0; have r1 := hx.cell c1; have s1 := hx.cell d1; have r2 := hx.cell c2; have s2 := hx.cell d2; have r3 := hx.cell c3; have s3 := hx.cell d3; have r4 := hx.cell c4; have s4 := hx.cell d4; have r5 := hx.cell c5; have s5 := hx.cell d5; have r6 := hx.cell c6; have s6 := hx.cell d6; have r7 := hx.cell c7; have s7 := hx.cell d7; clear hx; go_simp; try rfl)
        simp only [Act.put, List.setIfInBounds_toArray, List.set_cons_zero, List.set_cons_succ]
        refine hl_take_np 24 (by kernel_rfl) (by kernel_rfl) rfl (by kernel_rfl) hs0 (v := ?_) ?_ ?_
        rotate_left
        · (rintro x hx; have r0 := hx.cell c0; have s0 := hx.cell d0; have r1 := hx.cell c1; have s1 := hx.cell d1; have r2 := hx.cell c2; have s2 := hx.cell d2; have r3 := hx.cell c3; have s3 := hx.cell d3; have r4 := hx.cell c4; have s4 := hx.cell d4; have r5 := hx.cell c5; have s5 := hx.cell d5; have r6 := hx.cell c6; have s6 := hx.cell d6; have r7 := hx.cell c7; have s7 := hx.cell d7; clear hx; go_simp; try rfl)
        simp only [Act.put, List.setIfInBounds_toArray, List.set_cons_zero, List.set_cons_succ]
        refine hl_take_np 25 (by kernel_rfl) (by kernel_rfl) rfl (by kernel_rfl) hs0 (v := ?_) ?_ ?_
        rotate_left
        · (rintro x hx; have r0 := hx.cell c0; have s0 := hx.cell d0; have r1 := hx.cell c1; have s1 := hx.cell d1; have r2 := hx.cell c2; have s2 := hx.cell d2; have r3 := hx.cell c3; have s3 := hx.cell d3; have r4 := hx.cell c4; have s4 := hx.cell d4; have r5 := hx.cell c5; have s5 := hx.cell d5; have r6 := hx.cell c6; have s6 := hx.cell d6; have r7 := hx.cell c7; have s7 := hx.cell d7; clear hx; go_simp; try rfl)
        simp only [Act.put, List.setIfInBounds_toArray, List.set_cons_zero, List.set_cons_succ]
        refine hl_take_np 26 (by kernel_rfl) (by kernel_rfl) rfl (by kernel_rfl) hs0 (v := ?_) ?_ ?_
        rotate_left
        · (rintro x hx; have r0 := hx.cell c0; have s0 := hx.cell d0; have r1 := hx.cell c1; have s1 := hx.cell d1; have r2 := hx.cell c2; have s2 := hx.cell d2; have r3 := hx.cell c3; have s3 := hx.cell d3; have r4 := hx.cell c4; have s4 := hx.cell d4; have r5 := hx.cell c5; have s5 := hx.cell d5; have r6 := hx.cell c6; have s6 := hx.cell d6; have r7 := hx.cell c7; have s7 := hx.cell d7; clear hx; go_simp; try rfl)
        simp only [Act.put, List.setIfInBounds_toArray, List.set_cons_zero, List.set_cons_succ]
        refine hl_take_np 27 (by kernel_rfl) (by kernel_rfl) rfl (by kernel_rfl) hs0 (v := ?_) ?_ ?_
        rotate_left
        · (rintro x hx; have r0 := hx.cell c0; have s0 := hx.cell d0; have r1 := hx.cell c1; have s1 := hx.cell d1; have r2 := hx.cell c2; have s2 := hx.cell d2; have r3 := hx.cell c3; have s3 := hx.cell d3; have r4 := hx.cell c4; have s4 := hx.cell d4; have r5 := hx.cell c5; have s5 := hx.cell d5; have r6 := hx.cell c6; have s6 := hx.cell d6; have r7 := hx.cell c7; have s7 := hx.cell d7; clear hx; go_simp; try rfl)
        simp only [Act.put, List.setIfInBounds_toArray, List.set_cons_zero, List.set_cons_succ]
        refine hl_take_np 28 (by kernel_rfl) (by kernel_rfl) rfl (by kernel_rfl) hs0 (v := ?_) ?_ ?_
        rotate_left
        · (rintro x hx; have r0 := hx.cell c0; have s0 := hx.cell d0; have r1 := hx.cell c1; have s1 := hx.cell d1; have r2 := hx.cell c2; have s2 := hx.cell d2; have r3 := hx.cell c3; have s3 := hx.cell d3; have r4 := hx.cell c4; have s4 := hx.cell d4; have r5 := hx.cell c5; have s5 := hx.cell d5; have r6 := hx.cell c6; have s6 := hx.cell d6; have r7 := hx.cell c7; have s7 := hx.cell d7; clear hx; go_simp; try rfl)
        simp only [Act.put, List.setIfInBounds_toArray, List.set_cons_zero, List.set_cons_succ]
        refine hl_take_np 29 (by kernel_rfl) (by kernel_rfl) rfl (by kernel_rfl) hs0 (v := ?_) ?_ ?_
        rotate_left
        · (rintro x hx; have r0 := hx.cell c0; have s0 := hx.cell d0; have r1 := hx.cell c1; have s1 := hx.cell d1; have r2 := hx.cell c2; have s2 := hx.cell d2; have r3 := hx.cell c3; have s3 := hx.cell d3; have r4 := hx.cell c4; have s4 := hx.cell d4; have r5 := hx.cell c5; have s5 := hx.cell d5; have r6 := hx.cell c6; have s6 := hx.cell d6; have r7 := hx.cell c7; have s7 := hx.cell d7; clear hx; go_simp; try rfl)
        simp only [Act.put, List.setIfInBounds_toArray, List.set_cons_zero, List.set_cons_succ]
        refine hl_take_np 30 (by kernel_rfl) (by kernel_rfl) rfl (by kernel_rfl) hs0 (v := ?_) ?_ ?_
        rotate_left
        · (rintro x hx; have r0 := hx.cell c0; have s0 := hx.cell d0; have r1 := hx.cell c1; have s1 := hx.cell d1; have r2 := hx.cell c2; have s2 := hx.cell d2; have r3 := hx.cell c3; have s3 := hx.cell d3; have r4 := hx.cell c4; have s4 := hx.cell d4; have r5 := hx.cell c5; have s5 := hx.cell d5; have r6 := hx.cell c6; have s6 := hx.cell d6; have r7 := hx.cell c7; have s7 := hx.cell d7; clear hx; go_simp; try rfl)
        simp only [Act.put, List.setIfInBounds_toArray, List.set_cons_zero, List.set_cons_succ]
        refine hl_take_np 31 (by kernel_rfl) (by kernel_rfl) rfl (by kernel_rfl) hs0 (v := ?_) ?_ ?_
        rotate_left
        · (rintro x hx; have r0 := hx.cell c0; have s0 := hx.cell d0; have r1 := hx.cell c1; have s1 := hx.cell d1; have r2 := hx.cell c2; have s2 := hx.cell d2; have r3 := hx.cell c3; have s3 := hx.cell d3; have r4 := hx.cell c4; have s4 := hx.cell d4; have r5 := hx.cell c5; have s5 := hx.cell d5; have r6 := hx.cell c6; have s6 := hx.cell d6; have r7 := hx.cell c7; have s7 := hx.cell d7; clear hx; go_simp; try rfl)
        simp only [Act.put, List.setIfInBounds_toArray, List.set_cons_zero, List.set_cons_succ]
        refine hl_take_np 32 (by kernel_rfl) (by kernel_rfl) rfl (by kernel_rfl) hs0 (v := ?_) ?_ ?_
        rotate_left
        · (rintro x hx; have r0 := hx.cell c0; have s0 := hx.cell d0; have r1 := hx.cell c1; have s1 := hx.cell d1; have r2 := hx.cell c2; have s2 := hx.cell d2; have r3 := hx.cell c3; have s3 := hx.cell d3; have r4 := hx.cell c4; have s4 := hx.cell d4; have r5 := hx.cell c5; have s5 := hx.cell d5; have r6 := hx.cell c6; have s6 := hx.cell d6; have r7 := hx.cell c7; have s7 := hx.cell d7; clear hx; go_simp; try rfl)
        simp only [Act.put, List.setIfInBounds_toArray, List.set_cons_zero, List.set_cons_succ]
        refine hl_take_np 33 (by kernel_rfl) (by kernel_rfl) rfl (by kernel_rfl) hs0 (v := ?_) ?_ ?_
        rotate_left
        · (rintro x hx; have r0 := hx.cell c0; have s0 := hx.cell d0; have r1 := hx.cell c1; have s1 := hx.cell d1; have r2 := hx.cell c2; have s2 := hx.cell d2; have r3 := hx.cell c3; have s3 := hx.cell d3; have r4 := hx.cell c4; have s4 := hx.cell d4; have r5 := hx.cell c5; have s5 := hx.cell d5; have r6 := hx.cell c6; have s6 := hx.cell d6; have r7 := hx.cell c7; have s7 := hx.cell d7; clear hx; go_simp; try rfl)
        simp only [Act.put, List.setIfInBounds_toArray, List.set_cons_zero, List.set_cons_succ]
        refine hl_take_np 34 (by kernel_rfl) (by kernel_rfl) rfl (by kernel_rfl) hs0 (v := ?_) ?_ ?_
        rotate_left
        · (rintro x hx; have r0 := hx.cell c0; have s0 := hx.cell d0; have r1 := hx.cell c1; have s1 := hx.cell d1; have r2 := hx.cell c2; have s2 := hx.cell d2; have r3 := hx.cell c3; have s3 := hx.cell d3; have r4 := hx.cell c4; have s4 := hx.cell d4; have r5 := hx.cell c5; have s5 := hx.cell d5; have r6 := hx.cell c6; have s6 := hx.cell d6; have r7 := hx.cell c7; have s7 := hx.cell d7; clear hx; go_simp; try rfl)
        simp only [Act.put, List.setIfInBounds_toArray, List.set_cons_zero, List.set_cons_succ]
        refine hl_take_np 35 (by kernel_rfl) (by kernel_rfl) rfl (by kernel_rfl) hs0 (v := ?_) ?_ ?_
        rotate_left
        · (rintro x hx; have r0 := hx.cell c0; have s0 := hx.cell d0; have r1 := hx.cell c1; have s1 := hx.cell d1; have r2 := hx.cell c2; have s2 := hx.cell d2; have r3 := hx.cell c3; have s3 := hx.cell d3; have r4 := hx.cell c4; have s4 := hx.cell d4; have r5 := hx.cell c5; have s5 := hx.cell d5; have r6 := hx.cell c6; have s6 := hx.cell d6; have r7 := hx.cell c7; have s7 := hx.cell d7; clear hx; go_simp; try rfl)
        simp only [Act.put, List.setIfInBounds_toArray, List.set_cons_zero, List.set_cons_succ]
        refine hl_take_np 36 (by kernel_rfl) (by kernel_rfl) rfl (by kernel_rfl) hs0 (v := ?_) ?_ ?_
        rotate_left
        · (rintro x hx; have r0 := hx.cell c0; have s0 := hx.cell d0; have r1 := hx.cell c1; have s1 := hx.cell d1; have r2 := hx.cell c2; have s2 := hx.cell d2; have r3 := hx.cell c3; have s3 := hx.cell d3; have r4 := hx.cell c4; have s4 := hx.cell d4; have r5 := hx.cell c5; have s5 := hx.cell d5; have r6 := hx.cell c6; have s6 := hx.cell d6; have r7 := hx.cell c7; have s7 := hx.cell d7; clear hx; go_simp; try rfl)
        simp only [Act.put, List.setIfInBounds_toArray, List.set_cons_zero, List.set_cons_succ]
        refine hl_take_np 37 (by kernel_rfl) (by kernel_rfl) rfl (by kernel_rfl) hs0 (v := ?_) ?_ ?_
        rotate_left
        · (rintro x hx; have r0 := hx.cell c0; have s0 := hx.cell d0; have r1 := hx.cell c1; have s1 := hx.cell d1; have r2 := hx.cell c2; have s2 := hx.cell d2; have r3 := hx.cell c3; have s3 := hx.cell d3; have r4 := hx.cell c4; have s4 := hx.cell d4; have r5 := hx.cell c5; have s5 := hx.cell d5; have r6 := hx.cell c6; have s6 := hx.cell d6; have r7 := hx.cell c7; have s7 := hx.cell d7; clear hx; go_simp; try rfl)
        simp only [Act.put, List.setIfInBounds_toArray, List.set_cons_zero, List.set_cons_succ]
        refine hl_take_np 38 (by kernel_rfl) (by kernel_rfl) rfl (by kernel_rfl) hs0 (v := ?_) ?_ ?_
        rotate_left
        · (rintro x hx; have r0 := hx.cell c0; have s0 := hx.cell d0; have r1 := hx.cell c1; have s1 := hx.cell d1; have r2 := hx.cell c2; have s2 := hx.cell d2; have r3 := hx.cell c3; have s3 := hx.cell d3; have r4 := hx.cell c4; have s4 := hx.cell d4; have r5 := hx.cell c5; have s5 := hx.cell d5; have r6 := hx.cell c6; have s6 := hx.cell d6; have r7 := hx.cell c7; have s7 := hx.cell d7; clear hx; go_simp; try rfl)
        simp only [Act.put, List.setIfInBounds_toArray, List.set_cons_zero, List.set_cons_succ]
        refine hl_take_np 39 (by kernel_rfl) (by kernel_rfl) rfl (by kernel_rfl) hs0 (v := ?_) ?_ ?_
        rotate_left
        · (rintro x hx; have r0 := hx.cell c0; have s0 := hx.cell d0; have r1 := hx.cell c1; have s1 := hx.cell d1; have r2 := hx.cell c2; have s2 := hx.cell d2; have r3 := hx.cell c3; have s3 := hx.cell d3; have r4 := hx.cell c4; have s4 := hx.cell d4; have r5 := hx.cell c5; have s5 := hx.cell d5; have r6 := hx.cell c6; have s6 := hx.cell d6; have r7 := hx.cell c7; have s7 := hx.cell d7; clear hx; go_simp; try rfl)
        simp only [Act.put, List.setIfInBounds_toArray, List.set_cons_zero, List.set_cons_succ]
        refine hl_take_np 40 (by kernel_rfl) (by kernel_rfl) rfl (by kernel_rfl) hs0 (v := ?_) ?_ ?_
        rotate_left
        · (rintro x hx; have r0 := hx.cell c0; have s0 := hx.cell d0; have r1 := hx.cell c1; have s1 := hx.cell d1; have r2 := hx.cell c2; have s2 := hx.cell d2; have r3 := hx.cell c3; have s3 := hx.cell d3; have r4 := hx.cell c4; have s4 := hx.cell d4; have r5 := hx.cell c5; have s5 := hx.cell d5; have r6 := hx.cell c6; have s6 := hx.cell d6; have r7 := hx.cell c7; have s7 := hx.cell d7; clear hx; go_simp; try rfl)
        simp only [Act.put, List.setIfInBounds_toArray, List.set_cons_zero, List.set_cons_succ]
        refine hl_take_np 41 (by kernel_rfl) (by kernel_rfl) rfl (by kernel_rfl) hs0 (v := ?_) ?_ ?_
        rotate_left
        · (rintro x hx; have r0 := hx.cell c0; have s0 := hx.cell d0; have r1 := hx.cell c1; have s1 := hx.cell d1; have r2 := hx.cell c2; have s2 := hx.cell d2; have r3 := hx.cell c3; have s3 := hx.cell d3; have r4 := hx.cell c4; have s4 := hx.cell d4; have r5 := hx.cell c5; have s5 := hx.cell d5; have r6 := hx.cell c6; have s6 := hx.cell d6; have r7 := hx.cell c7; have s7 := hx.cell d7; clear hx; go_simp; try rfl)
        simp only [Act.put, List.setIfInBounds_toArray, List.set_cons_zero, List.set_cons_succ]
        refine hl_take_np 42 (by kernel_rfl) (by kernel_rfl) rfl (by kernel_rfl) hs0 (v := ?_) ?_ ?_
        rotate_left
        · (rintro x hx; have r0 := hx.cell c0; have s0 := hx.cell d0; have r1 := hx.cell c1; have s1 := hx.cell d1; have r2 := hx.cell c2; have s2 := hx.cell d2; have r3 := hx.cell c3; have s3 := hx.cell d3; have r4 := hx.cell c4; have s4 := hx.cell d4; have r5 := hx.cell c5; have s5 := hx.cell d5; have r6 := hx.cell c6; have s6 := hx.cell d6; have r7 := hx.cell c7; have s7 := hx.cell d7; clear hx; go_simp; try rfl)
        simp only [Act.put, List.setIfInBounds_toArray, List.set_cons_zero, List.set_cons_succ]
        refine hl_take_np 43 (by kernel_rfl) (by kernel_rfl) rfl (by kernel_rfl) hs0 (v := ?_) ?_ ?_
        rotate_left
        · (rintro x hx; have r0 := hx.cell c0; have s0 := hx.cell d0; have r1 := hx.cell c1; have s1 := hx.cell d1; have r2 := hx.cell c2; have s2 := hx.cell d2; have r3 := hx.cell c3; have s3 := hx.cell d3; have r4 := hx.cell c4; have s4 := hx.cell d4; have r5 := hx.cell c5; have s5 := hx.cell d5; have r6 := hx.cell c6; have s6 := hx.cell d6; have r7 := hx.cell c7; have s7 := hx.cell d7; clear hx; go_simp; try rfl)
        simp only [Act.put, List.setIfInBounds_toArray, List.set_cons_zero, List.set_cons_succ]
        refine hl_take_np 44 (by kernel_rfl) (by kernel_rfl) rfl (by kernel_rfl) hs0 (v := ?_) ?_ ?_
        rotate_left
        · (rintro x hx; have r0 := hx.cell c0; have s0 := hx.cell d0; have r1 := hx.cell c1; have s1 := hx.cell d1; have r2 := hx.cell c2; have s2 := hx.cell d2; have r3 := hx.cell c3; have s3 := hx.cell d3; have r4 := hx.cell c4; have s4 := hx.cell d4; have r5 := hx.cell c5; have s5 := hx.cell d5; have r6 := hx.cell c6; have s6 := hx.cell d6; have r7 := hx.cell c7; have s7 := hx.cell d7; clear hx; go_simp; try rfl)
        simp only [Act.put, List.setIfInBounds_toArray, List.set_cons_zero, List.set_cons_succ]
        refine hl_take_np 45 (by kernel_rfl) (by kernel_rfl) rfl (by kernel_rfl) hs0 (v := ?_) ?_ ?_
        rotate_left
        · (rintro x hx; have r0 := hx.cell c0; have s0 := hx.cell d0; have r1 := hx.cell c1; have s1 := hx.cell d1; have r2 := hx.cell c2; have s2 := hx.cell d2; have r3 := hx.cell c3; have s3 := hx.cell d3; have r4 := hx.cell c4; have s4 := hx.cell d4; have r5 := hx.cell c5; have s5 := hx.cell d5; have r6 := hx.cell c6; have s6 := hx.cell d6; have r7 := hx.cell c7; have s7 := hx.cell d7; clear hx; go_simp; try rfl)
        simp only [Act.put, List.setIfInBounds_toArray, List.set_cons_zero, List.set_cons_succ]
        refine hl_take_np 46 (by kernel_rfl) (by kernel_rfl) rfl (by kernel_rfl) hs0 (v := ?_) ?_ ?_
        rotate_left
        · (rintro x hx; have r0 := hx.cell c0; have s0 := hx.cell d0; have r1 := hx.cell c1; have s1 := hx.cell d1; have r2 := hx.cell c2; have s2 := hx.cell d2; have r3 := hx.cell c3; have s3 := hx.cell d3; have r4 := hx.cell c4; have s4 := hx.cell d4; have r5 := hx.cell c5; have s5 := hx.cell d5; have r6 := hx.cell c6; have s6 := hx.cell d6; have r7 := hx.cell c7; have s7 := hx.cell d7; clear hx; go_simp; try rfl)
        simp only [Act.put, List.setIfInBounds_toArray, List.set_cons_zero, List.set_cons_succ]
        refine hl_take_np 47 (by kernel_rfl) (by kernel_rfl) rfl (by kernel_rfl) hs0 (v := ?_) ?_ ?_
        rotate_left
        · (rintro x hx; have r0 := hx.cell c0; have s0 := hx.cell d0; have r1 := hx.cell c1; have s1 := hx.cell d1; have r2 := hx.cell c2; have s2 := hx.cell d2; have r3 := hx.cell c3; have s3 := hx.cell d3; have r4 := hx.cell c4; have s4 := hx.cell d4; have r5 := hx.cell c5; have s5 := hx.cell d5; have r6 := hx.cell c6; have s6 := hx.cell d6; have r7 := hx.cell c7; have s7 := hx.cell d7; clear hx; go_simp; try rfl)
        simp only [Act.put, List.setIfInBounds_toArray, List.set_cons_zero, List.set_cons_succ]
        refine hl_stepW 48 (by kernel_rfl) rfl (by kernel_rfl) ?_
        intro K hK
        go_simp
        refine (HSE.out _ hs0).mono ?_
        rintro e0 w6 ⟨rfl, hga⟩
        have hs1 : G wr w6 := hs0.trans hga
        refine hK _ _ (fun _ => hs1) ?_
        clear hK
        simp only [Act.put, List.setIfInBounds_toArray, List.set_cons_zero, List.set_cons_succ]
        refine hl_take_np 49 (by kernel_rfl) (by kernel_rfl) rfl (by kernel_rfl) hs1 (v := ?_) ?_ ?_
        rotate_left
        · (rintro x hx; clear hx; go_simp; try rfl)
        simp only [Act.put, List.setIfInBounds_toArray, List.set_cons_zero, List.set_cons_succ]
        refine hl_take_np 50 (by kernel_rfl) (by kernel_rfl) rfl (by kernel_rfl) hs1 (v := ?_) ?_ ?_
        rotate_left
        · (rintro x hx; clear hx; go_simp; try rfl)
        simp only [Act.put, List.setIfInBounds_toArray, List.set_cons_zero, List.set_cons_succ]
        refine hl_done (by kernel_rfl) ?_ _
        refine NoPanic.normal ?_
        have HG7 := Lib.hid (HG.out.trans hs1)
        clear hs0 hs1 hga c0 c1 c2 c3 c4 c5 c6 c7 d0 d1 d2 d3 d4 d5 d6 d7 HSE
        go_wp2_with fail
        go_roundw
        case rel => exact ⟨i + 1, by go_num, by omega, HG7⟩
        case measure => simp [intOf]; omega
    · have hgE := HG.out
      go_wp2_with fail
      go_ret
      exact ⟨rfl, hgE⟩
end Go.Proofs.Ythhmmjpgefinmaa
