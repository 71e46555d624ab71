/- laid together: EdgeD -/
import Derived.Test.YtahdodijpmkddaaEdgeC
/- edges: the document's Check -/
namespace Go.Proofs.Ytahdodijpmkddaa
set_option linter.unusedVariables false
set_option linter.unusedSimpArgs false
open Go.RowKit Go.Shelf
attribute [local go_sem] Oper.semAt_some

theorem leB_empty {x : ByteArray} (h : freeB x = true) : leB x ⟨#[]⟩ = false := by
  simp only [freeB, vertexB, Bool.and_eq_true, decide_eq_true_eq] at h
  have h1 := h.1.1.1.1
  have : x.toList ≠ [] := by
    intro e
    have e2 := ByteArray.toList_eq x
    rw [e] at e2
    have e3 : x.data.toList.length = 0 := by rw [← e2]; rfl
    have : x.size = 0 := by simpa using e3
    omega
  have e4 : (⟨#[]⟩ : ByteArray).toList = [] := by rw [ByteArray.toList_eq]
  rw [leB, e4]
  cases hx : x.toList with
  | nil => exact absurd hx this
  | cons a l => simp [Op.bytesLess]
theorem less_tri : ∀ x y : List UInt8, (Op.bytesLess x y || (x == y)) = !Op.bytesLess y x
  | [], [] => rfl
  | _ :: _, [] => by simp [Op.bytesLess]
  | [], _ :: _ => by simp [Op.bytesLess]
  | a :: x, b :: y => by
    have ih := less_tri x y
    rw [Op.bytesLess, Op.bytesLess]
    rcases Nat.lt_trichotomy a.toNat b.toNat with h | h | h
    · have h1 : a < b := h
      have h2 : ¬ b < a := by intro h'; have : b.toNat < a.toNat := h'; omega
      have h3 : ¬ b = a := by rintro rfl; omega
      simp [h1, h2, h3]
    · have h1 : a = b := UInt8.toNat_inj.1 h
      subst h1
      simp at ih ⊢
      simpa using ih
    · have h1 : b < a := h
      have h2 : ¬ a < b := by intro h'; have : a.toNat < b.toNat := h'; omega
      have h3 : ¬ a = b := by rintro rfl; omega
      simp [h1, h2, h3]
theorem leB_less (x y : ByteArray) : leB x y = !Op.bytesLess y.toList x.toList := less_tri _ _
theorem rRight_is (x : Val) (b : Bool) (w : World) (hs : x.2.2.size ≤ maxLen) (h : rightV x = b) : Calls Try.prog 65 #[vv x] w fun e w' => e = .returned (.bool b) ∧ G w w' := by rw [← h]; exact rRight_any x w hs

set_option maxRecDepth 10000 in
set_option maxHeartbeats 16000000 in
theorem rCheck_any (E : Edg) (w : World) (h : EdgAt w E) : Calls Try.prog 35 #[ev E] w fun e w' => e = .returned (.int .i64 (checkE E)) ∧ G w w' := by
  obtain ⟨f, t, l, tm, v, ps⟩ := E
  obtain ⟨-, vp, vc, hvv, -⟩ := id h.rdr
  simp only at hvv
  subst hvv
  obtain ⟨hr, hn, hz, hf, ht, hl⟩ := h
  simp only at hr hn hz hf ht hl
  obtain ⟨n, hnn⟩ : ∃ n, n = ps.length := ⟨_, rfl⟩
  have HC := Lib.hid (show checkE ⟨f, t, l, tm, .slice vp ps.length vc, ps⟩ = checkP f t l tm ps from rfl)
  rw [← hnn] at hr hn HC ⊢
  have HR := Lib.hid hr
  have HZ := Lib.hid hz
  have HN := Lib.hid hnn
  unfold ev
  simp only
  have hgA : G w (w.alloc (.cells #[.string f, .string t, .string l, .int .i64 tm, .slice vp n vc] 33)) := (G.refl w).alloc _
  have c0 := cell_alloc_at w [.string f, .string t, .string l, .int .i64 tm, .slice vp n vc] 33 (0, 0) 0 _ rfl
  have c1 := cell_alloc_at w [.string f, .string t, .string l, .int .i64 tm, .slice vp n vc] 33 (0, 0) 1 _ rfl
  have c2 := cell_alloc_at w [.string f, .string t, .string l, .int .i64 tm, .slice vp n vc] 33 (0, 0) 2 _ rfl
  have c3 := cell_alloc_at w [.string f, .string t, .string l, .int .i64 tm, .slice vp n vc] 33 (0, 0) 3 _ rfl
  have c4 := cell_alloc_at w [.string f, .string t, .string l, .int .i64 tm, .slice vp n vc] 33 (0, 0) 4 _ rfl
  simp only [Nat.zero_add] at c0 c1 c2 c3 c4
  clear hnn hr hz
  go_enter Try.func35, Try.ntmps35
  go_upto_region 1 with fail
  generalize (w.alloc (.cells #[.string f, .string t, .string l, .int .i64 tm, .slice vp n vc] 33)) = W0 at hgA c0 c1 c2 c3 c4 ⊢
  cases hv1 : vertexB f
  · have H2 := Lib.hid (show checkE ⟨f, t, l, tm, .slice vp n vc, ps⟩ = 2 by rw [HC.out, checkP, hv1]; simp)
    have HF0 := Lib.hid (rVertex_is f false W0 hf hv1)
    clear hv1 HC
    go_wp2_with fail
    refine HF0.out.mono ?_
    rintro e w1 ⟨rfl, rfl⟩
    go_wp2_with fail
    go_ret
    exact ⟨by rw [H2.out]; rfl, hgA⟩
  cases hv2 : vertexB t
  · have H2 := Lib.hid (show checkE ⟨f, t, l, tm, .slice vp n vc, ps⟩ = 2 by rw [HC.out, checkP, hv1, hv2]; simp)
    have HF0 := Lib.hid (rVertex_is f true W0 hf hv1)
    have HF1 := Lib.hid (rVertex_is t false W0 ht hv2)
    clear hv1 hv2 HC
    go_wp2_with fail
    refine HF0.out.mono ?_
    rintro e w1 ⟨rfl, rfl⟩
    go_wp2_with fail
    refine HF1.out.mono ?_
    rintro e w1 ⟨rfl, rfl⟩
    go_wp2_with fail
    go_ret
    exact ⟨by rw [H2.out]; rfl, hgA⟩
  cases hv3 : freeB l
  · have H2 := Lib.hid (show checkE ⟨f, t, l, tm, .slice vp n vc, ps⟩ = 2 by rw [HC.out, checkP, hv1, hv2, hv3]; simp)
    have HF0 := Lib.hid (rVertex_is f true W0 hf hv1)
    have HF1 := Lib.hid (rVertex_is t true W0 ht hv2)
    have HF2 := Lib.hid (rFree_is l false W0 hl hv3)
    clear hv1 hv2 hv3 HC
    go_wp2_with fail
    refine HF0.out.mono ?_
    rintro e w1 ⟨rfl, rfl⟩
    go_wp2_with fail
    refine HF1.out.mono ?_
    rintro e w1 ⟨rfl, rfl⟩
    go_wp2_with fail
    refine HF2.out.mono ?_
    rintro e w1 ⟨rfl, rfl⟩
    go_wp2_with fail
    go_ret
    exact ⟨by rw [H2.out]; rfl, hgA⟩
  have HF0 := Lib.hid (rVertex_is f true W0 hf hv1)
  have HF1 := Lib.hid (rVertex_is t true W0 ht hv2)
  have HF2 := Lib.hid (rFree_is l true W0 hl hv3)
  by_cases h8 : 8 < n
  · have H2 := Lib.hid (show checkE ⟨f, t, l, tm, .slice vp n vc, ps⟩ = 2 by
      rw [HC.out, checkP, hv1, hv2, hv3, propsB]
      have : decide (ps.length ≤ 8) = false := by rw [← HN.out]; simpa using h8
      rw [this]; simp)
    clear hv1 hv2 hv3 HC
    go_wp2_with fail
    refine HF0.out.mono ?_
    rintro e w1 ⟨rfl, rfl⟩
    go_wp2_with fail
    refine HF1.out.mono ?_
    rintro e w1 ⟨rfl, rfl⟩
    go_wp2_with fail
    refine HF2.out.mono ?_
    rintro e w1 ⟨rfl, rfl⟩
    go_wp2_with fail
    go_ret
    exact ⟨by rw [H2.out]; rfl, hgA⟩
  have HC2 : Hid (checkE ⟨f, t, l, tm, .slice vp n vc, ps⟩ = if risB ⟨#[]⟩ ps = true then (if timeB tm = true then 0 else 6) else 2) := Lib.hid (by
    rw [HC.out, checkP, hv1, hv2, hv3, propsB]
    have : decide (ps.length ≤ 8) = true := by rw [← HN.out]; simpa using h8
    rw [this]; simp)
  clear hv1 hv2 hv3 HC
  go_wp2_with fail
  refine HF0.out.mono ?_
  rintro e w1 ⟨rfl, rfl⟩
  go_wp2_with fail
  refine HF1.out.mono ?_
  rintro e w1 ⟨rfl, rfl⟩
  go_wp2_with fail
  refine HF2.out.mono ?_
  rintro e w1 ⟨rfl, rfl⟩
  clear HF0 HF1 HF2 c0 c1 c2
  go_wp2_with fail
  go_loopw [3] (fun i wr => ∃ (k : Nat) (last : ByteArray), k ≤ n ∧ i = .int .i64 k ∧ (k = 0 ∧ last = ⟨#[]⟩ ∨ ∃ j y, k = j + 1 ∧ ps[j]? = some y ∧ y.1 = last) ∧ Hid (risB ⟨#[]⟩ ps = risB last (ps.drop k)) ∧ G W0 wr) (fun i _ => n - (intOf i).toNat)
  case atStart => exact ⟨0, ⟨#[]⟩, by omega, rfl, .inl ⟨rfl, rfl⟩, Lib.hid rfl, G.refl _⟩
  case round =>
    obtain ⟨k, last, hk, rfl, hlast, HRS, hg⟩ := hrel
    obtain ⟨WA, rfl⟩ : ∃ WA : World, WA = wr := ⟨_, rfl⟩
    have b3 := hg.cell c3
    have b4 := hg.cell c4
    by_cases hlt : k < n
    · have hkn : (k : Int) < (n : Int) := by omega
      obtain ⟨x, hx⟩ : ∃ x, ps[k]? = some x := ⟨ps[k]'(by have := HN.out; omega), List.getElem?_eq_getElem _⟩
      obtain ⟨b, o, rfl, q0, q1, q2, q3⟩ := HR.out.prop hx
      have hz1 := HZ.out x (List.mem_of_getElem? hx)
      have hdr : ps.drop k = x :: ps.drop (k + 1) := by rw [List.drop_eq_getElem_cons (by have := HN.out; omega)]; congr 1; exact Option.some.inj ((List.getElem?_eq_getElem _).symm.trans hx)
      have hgw := hgA.trans hg
      have q0 := hgw.cell q0
      have q1 := hgw.cell q1
      have q2 := hgw.cell q2
      have q3 := hgw.cell q3
      have hnxt : ∀ y, ps[k]? = some y → y.1 = x.1 := fun y hy => by rw [hx] at hy; cases hy; rfl
      have HX := Lib.hid hx
      obtain ⟨x0, x1, x2, x3⟩ := x
      simp only at q0 q1 q2 q3 hz1
      rw [hdr, risB] at HRS
      have hz0 := hz1.1
      have hz3 := hz1.2
      have HDR := Lib.hid hdr
      clear hdr hx hz1 hnxt c3 c4
      go_upto_region 6 with fail
      refine region_hl (fun w' => G WA w') 99 38 (by kernel_rfl) rfl ?_
      simp only [List.replicate_succ, List.replicate_zero]
      have hs0 : G WA WA.drew := (G.refl WA).drew
      cases hf1 : freeB x0
      · have H2 := Lib.hid (show checkE ⟨f, t, l, tm, .slice (some ⟨b, o, none⟩) n vc, ps⟩ = 2 by rw [HC2.out, HRS.out, hf1]; simp)
        clear HC2 HRS hlast
        refine hl_take_np 0 (by kernel_rfl) (by kernel_rfl) rfl (by kernel_rfl) hs0 (v := ?_) ?_ ?_
        rotate_left
        · (rintro x hx; have k1 := hx.cell b4; have k2 := hx.cell q0; have k3 := hx.cell q1; have k4 := hx.cell q2; have k5 := hx.cell q3; clear hx; go_simp; try rfl)
        simp only [Act.put, List.setIfInBounds_toArray, List.set_cons_zero, List.set_cons_succ]
        refine hl_take_np 1 (by kernel_rfl) (by kernel_rfl) rfl (by kernel_rfl) hs0 (v := ?_) ?_ ?_
        rotate_left
        · (rintro x hx; have k1 := hx.cell b4; have k2 := hx.cell q0; have k3 := hx.cell q1; have k4 := hx.cell q2; have k5 := hx.cell q3; clear hx; go_simp; try rfl)
        simp only [Act.put, List.setIfInBounds_toArray, List.set_cons_zero, List.set_cons_succ]
        refine hl_take_np 2 (by kernel_rfl) (by kernel_rfl) rfl (by kernel_rfl) hs0 (v := ?_) ?_ ?_
        rotate_left
        · (rintro x hx; have k1 := hx.cell b4; have k2 := hx.cell q0; have k3 := hx.cell q1; have k4 := hx.cell q2; have k5 := hx.cell q3; clear hx; go_simp; try rfl)
        simp only [Act.put, List.setIfInBounds_toArray, List.set_cons_zero, List.set_cons_succ]
        refine hl_take_np 3 (by kernel_rfl) (by kernel_rfl) rfl (by kernel_rfl) hs0 (v := ?_) ?_ ?_
        rotate_left
        · (rintro x hx; have k1 := hx.cell b4; have k2 := hx.cell q0; have k3 := hx.cell q1; have k4 := hx.cell q2; have k5 := hx.cell q3; clear hx; go_simp; try rfl)
        simp only [Act.put, List.setIfInBounds_toArray, List.set_cons_zero, List.set_cons_succ]
        refine hl_take_np 4 (by kernel_rfl) (by kernel_rfl) rfl (by kernel_rfl) hs0 (v := ?_) ?_ ?_
        rotate_left
        · (rintro x hx; have k1 := hx.cell b4; have k2 := hx.cell q0; have k3 := hx.cell q1; have k4 := hx.cell q2; have k5 := hx.cell q3; clear hx; go_simp; try rfl)
        simp only [Act.put, List.setIfInBounds_toArray, List.set_cons_zero, List.set_cons_succ]
        refine hl_take_np 5 (by kernel_rfl) (by kernel_rfl) rfl (by kernel_rfl) hs0 (v := ?_) ?_ ?_
        rotate_left
        · (rintro x hx; have k1 := hx.cell b4; have k2 := hx.cell q0; have k3 := hx.cell q1; have k4 := hx.cell q2; have k5 := hx.cell q3; clear hx; go_simp; try rfl)
        simp only [Act.put, List.setIfInBounds_toArray, List.set_cons_zero, List.set_cons_succ]
        refine hl_stepW 6 (by kernel_rfl) rfl (by kernel_rfl) ?_
        intro K hK
        go_simp
        refine (rFree_is x0 false _ hz0 hf1).mono ?_
        rintro e w1 ⟨rfl, rfl⟩
        refine hK _ _ (fun _ => hs0) ?_
        clear hK K
        simp only [Act.put, List.setIfInBounds_toArray, List.set_cons_zero, List.set_cons_succ]
        refine hl_take_np 7 (by kernel_rfl) (by kernel_rfl) rfl (by kernel_rfl) hs0 (v := ?_) ?_ ?_
        rotate_left
        · (rintro x hx; have k1 := hx.cell b4; have k2 := hx.cell q0; have k3 := hx.cell q1; have k4 := hx.cell q2; have k5 := hx.cell q3; clear hx; go_simp; try rfl)
        simp only [Act.put, List.setIfInBounds_toArray, List.set_cons_zero, List.set_cons_succ]
        refine hl_take_np 8 (by kernel_rfl) (by kernel_rfl) rfl (by kernel_rfl) hs0 (v := ?_) ?_ ?_
        rotate_left
        · (rintro x hx; have k1 := hx.cell b4; have k2 := hx.cell q0; have k3 := hx.cell q1; have k4 := hx.cell q2; have k5 := hx.cell q3; clear hx; go_simp; try rfl)
        simp only [Act.put, List.setIfInBounds_toArray, List.set_cons_zero, List.set_cons_succ]
        refine hl_skip_np 9 (by kernel_rfl) (by kernel_rfl) rfl (by kernel_rfl) hs0 ?_
        simp only [Act.put, List.setIfInBounds_toArray, List.set_cons_zero, List.set_cons_succ]
        refine hl_skip_np 10 (by kernel_rfl) (by kernel_rfl) rfl (by kernel_rfl) hs0 ?_
        simp only [Act.put, List.setIfInBounds_toArray, List.set_cons_zero, List.set_cons_succ]
        refine hl_skip_np 11 (by kernel_rfl) (by kernel_rfl) rfl (by kernel_rfl) hs0 ?_
        simp only [Act.put, List.setIfInBounds_toArray, List.set_cons_zero, List.set_cons_succ]
        refine hl_skip_np 12 (by kernel_rfl) (by kernel_rfl) rfl (by kernel_rfl) hs0 ?_
        simp only [Act.put, List.setIfInBounds_toArray, List.set_cons_zero, List.set_cons_succ]
        refine hl_skip_np 13 (by kernel_rfl) (by kernel_rfl) rfl (by kernel_rfl) hs0 ?_
        simp only [Act.put, List.setIfInBounds_toArray, List.set_cons_zero, List.set_cons_succ]
        refine hl_skip_np 14 (by kernel_rfl) (by kernel_rfl) rfl (by kernel_rfl) hs0 ?_
        simp only [Act.put, List.setIfInBounds_toArray, List.set_cons_zero, List.set_cons_succ]
        refine hl_skip_np 15 (by kernel_rfl) (by kernel_rfl) rfl (by kernel_rfl) hs0 ?_
        simp only [Act.put, List.setIfInBounds_toArray, List.set_cons_zero, List.set_cons_succ]
        refine hl_skip_np 16 (by kernel_rfl) (by kernel_rfl) rfl (by kernel_rfl) hs0 ?_
        simp only [Act.put, List.setIfInBounds_toArray, List.set_cons_zero, List.set_cons_succ]
        refine hl_take_np 17 (by kernel_rfl) (by kernel_rfl) rfl (by kernel_rfl) hs0 (v := ?_) ?_ ?_
        rotate_left
        · (rintro x hx; have k1 := hx.cell b4; have k2 := hx.cell q0; have k3 := hx.cell q1; have k4 := hx.cell q2; have k5 := hx.cell q3; clear hx; go_simp; try rfl)
        simp only [Act.put, List.setIfInBounds_toArray, List.set_cons_zero, List.set_cons_succ]
        refine hl_take_np 18 (by kernel_rfl) (by kernel_rfl) rfl (by kernel_rfl) hs0 (v := ?_) ?_ ?_
        rotate_left
        · (rintro x hx; have k1 := hx.cell b4; have k2 := hx.cell q0; have k3 := hx.cell q1; have k4 := hx.cell q2; have k5 := hx.cell q3; clear hx; go_simp; try rfl)
        simp only [Act.put, List.setIfInBounds_toArray, List.set_cons_zero, List.set_cons_succ]
        refine hl_skip_np 19 (by kernel_rfl) (by kernel_rfl) rfl (by kernel_rfl) hs0 ?_
        simp only [Act.put, List.setIfInBounds_toArray, List.set_cons_zero, List.set_cons_succ]
        refine hl_skip_np 20 (by kernel_rfl) (by kernel_rfl) rfl (by kernel_rfl) hs0 ?_
        simp only [Act.put, List.setIfInBounds_toArray, List.set_cons_zero, List.set_cons_succ]
        refine hl_skip_np 21 (by kernel_rfl) (by kernel_rfl) rfl (by kernel_rfl) hs0 ?_
        simp only [Act.put, List.setIfInBounds_toArray, List.set_cons_zero, List.set_cons_succ]
        refine hl_skip_np 22 (by kernel_rfl) (by kernel_rfl) rfl (by kernel_rfl) hs0 ?_
        simp only [Act.put, List.setIfInBounds_toArray, List.set_cons_zero, List.set_cons_succ]
        refine hl_skip_np 23 (by kernel_rfl) (by kernel_rfl) rfl (by kernel_rfl) hs0 ?_
        simp only [Act.put, List.setIfInBounds_toArray, List.set_cons_zero, List.set_cons_succ]
        refine hl_skip_np 24 (by kernel_rfl) (by kernel_rfl) rfl (by kernel_rfl) hs0 ?_
        simp only [Act.put, List.setIfInBounds_toArray, List.set_cons_zero, List.set_cons_succ]
        refine hl_skip_np 25 (by kernel_rfl) (by kernel_rfl) rfl (by kernel_rfl) hs0 ?_
        simp only [Act.put, List.setIfInBounds_toArray, List.set_cons_zero, List.set_cons_succ]
        refine hl_skip_np 26 (by kernel_rfl) (by kernel_rfl) rfl (by kernel_rfl) hs0 ?_
        simp only [Act.put, List.setIfInBounds_toArray, List.set_cons_zero, List.set_cons_succ]
        refine hl_skip_np 27 (by kernel_rfl) (by kernel_rfl) rfl (by kernel_rfl) hs0 ?_
        simp only [Act.put, List.setIfInBounds_toArray, List.set_cons_zero, List.set_cons_succ]
        refine hl_skip_np 28 (by kernel_rfl) (by kernel_rfl) rfl (by kernel_rfl) hs0 ?_
        simp only [Act.put, List.setIfInBounds_toArray, List.set_cons_zero, List.set_cons_succ]
        refine hl_skip_np 29 (by kernel_rfl) (by kernel_rfl) rfl (by kernel_rfl) hs0 ?_
        simp only [Act.put, List.setIfInBounds_toArray, List.set_cons_zero, List.set_cons_succ]
        refine hl_skip_np 30 (by kernel_rfl) (by kernel_rfl) rfl (by kernel_rfl) hs0 ?_
        simp only [Act.put, List.setIfInBounds_toArray, List.set_cons_zero, List.set_cons_succ]
        refine hl_skip_np 31 (by kernel_rfl) (by kernel_rfl) rfl (by kernel_rfl) hs0 ?_
        simp only [Act.put, List.setIfInBounds_toArray, List.set_cons_zero, List.set_cons_succ]
        refine hl_skip_np 32 (by kernel_rfl) (by kernel_rfl) rfl (by kernel_rfl) hs0 ?_
        simp only [Act.put, List.setIfInBounds_toArray, List.set_cons_zero, List.set_cons_succ]
        refine hl_skip_np 33 (by kernel_rfl) (by kernel_rfl) rfl (by kernel_rfl) hs0 ?_
        simp only [Act.put, List.setIfInBounds_toArray, List.set_cons_zero, List.set_cons_succ]
        refine hl_skip_np 34 (by kernel_rfl) (by kernel_rfl) rfl (by kernel_rfl) hs0 ?_
        simp only [Act.put, List.setIfInBounds_toArray, List.set_cons_zero, List.set_cons_succ]
        refine hl_skip_np 35 (by kernel_rfl) (by kernel_rfl) rfl (by kernel_rfl) hs0 ?_
        simp only [Act.put, List.setIfInBounds_toArray, List.set_cons_zero, List.set_cons_succ]
        refine hl_skip_np 36 (by kernel_rfl) (by kernel_rfl) rfl (by kernel_rfl) hs0 ?_
        simp only [Act.put, List.setIfInBounds_toArray, List.set_cons_zero, List.set_cons_succ]
        refine hl_take_np 37 (by kernel_rfl) (by kernel_rfl) rfl (by kernel_rfl) hs0 (v := ?_) ?_ ?_
        rotate_left
        · (rintro x hx; have k1 := hx.cell b4; have k2 := hx.cell q0; have k3 := hx.cell q1; have k4 := hx.cell q2; have k5 := hx.cell q3; clear hx; go_simp; try rfl)
        simp only [Act.put, List.setIfInBounds_toArray, List.set_cons_zero, List.set_cons_succ]
        refine hl_done (by kernel_rfl) ?_ _
        refine NoPanic.normal ?_
        clear q0 q1 q2 q3 hf1
        go_wp2_with fail
        go_ret
        exact ⟨by rw [H2.out]; rfl, hgw.trans hs0⟩
      cases hr1 : rightV (x1, x2, x3)
      · have H2 := Lib.hid (show checkE ⟨f, t, l, tm, .slice (some ⟨b, o, none⟩) n vc, ps⟩ = 2 by rw [HC2.out, HRS.out, hf1, hr1]; simp)
        clear HC2 HRS hlast
        refine hl_take_np 0 (by kernel_rfl) (by kernel_rfl) rfl (by kernel_rfl) hs0 (v := ?_) ?_ ?_
        rotate_left
        · (rintro x hx; have k1 := hx.cell b4; have k2 := hx.cell q0; have k3 := hx.cell q1; have k4 := hx.cell q2; have k5 := hx.cell q3; clear hx; go_simp; try rfl)
        simp only [Act.put, List.setIfInBounds_toArray, List.set_cons_zero, List.set_cons_succ]
        refine hl_take_np 1 (by kernel_rfl) (by kernel_rfl) rfl (by kernel_rfl) hs0 (v := ?_) ?_ ?_
        rotate_left
        · (rintro x hx; have k1 := hx.cell b4; have k2 := hx.cell q0; have k3 := hx.cell q1; have k4 := hx.cell q2; have k5 := hx.cell q3; clear hx; go_simp; try rfl)
        simp only [Act.put, List.setIfInBounds_toArray, List.set_cons_zero, List.set_cons_succ]
        refine hl_take_np 2 (by kernel_rfl) (by kernel_rfl) rfl (by kernel_rfl) hs0 (v := ?_) ?_ ?_
        rotate_left
        · (rintro x hx; have k1 := hx.cell b4; have k2 := hx.cell q0; have k3 := hx.cell q1; have k4 := hx.cell q2; have k5 := hx.cell q3; clear hx; go_simp; try rfl)
        simp only [Act.put, List.setIfInBounds_toArray, List.set_cons_zero, List.set_cons_succ]
        refine hl_take_np 3 (by kernel_rfl) (by kernel_rfl) rfl (by kernel_rfl) hs0 (v := ?_) ?_ ?_
        rotate_left
        · (rintro x hx; have k1 := hx.cell b4; have k2 := hx.cell q0; have k3 := hx.cell q1; have k4 := hx.cell q2; have k5 := hx.cell q3; clear hx; go_simp; try rfl)
        simp only [Act.put, List.setIfInBounds_toArray, List.set_cons_zero, List.set_cons_succ]
        refine hl_take_np 4 (by kernel_rfl) (by kernel_rfl) rfl (by kernel_rfl) hs0 (v := ?_) ?_ ?_
        rotate_left
        · (rintro x hx; have k1 := hx.cell b4; have k2 := hx.cell q0; have k3 := hx.cell q1; have k4 := hx.cell q2; have k5 := hx.cell q3; clear hx; go_simp; try rfl)
        simp only [Act.put, List.setIfInBounds_toArray, List.set_cons_zero, List.set_cons_succ]
        refine hl_take_np 5 (by kernel_rfl) (by kernel_rfl) rfl (by kernel_rfl) hs0 (v := ?_) ?_ ?_
        rotate_left
        · (rintro x hx; have k1 := hx.cell b4; have k2 := hx.cell q0; have k3 := hx.cell q1; have k4 := hx.cell q2; have k5 := hx.cell q3; clear hx; go_simp; try rfl)
        simp only [Act.put, List.setIfInBounds_toArray, List.set_cons_zero, List.set_cons_succ]
        refine hl_stepW 6 (by kernel_rfl) rfl (by kernel_rfl) ?_
        intro K hK
        go_simp
        refine (rFree_is x0 true _ hz0 hf1).mono ?_
        rintro e w1 ⟨rfl, rfl⟩
        refine hK _ _ (fun _ => hs0) ?_
        clear hK K
        simp only [Act.put, List.setIfInBounds_toArray, List.set_cons_zero, List.set_cons_succ]
        refine hl_take_np 7 (by kernel_rfl) (by kernel_rfl) rfl (by kernel_rfl) hs0 (v := ?_) ?_ ?_
        rotate_left
        · (rintro x hx; have k1 := hx.cell b4; have k2 := hx.cell q0; have k3 := hx.cell q1; have k4 := hx.cell q2; have k5 := hx.cell q3; clear hx; go_simp; try rfl)
        simp only [Act.put, List.setIfInBounds_toArray, List.set_cons_zero, List.set_cons_succ]
        refine hl_take_np 8 (by kernel_rfl) (by kernel_rfl) rfl (by kernel_rfl) hs0 (v := ?_) ?_ ?_
        rotate_left
        · (rintro x hx; have k1 := hx.cell b4; have k2 := hx.cell q0; have k3 := hx.cell q1; have k4 := hx.cell q2; have k5 := hx.cell q3; clear hx; go_simp; try rfl)
        simp only [Act.put, List.setIfInBounds_toArray, List.set_cons_zero, List.set_cons_succ]
        refine hl_take_np 9 (by kernel_rfl) (by kernel_rfl) rfl (by kernel_rfl) hs0 (v := ?_) ?_ ?_
        rotate_left
        · (rintro x hx; have k1 := hx.cell b4; have k2 := hx.cell q0; have k3 := hx.cell q1; have k4 := hx.cell q2; have k5 := hx.cell q3; clear hx; go_simp; try rfl)
        simp only [Act.put, List.setIfInBounds_toArray, List.set_cons_zero, List.set_cons_succ]
        refine hl_take_np 10 (by kernel_rfl) (by kernel_rfl) rfl (by kernel_rfl) hs0 (v := ?_) ?_ ?_
        rotate_left
        · (rintro x hx; have k1 := hx.cell b4; have k2 := hx.cell q0; have k3 := hx.cell q1; have k4 := hx.cell q2; have k5 := hx.cell q3; clear hx; go_simp; try rfl)
        simp only [Act.put, List.setIfInBounds_toArray, List.set_cons_zero, List.set_cons_succ]
        refine hl_take_np 11 (by kernel_rfl) (by kernel_rfl) rfl (by kernel_rfl) hs0 (v := ?_) ?_ ?_
        rotate_left
        · (rintro x hx; have k1 := hx.cell b4; have k2 := hx.cell q0; have k3 := hx.cell q1; have k4 := hx.cell q2; have k5 := hx.cell q3; clear hx; go_simp; try rfl)
        simp only [Act.put, List.setIfInBounds_toArray, List.set_cons_zero, List.set_cons_succ]
        refine hl_take_np 12 (by kernel_rfl) (by kernel_rfl) rfl (by kernel_rfl) hs0 (v := ?_) ?_ ?_
        rotate_left
        · (rintro x hx; have k1 := hx.cell b4; have k2 := hx.cell q0; have k3 := hx.cell q1; have k4 := hx.cell q2; have k5 := hx.cell q3; clear hx; go_simp; try rfl)
        simp only [Act.put, List.setIfInBounds_toArray, List.set_cons_zero, List.set_cons_succ]
        refine hl_take_np 13 (by kernel_rfl) (by kernel_rfl) rfl (by kernel_rfl) hs0 (v := ?_) ?_ ?_
        rotate_left
        · (rintro x hx; have k1 := hx.cell b4; have k2 := hx.cell q0; have k3 := hx.cell q1; have k4 := hx.cell q2; have k5 := hx.cell q3; clear hx; go_simp; try rfl)
        simp only [Act.put, List.setIfInBounds_toArray, List.set_cons_zero, List.set_cons_succ]
        refine hl_take_np 14 (by kernel_rfl) (by kernel_rfl) rfl (by kernel_rfl) hs0 (v := ?_) ?_ ?_
        rotate_left
        · (rintro x hx; have k1 := hx.cell b4; have k2 := hx.cell q0; have k3 := hx.cell q1; have k4 := hx.cell q2; have k5 := hx.cell q3; clear hx; go_simp; try rfl)
        simp only [Act.put, List.setIfInBounds_toArray, List.set_cons_zero, List.set_cons_succ]
        refine hl_stepW 15 (by kernel_rfl) rfl (by kernel_rfl) ?_
        intro K hK
        go_simp
        refine ((show Calls Try.prog 65 #[.agg #[.int .i64 x1, .int .i64 x2, .string x3]] WA.drew _ from rRight_is (x1, x2, x3) false WA.drew hz3 hr1)).mono ?_
        rintro e w1 ⟨rfl, hw⟩
        have hs1 : G WA w1 := hs0.trans hw
        refine hK _ _ (fun _ => hs1) ?_
        clear hK K hw
        simp only [Act.put, List.setIfInBounds_toArray, List.set_cons_zero, List.set_cons_succ]
        refine hl_take_np 16 (by kernel_rfl) (by kernel_rfl) rfl (by kernel_rfl) hs1 (v := ?_) ?_ ?_
        rotate_left
        · (rintro x hx; have k1 := hx.cell b4; have k2 := hx.cell q0; have k3 := hx.cell q1; have k4 := hx.cell q2; have k5 := hx.cell q3; clear hx; go_simp; try rfl)
        simp only [Act.put, List.setIfInBounds_toArray, List.set_cons_zero, List.set_cons_succ]
        refine hl_take_np 17 (by kernel_rfl) (by kernel_rfl) rfl (by kernel_rfl) hs1 (v := ?_) ?_ ?_
        rotate_left
        · (rintro x hx; have k1 := hx.cell b4; have k2 := hx.cell q0; have k3 := hx.cell q1; have k4 := hx.cell q2; have k5 := hx.cell q3; clear hx; go_simp; try rfl)
        simp only [Act.put, List.setIfInBounds_toArray, List.set_cons_zero, List.set_cons_succ]
        refine hl_take_np 18 (by kernel_rfl) (by kernel_rfl) rfl (by kernel_rfl) hs1 (v := ?_) ?_ ?_
        rotate_left
        · (rintro x hx; have k1 := hx.cell b4; have k2 := hx.cell q0; have k3 := hx.cell q1; have k4 := hx.cell q2; have k5 := hx.cell q3; clear hx; go_simp; try rfl)
        simp only [Act.put, List.setIfInBounds_toArray, List.set_cons_zero, List.set_cons_succ]
        refine hl_skip_np 19 (by kernel_rfl) (by kernel_rfl) rfl (by kernel_rfl) hs1 ?_
        simp only [Act.put, List.setIfInBounds_toArray, List.set_cons_zero, List.set_cons_succ]
        refine hl_skip_np 20 (by kernel_rfl) (by kernel_rfl) rfl (by kernel_rfl) hs1 ?_
        simp only [Act.put, List.setIfInBounds_toArray, List.set_cons_zero, List.set_cons_succ]
        refine hl_skip_np 21 (by kernel_rfl) (by kernel_rfl) rfl (by kernel_rfl) hs1 ?_
        simp only [Act.put, List.setIfInBounds_toArray, List.set_cons_zero, List.set_cons_succ]
        refine hl_skip_np 22 (by kernel_rfl) (by kernel_rfl) rfl (by kernel_rfl) hs1 ?_
        simp only [Act.put, List.setIfInBounds_toArray, List.set_cons_zero, List.set_cons_succ]
        refine hl_skip_np 23 (by kernel_rfl) (by kernel_rfl) rfl (by kernel_rfl) hs1 ?_
        simp only [Act.put, List.setIfInBounds_toArray, List.set_cons_zero, List.set_cons_succ]
        refine hl_skip_np 24 (by kernel_rfl) (by kernel_rfl) rfl (by kernel_rfl) hs1 ?_
        simp only [Act.put, List.setIfInBounds_toArray, List.set_cons_zero, List.set_cons_succ]
        refine hl_skip_np 25 (by kernel_rfl) (by kernel_rfl) rfl (by kernel_rfl) hs1 ?_
        simp only [Act.put, List.setIfInBounds_toArray, List.set_cons_zero, List.set_cons_succ]
        refine hl_skip_np 26 (by kernel_rfl) (by kernel_rfl) rfl (by kernel_rfl) hs1 ?_
        simp only [Act.put, List.setIfInBounds_toArray, List.set_cons_zero, List.set_cons_succ]
        refine hl_skip_np 27 (by kernel_rfl) (by kernel_rfl) rfl (by kernel_rfl) hs1 ?_
        simp only [Act.put, List.setIfInBounds_toArray, List.set_cons_zero, List.set_cons_succ]
        refine hl_skip_np 28 (by kernel_rfl) (by kernel_rfl) rfl (by kernel_rfl) hs1 ?_
        simp only [Act.put, List.setIfInBounds_toArray, List.set_cons_zero, List.set_cons_succ]
        refine hl_skip_np 29 (by kernel_rfl) (by kernel_rfl) rfl (by kernel_rfl) hs1 ?_
        simp only [Act.put, List.setIfInBounds_toArray, List.set_cons_zero, List.set_cons_succ]
        refine hl_skip_np 30 (by kernel_rfl) (by kernel_rfl) rfl (by kernel_rfl) hs1 ?_
        simp only [Act.put, List.setIfInBounds_toArray, List.set_cons_zero, List.set_cons_succ]
        refine hl_skip_np 31 (by kernel_rfl) (by kernel_rfl) rfl (by kernel_rfl) hs1 ?_
        simp only [Act.put, List.setIfInBounds_toArray, List.set_cons_zero, List.set_cons_succ]
        refine hl_skip_np 32 (by kernel_rfl) (by kernel_rfl) rfl (by kernel_rfl) hs1 ?_
        simp only [Act.put, List.setIfInBounds_toArray, List.set_cons_zero, List.set_cons_succ]
        refine hl_skip_np 33 (by kernel_rfl) (by kernel_rfl) rfl (by kernel_rfl) hs1 ?_
        simp only [Act.put, List.setIfInBounds_toArray, List.set_cons_zero, List.set_cons_succ]
        refine hl_skip_np 34 (by kernel_rfl) (by kernel_rfl) rfl (by kernel_rfl) hs1 ?_
        simp only [Act.put, List.setIfInBounds_toArray, List.set_cons_zero, List.set_cons_succ]
        refine hl_skip_np 35 (by kernel_rfl) (by kernel_rfl) rfl (by kernel_rfl) hs1 ?_
        simp only [Act.put, List.setIfInBounds_toArray, List.set_cons_zero, List.set_cons_succ]
        refine hl_skip_np 36 (by kernel_rfl) (by kernel_rfl) rfl (by kernel_rfl) hs1 ?_
        simp only [Act.put, List.setIfInBounds_toArray, List.set_cons_zero, List.set_cons_succ]
        refine hl_take_np 37 (by kernel_rfl) (by kernel_rfl) rfl (by kernel_rfl) hs1 (v := ?_) ?_ ?_
        rotate_left
        · (rintro x hx; have k1 := hx.cell b4; have k2 := hx.cell q0; have k3 := hx.cell q1; have k4 := hx.cell q2; have k5 := hx.cell q3; clear hx; go_simp; try rfl)
        simp only [Act.put, List.setIfInBounds_toArray, List.set_cons_zero, List.set_cons_succ]
        refine hl_done (by kernel_rfl) ?_ _
        refine NoPanic.normal ?_
        clear q0 q1 q2 q3 hf1 hr1
        go_wp2_with fail
        go_ret
        exact ⟨by rw [H2.out]; rfl, hgw.trans hs1⟩
      rw [hf1, hr1] at HRS
      rcases hlast with ⟨h0, rfl⟩ | ⟨j, y, hj1, hy, rfl⟩
      · have H3 : Hid (risB ⟨#[]⟩ ps = risB x0 (ps.drop (k + 1))) := Lib.hid (by rw [HRS.out, leB_empty hf1]; rfl)
        have hkz : decide (0 < k) = false := by simp; omega
        clear h0
        refine hl_take_np 0 (by kernel_rfl) (by kernel_rfl) rfl (by kernel_rfl) hs0 (v := ?_) ?_ ?_
        rotate_left
        · (rintro x hx; have k1 := hx.cell b4; have k2 := hx.cell q0; have k3 := hx.cell q1; have k4 := hx.cell q2; have k5 := hx.cell q3; clear hx; go_simp; try rfl)
        simp only [Act.put, List.setIfInBounds_toArray, List.set_cons_zero, List.set_cons_succ]
        refine hl_take_np 1 (by kernel_rfl) (by kernel_rfl) rfl (by kernel_rfl) hs0 (v := ?_) ?_ ?_
        rotate_left
        · (rintro x hx; have k1 := hx.cell b4; have k2 := hx.cell q0; have k3 := hx.cell q1; have k4 := hx.cell q2; have k5 := hx.cell q3; clear hx; go_simp; try rfl)
        simp only [Act.put, List.setIfInBounds_toArray, List.set_cons_zero, List.set_cons_succ]
        refine hl_take_np 2 (by kernel_rfl) (by kernel_rfl) rfl (by kernel_rfl) hs0 (v := ?_) ?_ ?_
        rotate_left
        · (rintro x hx; have k1 := hx.cell b4; have k2 := hx.cell q0; have k3 := hx.cell q1; have k4 := hx.cell q2; have k5 := hx.cell q3; clear hx; go_simp; try rfl)
        simp only [Act.put, List.setIfInBounds_toArray, List.set_cons_zero, List.set_cons_succ]
        refine hl_take_np 3 (by kernel_rfl) (by kernel_rfl) rfl (by kernel_rfl) hs0 (v := ?_) ?_ ?_
        rotate_left
        · (rintro x hx; have k1 := hx.cell b4; have k2 := hx.cell q0; have k3 := hx.cell q1; have k4 := hx.cell q2; have k5 := hx.cell q3; clear hx; go_simp; try rfl)
        simp only [Act.put, List.setIfInBounds_toArray, List.set_cons_zero, List.set_cons_succ]
        refine hl_take_np 4 (by kernel_rfl) (by kernel_rfl) rfl (by kernel_rfl) hs0 (v := ?_) ?_ ?_
        rotate_left
        · (rintro x hx; have k1 := hx.cell b4; have k2 := hx.cell q0; have k3 := hx.cell q1; have k4 := hx.cell q2; have k5 := hx.cell q3; clear hx; go_simp; try rfl)
        simp only [Act.put, List.setIfInBounds_toArray, List.set_cons_zero, List.set_cons_succ]
        refine hl_take_np 5 (by kernel_rfl) (by kernel_rfl) rfl (by kernel_rfl) hs0 (v := ?_) ?_ ?_
        rotate_left
        · (rintro x hx; have k1 := hx.cell b4; have k2 := hx.cell q0; have k3 := hx.cell q1; have k4 := hx.cell q2; have k5 := hx.cell q3; clear hx; go_simp; try rfl)
        simp only [Act.put, List.setIfInBounds_toArray, List.set_cons_zero, List.set_cons_succ]
        refine hl_stepW 6 (by kernel_rfl) rfl (by kernel_rfl) ?_
        intro K hK
        go_simp
        refine (rFree_is x0 true _ hz0 hf1).mono ?_
        rintro e w1 ⟨rfl, rfl⟩
        refine hK _ _ (fun _ => hs0) ?_
        clear hK K
        simp only [Act.put, List.setIfInBounds_toArray, List.set_cons_zero, List.set_cons_succ]
        refine hl_take_np 7 (by kernel_rfl) (by kernel_rfl) rfl (by kernel_rfl) hs0 (v := ?_) ?_ ?_
        rotate_left
        · (rintro x hx; have k1 := hx.cell b4; have k2 := hx.cell q0; have k3 := hx.cell q1; have k4 := hx.cell q2; have k5 := hx.cell q3; clear hx; go_simp; try rfl)
        simp only [Act.put, List.setIfInBounds_toArray, List.set_cons_zero, List.set_cons_succ]
        refine hl_take_np 8 (by kernel_rfl) (by kernel_rfl) rfl (by kernel_rfl) hs0 (v := ?_) ?_ ?_
        rotate_left
        · (rintro x hx; have k1 := hx.cell b4; have k2 := hx.cell q0; have k3 := hx.cell q1; have k4 := hx.cell q2; have k5 := hx.cell q3; clear hx; go_simp; try rfl)
        simp only [Act.put, List.setIfInBounds_toArray, List.set_cons_zero, List.set_cons_succ]
        refine hl_take_np 9 (by kernel_rfl) (by kernel_rfl) rfl (by kernel_rfl) hs0 (v := ?_) ?_ ?_
        rotate_left
        · (rintro x hx; have k1 := hx.cell b4; have k2 := hx.cell q0; have k3 := hx.cell q1; have k4 := hx.cell q2; have k5 := hx.cell q3; clear hx; go_simp; try rfl)
        simp only [Act.put, List.setIfInBounds_toArray, List.set_cons_zero, List.set_cons_succ]
        refine hl_take_np 10 (by kernel_rfl) (by kernel_rfl) rfl (by kernel_rfl) hs0 (v := ?_) ?_ ?_
        rotate_left
        · (rintro x hx; have k1 := hx.cell b4; have k2 := hx.cell q0; have k3 := hx.cell q1; have k4 := hx.cell q2; have k5 := hx.cell q3; clear hx; go_simp; try rfl)
        simp only [Act.put, List.setIfInBounds_toArray, List.set_cons_zero, List.set_cons_succ]
        refine hl_take_np 11 (by kernel_rfl) (by kernel_rfl) rfl (by kernel_rfl) hs0 (v := ?_) ?_ ?_
        rotate_left
        · (rintro x hx; have k1 := hx.cell b4; have k2 := hx.cell q0; have k3 := hx.cell q1; have k4 := hx.cell q2; have k5 := hx.cell q3; clear hx; go_simp; try rfl)
        simp only [Act.put, List.setIfInBounds_toArray, List.set_cons_zero, List.set_cons_succ]
        refine hl_take_np 12 (by kernel_rfl) (by kernel_rfl) rfl (by kernel_rfl) hs0 (v := ?_) ?_ ?_
        rotate_left
        · (rintro x hx; have k1 := hx.cell b4; have k2 := hx.cell q0; have k3 := hx.cell q1; have k4 := hx.cell q2; have k5 := hx.cell q3; clear hx; go_simp; try rfl)
        simp only [Act.put, List.setIfInBounds_toArray, List.set_cons_zero, List.set_cons_succ]
        refine hl_take_np 13 (by kernel_rfl) (by kernel_rfl) rfl (by kernel_rfl) hs0 (v := ?_) ?_ ?_
        rotate_left
        · (rintro x hx; have k1 := hx.cell b4; have k2 := hx.cell q0; have k3 := hx.cell q1; have k4 := hx.cell q2; have k5 := hx.cell q3; clear hx; go_simp; try rfl)
        simp only [Act.put, List.setIfInBounds_toArray, List.set_cons_zero, List.set_cons_succ]
        refine hl_take_np 14 (by kernel_rfl) (by kernel_rfl) rfl (by kernel_rfl) hs0 (v := ?_) ?_ ?_
        rotate_left
        · (rintro x hx; have k1 := hx.cell b4; have k2 := hx.cell q0; have k3 := hx.cell q1; have k4 := hx.cell q2; have k5 := hx.cell q3; clear hx; go_simp; try rfl)
        simp only [Act.put, List.setIfInBounds_toArray, List.set_cons_zero, List.set_cons_succ]
        refine hl_stepW 15 (by kernel_rfl) rfl (by kernel_rfl) ?_
        intro K hK
        go_simp
        refine ((show Calls Try.prog 65 #[.agg #[.int .i64 x1, .int .i64 x2, .string x3]] WA.drew _ from rRight_is (x1, x2, x3) true WA.drew hz3 hr1)).mono ?_
        rintro e w1 ⟨rfl, hw⟩
        have hs1 : G WA w1 := hs0.trans hw
        refine hK _ _ (fun _ => hs1) ?_
        clear hK K hw
        simp only [Act.put, List.setIfInBounds_toArray, List.set_cons_zero, List.set_cons_succ]
        refine hl_take_np 16 (by kernel_rfl) (by kernel_rfl) rfl (by kernel_rfl) hs1 (v := ?_) ?_ ?_
        rotate_left
        · (rintro x hx; have k1 := hx.cell b4; have k2 := hx.cell q0; have k3 := hx.cell q1; have k4 := hx.cell q2; have k5 := hx.cell q3; clear hx; go_simp; try rfl)
        simp only [Act.put, List.setIfInBounds_toArray, List.set_cons_zero, List.set_cons_succ]
        refine hl_take_np 17 (by kernel_rfl) (by kernel_rfl) rfl (by kernel_rfl) hs1 (v := ?_) ?_ ?_
        rotate_left
        · (rintro x hx; have k1 := hx.cell b4; have k2 := hx.cell q0; have k3 := hx.cell q1; have k4 := hx.cell q2; have k5 := hx.cell q3; clear hx; go_simp; try rfl)
        simp only [Act.put, List.setIfInBounds_toArray, List.set_cons_zero, List.set_cons_succ]
        refine hl_take_np 18 (by kernel_rfl) (by kernel_rfl) rfl (by kernel_rfl) hs1 (v := ?_) ?_ ?_
        rotate_left
        · (rintro x hx; have k1 := hx.cell b4; have k2 := hx.cell q0; have k3 := hx.cell q1; have k4 := hx.cell q2; have k5 := hx.cell q3; clear hx; go_simp; try rfl)
        simp only [Act.put, List.setIfInBounds_toArray, List.set_cons_zero, List.set_cons_succ]
        refine hl_take_np 19 (by kernel_rfl) (by kernel_rfl) rfl (by kernel_rfl) hs1 (v := ?_) ?_ ?_
        rotate_left
        · (rintro x hx; have k1 := hx.cell b4; have k2 := hx.cell q0; have k3 := hx.cell q1; have k4 := hx.cell q2; have k5 := hx.cell q3; clear hx; go_simp; try rfl)
        simp only [Act.put, List.setIfInBounds_toArray, List.set_cons_zero, List.set_cons_succ]
        refine hl_take_np 20 (by kernel_rfl) (by kernel_rfl) rfl (by kernel_rfl) hs1 (v := ?_) ?_ ?_
        rotate_left
        · (rintro x hx; have k1 := hx.cell b4; have k2 := hx.cell q0; have k3 := hx.cell q1; have k4 := hx.cell q2; have k5 := hx.cell q3; clear hx; go_simp; try rfl)
        simp only [Act.put, List.setIfInBounds_toArray, List.set_cons_zero, List.set_cons_succ]
        refine hl_take_np 21 (by kernel_rfl) (by kernel_rfl) rfl (by kernel_rfl) hs1 (v := ?_) ?_ ?_
        rotate_left
        · (rintro x hx; have k1 := hx.cell b4; have k2 := hx.cell q0; have k3 := hx.cell q1; have k4 := hx.cell q2; have k5 := hx.cell q3; clear hx; go_simp; try rfl)
        simp only [Act.put, List.setIfInBounds_toArray, List.set_cons_zero, List.set_cons_succ]
        refine hl_skip_np 22 (by kernel_rfl) (by kernel_rfl) rfl (by kernel_rfl) hs1 ?_
        simp only [Act.put, List.setIfInBounds_toArray, List.set_cons_zero, List.set_cons_succ]
        refine hl_skip_np 23 (by kernel_rfl) (by kernel_rfl) rfl (by kernel_rfl) hs1 ?_
        simp only [Act.put, List.setIfInBounds_toArray, List.set_cons_zero, List.set_cons_succ]
        refine hl_skip_np 24 (by kernel_rfl) (by kernel_rfl) rfl (by kernel_rfl) hs1 ?_
        simp only [Act.put, List.setIfInBounds_toArray, List.set_cons_zero, List.set_cons_succ]
        refine hl_skip_np 25 (by kernel_rfl) (by kernel_rfl) rfl (by kernel_rfl) hs1 ?_
        simp only [Act.put, List.setIfInBounds_toArray, List.set_cons_zero, List.set_cons_succ]
        refine hl_skip_np 26 (by kernel_rfl) (by kernel_rfl) rfl (by kernel_rfl) hs1 ?_
        simp only [Act.put, List.setIfInBounds_toArray, List.set_cons_zero, List.set_cons_succ]
        refine hl_skip_np 27 (by kernel_rfl) (by kernel_rfl) rfl (by kernel_rfl) hs1 ?_
        simp only [Act.put, List.setIfInBounds_toArray, List.set_cons_zero, List.set_cons_succ]
        refine hl_skip_np 28 (by kernel_rfl) (by kernel_rfl) rfl (by kernel_rfl) hs1 ?_
        simp only [Act.put, List.setIfInBounds_toArray, List.set_cons_zero, List.set_cons_succ]
        refine hl_skip_np 29 (by kernel_rfl) (by kernel_rfl) rfl (by kernel_rfl) hs1 ?_
        simp only [Act.put, List.setIfInBounds_toArray, List.set_cons_zero, List.set_cons_succ]
        refine hl_skip_np 30 (by kernel_rfl) (by kernel_rfl) rfl (by kernel_rfl) hs1 ?_
        simp only [Act.put, List.setIfInBounds_toArray, List.set_cons_zero, List.set_cons_succ]
        refine hl_skip_np 31 (by kernel_rfl) (by kernel_rfl) rfl (by kernel_rfl) hs1 ?_
        simp only [Act.put, List.setIfInBounds_toArray, List.set_cons_zero, List.set_cons_succ]
        refine hl_skip_np 32 (by kernel_rfl) (by kernel_rfl) rfl (by kernel_rfl) hs1 ?_
        simp only [Act.put, List.setIfInBounds_toArray, List.set_cons_zero, List.set_cons_succ]
        refine hl_skip_np 33 (by kernel_rfl) (by kernel_rfl) rfl (by kernel_rfl) hs1 ?_
        simp only [Act.put, List.setIfInBounds_toArray, List.set_cons_zero, List.set_cons_succ]
        refine hl_skip_np 34 (by kernel_rfl) (by kernel_rfl) rfl (by kernel_rfl) hs1 ?_
        simp only [Act.put, List.setIfInBounds_toArray, List.set_cons_zero, List.set_cons_succ]
        refine hl_skip_np 35 (by kernel_rfl) (by kernel_rfl) rfl (by kernel_rfl) hs1 ?_
        simp only [Act.put, List.setIfInBounds_toArray, List.set_cons_zero, List.set_cons_succ]
        refine hl_take_np 36 (by kernel_rfl) (by kernel_rfl) rfl (by kernel_rfl) hs1 (v := ?_) ?_ ?_
        rotate_left
        · (rintro x hx; have k1 := hx.cell b4; have k2 := hx.cell q0; have k3 := hx.cell q1; have k4 := hx.cell q2; have k5 := hx.cell q3; clear hx; go_simp; try rfl)
        simp only [Act.put, List.setIfInBounds_toArray, List.set_cons_zero, List.set_cons_succ]
        refine hl_take_np 37 (by kernel_rfl) (by kernel_rfl) rfl (by kernel_rfl) hs1 (v := ?_) ?_ ?_
        rotate_left
        · (rintro x hx; have k1 := hx.cell b4; have k2 := hx.cell q0; have k3 := hx.cell q1; have k4 := hx.cell q2; have k5 := hx.cell q3; clear hx; go_simp; try rfl)
        simp only [Act.put, List.setIfInBounds_toArray, List.set_cons_zero, List.set_cons_succ]
        refine hl_done (by kernel_rfl) ?_ _
        refine NoPanic.normal ?_
        clear q0 q1 q2 q3 hf1 hr1
        go_wp2_with fail
        go_roundw
        case rel => exact ⟨k + 1, x0, by omega, by go_num, .inr ⟨k, _, rfl, HX.out, rfl⟩, H3, hg.trans hs1⟩
        case measure => simp [intOf]; omega
      · obtain ⟨b', o', he, z0, -, -, -⟩ := HR.out.prop hy
        cases he
        have hkz : decide (0 < k) = true := by simp; omega
        have hki : (k : Int) - 1 = (j : Int) := by omega
        have hjn : (j : Int) < (n : Int) := by omega
        have hj0 : (0 : Int) ≤ (j : Int) := by omega
        have hwj : IntKind.i64.wrap (j : Int) = j := IntWalk.i64_in _ (by omega)
        clear hj1 hy
        have z0 := hgw.cell z0
        obtain ⟨y0, y1⟩ := y
        simp only at z0 HRS
        cases hb : Op.bytesLess y0.toList x0.toList
        · have H2 := Lib.hid (show checkE ⟨f, t, l, tm, .slice (some ⟨b, o, none⟩) n vc, ps⟩ = 2 by rw [HC2.out, HRS.out, leB_less, hb]; simp)
          clear HC2 HRS
          refine hl_take_np 0 (by kernel_rfl) (by kernel_rfl) rfl (by kernel_rfl) hs0 (v := ?_) ?_ ?_
          rotate_left
          · (rintro x hx; have k1 := hx.cell b4; have k2 := hx.cell q0; have k3 := hx.cell q1; have k4 := hx.cell q2; have k5 := hx.cell q3; clear hx; go_simp; try rfl)
          simp only [Act.put, List.setIfInBounds_toArray, List.set_cons_zero, List.set_cons_succ]
          refine hl_take_np 1 (by kernel_rfl) (by kernel_rfl) rfl (by kernel_rfl) hs0 (v := ?_) ?_ ?_
          rotate_left
          · (rintro x hx; have k1 := hx.cell b4; have k2 := hx.cell q0; have k3 := hx.cell q1; have k4 := hx.cell q2; have k5 := hx.cell q3; clear hx; go_simp; try rfl)
          simp only [Act.put, List.setIfInBounds_toArray, List.set_cons_zero, List.set_cons_succ]
          refine hl_take_np 2 (by kernel_rfl) (by kernel_rfl) rfl (by kernel_rfl) hs0 (v := ?_) ?_ ?_
          rotate_left
          · (rintro x hx; have k1 := hx.cell b4; have k2 := hx.cell q0; have k3 := hx.cell q1; have k4 := hx.cell q2; have k5 := hx.cell q3; clear hx; go_simp; try rfl)
          simp only [Act.put, List.setIfInBounds_toArray, List.set_cons_zero, List.set_cons_succ]
          refine hl_take_np 3 (by kernel_rfl) (by kernel_rfl) rfl (by kernel_rfl) hs0 (v := ?_) ?_ ?_
          rotate_left
          · (rintro x hx; have k1 := hx.cell b4; have k2 := hx.cell q0; have k3 := hx.cell q1; have k4 := hx.cell q2; have k5 := hx.cell q3; clear hx; go_simp; try rfl)
          simp only [Act.put, List.setIfInBounds_toArray, List.set_cons_zero, List.set_cons_succ]
          refine hl_take_np 4 (by kernel_rfl) (by kernel_rfl) rfl (by kernel_rfl) hs0 (v := ?_) ?_ ?_
          rotate_left
          · (rintro x hx; have k1 := hx.cell b4; have k2 := hx.cell q0; have k3 := hx.cell q1; have k4 := hx.cell q2; have k5 := hx.cell q3; clear hx; go_simp; try rfl)
          simp only [Act.put, List.setIfInBounds_toArray, List.set_cons_zero, List.set_cons_succ]
          refine hl_take_np 5 (by kernel_rfl) (by kernel_rfl) rfl (by kernel_rfl) hs0 (v := ?_) ?_ ?_
          rotate_left
          · (rintro x hx; have k1 := hx.cell b4; have k2 := hx.cell q0; have k3 := hx.cell q1; have k4 := hx.cell q2; have k5 := hx.cell q3; clear hx; go_simp; try rfl)
          simp only [Act.put, List.setIfInBounds_toArray, List.set_cons_zero, List.set_cons_succ]
          refine hl_stepW 6 (by kernel_rfl) rfl (by kernel_rfl) ?_
          intro K hK
          go_simp
          refine (rFree_is x0 true _ hz0 hf1).mono ?_
          rintro e w1 ⟨rfl, rfl⟩
          refine hK _ _ (fun _ => hs0) ?_
          clear hK K
          simp only [Act.put, List.setIfInBounds_toArray, List.set_cons_zero, List.set_cons_succ]
          refine hl_take_np 7 (by kernel_rfl) (by kernel_rfl) rfl (by kernel_rfl) hs0 (v := ?_) ?_ ?_
          rotate_left
          · (rintro x hx; have k1 := hx.cell b4; have k2 := hx.cell q0; have k3 := hx.cell q1; have k4 := hx.cell q2; have k5 := hx.cell q3; clear hx; go_simp; try rfl)
          simp only [Act.put, List.setIfInBounds_toArray, List.set_cons_zero, List.set_cons_succ]
          refine hl_take_np 8 (by kernel_rfl) (by kernel_rfl) rfl (by kernel_rfl) hs0 (v := ?_) ?_ ?_
          rotate_left
          · (rintro x hx; have k1 := hx.cell b4; have k2 := hx.cell q0; have k3 := hx.cell q1; have k4 := hx.cell q2; have k5 := hx.cell q3; clear hx; go_simp; try rfl)
          simp only [Act.put, List.setIfInBounds_toArray, List.set_cons_zero, List.set_cons_succ]
          refine hl_take_np 9 (by kernel_rfl) (by kernel_rfl) rfl (by kernel_rfl) hs0 (v := ?_) ?_ ?_
          rotate_left
          · (rintro x hx; have k1 := hx.cell b4; have k2 := hx.cell q0; have k3 := hx.cell q1; have k4 := hx.cell q2; have k5 := hx.cell q3; clear hx; go_simp; try rfl)
          simp only [Act.put, List.setIfInBounds_toArray, List.set_cons_zero, List.set_cons_succ]
          refine hl_take_np 10 (by kernel_rfl) (by kernel_rfl) rfl (by kernel_rfl) hs0 (v := ?_) ?_ ?_
          rotate_left
          · (rintro x hx; have k1 := hx.cell b4; have k2 := hx.cell q0; have k3 := hx.cell q1; have k4 := hx.cell q2; have k5 := hx.cell q3; clear hx; go_simp; try rfl)
          simp only [Act.put, List.setIfInBounds_toArray, List.set_cons_zero, List.set_cons_succ]
          refine hl_take_np 11 (by kernel_rfl) (by kernel_rfl) rfl (by kernel_rfl) hs0 (v := ?_) ?_ ?_
          rotate_left
          · (rintro x hx; have k1 := hx.cell b4; have k2 := hx.cell q0; have k3 := hx.cell q1; have k4 := hx.cell q2; have k5 := hx.cell q3; clear hx; go_simp; try rfl)
          simp only [Act.put, List.setIfInBounds_toArray, List.set_cons_zero, List.set_cons_succ]
          refine hl_take_np 12 (by kernel_rfl) (by kernel_rfl) rfl (by kernel_rfl) hs0 (v := ?_) ?_ ?_
          rotate_left
          · (rintro x hx; have k1 := hx.cell b4; have k2 := hx.cell q0; have k3 := hx.cell q1; have k4 := hx.cell q2; have k5 := hx.cell q3; clear hx; go_simp; try rfl)
          simp only [Act.put, List.setIfInBounds_toArray, List.set_cons_zero, List.set_cons_succ]
          refine hl_take_np 13 (by kernel_rfl) (by kernel_rfl) rfl (by kernel_rfl) hs0 (v := ?_) ?_ ?_
          rotate_left
          · (rintro x hx; have k1 := hx.cell b4; have k2 := hx.cell q0; have k3 := hx.cell q1; have k4 := hx.cell q2; have k5 := hx.cell q3; clear hx; go_simp; try rfl)
          simp only [Act.put, List.setIfInBounds_toArray, List.set_cons_zero, List.set_cons_succ]
          refine hl_take_np 14 (by kernel_rfl) (by kernel_rfl) rfl (by kernel_rfl) hs0 (v := ?_) ?_ ?_
          rotate_left
          · (rintro x hx; have k1 := hx.cell b4; have k2 := hx.cell q0; have k3 := hx.cell q1; have k4 := hx.cell q2; have k5 := hx.cell q3; clear hx; go_simp; try rfl)
          simp only [Act.put, List.setIfInBounds_toArray, List.set_cons_zero, List.set_cons_succ]
          refine hl_stepW 15 (by kernel_rfl) rfl (by kernel_rfl) ?_
          intro K hK
          go_simp
          refine ((show Calls Try.prog 65 #[.agg #[.int .i64 x1, .int .i64 x2, .string x3]] WA.drew _ from rRight_is (x1, x2, x3) true WA.drew hz3 hr1)).mono ?_
          rintro e w1 ⟨rfl, hw⟩
          have hs1 : G WA w1 := hs0.trans hw
          refine hK _ _ (fun _ => hs1) ?_
          clear hK K hw
          simp only [Act.put, List.setIfInBounds_toArray, List.set_cons_zero, List.set_cons_succ]
          refine hl_take_np 16 (by kernel_rfl) (by kernel_rfl) rfl (by kernel_rfl) hs1 (v := ?_) ?_ ?_
          rotate_left
          · (rintro x hx; have k1 := hx.cell b4; have k2 := hx.cell q0; have k6 := hx.cell z0; clear hx; go_simp; try rfl)
          simp only [Act.put, List.setIfInBounds_toArray, List.set_cons_zero, List.set_cons_succ]
          refine hl_take_np 17 (by kernel_rfl) (by kernel_rfl) rfl (by kernel_rfl) hs1 (v := ?_) ?_ ?_
          rotate_left
          · (rintro x hx; have k1 := hx.cell b4; have k2 := hx.cell q0; have k6 := hx.cell z0; clear hx; go_simp; try rfl)
          simp only [Act.put, List.setIfInBounds_toArray, List.set_cons_zero, List.set_cons_succ]
          refine hl_take_np 18 (by kernel_rfl) (by kernel_rfl) rfl (by kernel_rfl) hs1 (v := ?_) ?_ ?_
          rotate_left
          · (rintro x hx; have k1 := hx.cell b4; have k2 := hx.cell q0; have k6 := hx.cell z0; clear hx; go_simp; try rfl)
          simp only [Act.put, List.setIfInBounds_toArray, List.set_cons_zero, List.set_cons_succ]
          refine hl_take_np 19 (by kernel_rfl) (by kernel_rfl) rfl (by kernel_rfl) hs1 (v := ?_) ?_ ?_
          rotate_left
          · (rintro x hx; have k1 := hx.cell b4; have k2 := hx.cell q0; have k6 := hx.cell z0; clear hx; go_simp; try rfl)
          simp only [Act.put, List.setIfInBounds_toArray, List.set_cons_zero, List.set_cons_succ]
          refine hl_take_np 20 (by kernel_rfl) (by kernel_rfl) rfl (by kernel_rfl) hs1 (v := ?_) ?_ ?_
          rotate_left
          · (rintro x hx; have k1 := hx.cell b4; have k2 := hx.cell q0; have k6 := hx.cell z0; clear hx; go_simp; try rfl)
          simp only [Act.put, List.setIfInBounds_toArray, List.set_cons_zero, List.set_cons_succ]
          refine hl_take_np 21 (by kernel_rfl) (by kernel_rfl) rfl (by kernel_rfl) hs1 (v := ?_) ?_ ?_
          rotate_left
          · (rintro x hx; have k1 := hx.cell b4; have k2 := hx.cell q0; have k6 := hx.cell z0; clear hx; go_simp; try rfl)
          simp only [Act.put, List.setIfInBounds_toArray, List.set_cons_zero, List.set_cons_succ]
          refine hl_take_np 22 (by kernel_rfl) (by kernel_rfl) rfl (by kernel_rfl) hs1 (v := ?_) ?_ ?_
          rotate_left
          · (rintro x hx; have k1 := hx.cell b4; have k2 := hx.cell q0; have k6 := hx.cell z0; clear hx; go_simp; try rfl)
          simp only [Act.put, List.setIfInBounds_toArray, List.set_cons_zero, List.set_cons_succ]
          refine hl_take_np 23 (by kernel_rfl) (by kernel_rfl) rfl (by kernel_rfl) hs1 (v := ?_) ?_ ?_
          rotate_left
          · (rintro x hx; have k1 := hx.cell b4; have k2 := hx.cell q0; have k6 := hx.cell z0; clear hx; go_simp; try rfl)
          simp only [Act.put, List.setIfInBounds_toArray, List.set_cons_zero, List.set_cons_succ]
          refine hl_take_np 24 (by kernel_rfl) (by kernel_rfl) rfl (by kernel_rfl) hs1 (v := ?_) ?_ ?_
          rotate_left
          · (rintro x hx; have k1 := hx.cell b4; have k2 := hx.cell q0; have k6 := hx.cell z0; clear hx; go_simp; try rfl)
          simp only [Act.put, List.setIfInBounds_toArray, List.set_cons_zero, List.set_cons_succ]
          refine hl_take_np 25 (by kernel_rfl) (by kernel_rfl) rfl (by kernel_rfl) hs1 (v := ?_) ?_ ?_
          rotate_left
          · (rintro x hx; have k1 := hx.cell b4; have k2 := hx.cell q0; have k6 := hx.cell z0; clear hx; go_simp; try rfl)
          simp only [Act.put, List.setIfInBounds_toArray, List.set_cons_zero, List.set_cons_succ]
          refine hl_take_np 26 (by kernel_rfl) (by kernel_rfl) rfl (by kernel_rfl) hs1 (v := ?_) ?_ ?_
          rotate_left
          · (rintro x hx; have k1 := hx.cell b4; have k2 := hx.cell q0; have k6 := hx.cell z0; clear hx; go_simp; try rfl)
          simp only [Act.put, List.setIfInBounds_toArray, List.set_cons_zero, List.set_cons_succ]
          refine hl_take_np 27 (by kernel_rfl) (by kernel_rfl) rfl (by kernel_rfl) hs1 (v := ?_) ?_ ?_
          rotate_left
          · (rintro x hx; have k1 := hx.cell b4; have k2 := hx.cell q0; have k6 := hx.cell z0; clear hx; go_simp; try rfl)
          simp only [Act.put, List.setIfInBounds_toArray, List.set_cons_zero, List.set_cons_succ]
          refine hl_take_np 28 (by kernel_rfl) (by kernel_rfl) rfl (by kernel_rfl) hs1 (v := ?_) ?_ ?_
          rotate_left
          · (rintro x hx; have k1 := hx.cell b4; have k2 := hx.cell q0; have k6 := hx.cell z0; clear hx; go_simp; try rfl)
          simp only [Act.put, List.setIfInBounds_toArray, List.set_cons_zero, List.set_cons_succ]
          refine hl_take_np 29 (by kernel_rfl) (by kernel_rfl) rfl (by kernel_rfl) hs1 (v := ?_) ?_ ?_
          rotate_left
          · (rintro x hx; have k1 := hx.cell b4; have k2 := hx.cell q0; have k6 := hx.cell z0; clear hx; go_simp; try rfl)
          simp only [Act.put, List.setIfInBounds_toArray, List.set_cons_zero, List.set_cons_succ]
          refine hl_take_np 30 (by kernel_rfl) (by kernel_rfl) rfl (by kernel_rfl) hs1 (v := ?_) ?_ ?_
          rotate_left
          · (rintro x hx; have k1 := hx.cell b4; have k2 := hx.cell q0; have k6 := hx.cell z0; clear hx; go_simp; try rfl)
          simp only [Act.put, List.setIfInBounds_toArray, List.set_cons_zero, List.set_cons_succ]
          refine hl_take_np 31 (by kernel_rfl) (by kernel_rfl) rfl (by kernel_rfl) hs1 (v := ?_) ?_ ?_
          rotate_left
          · (rintro x hx; have k1 := hx.cell b4; have k2 := hx.cell q0; have k6 := hx.cell z0; clear hx; go_simp; try rfl)
          simp only [Act.put, List.setIfInBounds_toArray, List.set_cons_zero, List.set_cons_succ]
          refine hl_take_np 32 (by kernel_rfl) (by kernel_rfl) rfl (by kernel_rfl) hs1 (v := ?_) ?_ ?_
          rotate_left
          · (rintro x hx; have k1 := hx.cell b4; have k2 := hx.cell q0; have k6 := hx.cell z0; clear hx; go_simp; try rfl)
          simp only [Act.put, List.setIfInBounds_toArray, List.set_cons_zero, List.set_cons_succ]
          refine hl_take_np 33 (by kernel_rfl) (by kernel_rfl) rfl (by kernel_rfl) hs1 (v := ?_) ?_ ?_
          rotate_left
          · (rintro x hx; have k1 := hx.cell b4; have k2 := hx.cell q0; have k6 := hx.cell z0; clear hx; go_simp; try rfl)
          simp only [Act.put, List.setIfInBounds_toArray, List.set_cons_zero, List.set_cons_succ]
          refine hl_take_np 34 (by kernel_rfl) (by kernel_rfl) rfl (by kernel_rfl) hs1 (v := ?_) ?_ ?_
          rotate_left
          · (rintro x hx; have k1 := hx.cell b4; have k2 := hx.cell q0; have k6 := hx.cell z0; clear hx; go_simp; try rfl)
          simp only [Act.put, List.setIfInBounds_toArray, List.set_cons_zero, List.set_cons_succ]
          refine hl_take_np 35 (by kernel_rfl) (by kernel_rfl) rfl (by kernel_rfl) hs1 (v := ?_) ?_ ?_
          rotate_left
          · (rintro x hx; have k1 := hx.cell b4; have k2 := hx.cell q0; have k6 := hx.cell z0; clear hx; go_simp; try rfl)
          simp only [Act.put, List.setIfInBounds_toArray, List.set_cons_zero, List.set_cons_succ]
          refine hl_take_np 36 (by kernel_rfl) (by kernel_rfl) rfl (by kernel_rfl) hs1 (v := ?_) ?_ ?_
          rotate_left
          · (rintro x hx; have k1 := hx.cell b4; have k2 := hx.cell q0; have k6 := hx.cell z0; clear hx; go_simp; try rfl)
          simp only [Act.put, List.setIfInBounds_toArray, List.set_cons_zero, List.set_cons_succ]
          refine hl_take_np 37 (by kernel_rfl) (by kernel_rfl) rfl (by kernel_rfl) hs1 (v := ?_) ?_ ?_
          rotate_left
          · (rintro x hx; have k1 := hx.cell b4; have k2 := hx.cell q0; have k6 := hx.cell z0; clear hx; go_simp; try rfl)
          simp only [Act.put, List.setIfInBounds_toArray, List.set_cons_zero, List.set_cons_succ]
          refine hl_done (by kernel_rfl) ?_ _
          refine NoPanic.normal ?_
          clear q0 q1 q2 q3 z0 hf1 hr1
          go_wp2_with fail
          go_ret
          exact ⟨by rw [H2.out]; rfl, hgw.trans hs1⟩
        · have H3 : Hid (risB ⟨#[]⟩ ps = risB x0 (ps.drop (k + 1))) := Lib.hid (by rw [HRS.out, leB_less, hb]; rfl)
          refine hl_take_np 0 (by kernel_rfl) (by kernel_rfl) rfl (by kernel_rfl) hs0 (v := ?_) ?_ ?_
          rotate_left
          · (rintro x hx; have k1 := hx.cell b4; have k2 := hx.cell q0; have k3 := hx.cell q1; have k4 := hx.cell q2; have k5 := hx.cell q3; clear hx; go_simp; try rfl)
          simp only [Act.put, List.setIfInBounds_toArray, List.set_cons_zero, List.set_cons_succ]
          refine hl_take_np 1 (by kernel_rfl) (by kernel_rfl) rfl (by kernel_rfl) hs0 (v := ?_) ?_ ?_
          rotate_left
          · (rintro x hx; have k1 := hx.cell b4; have k2 := hx.cell q0; have k3 := hx.cell q1; have k4 := hx.cell q2; have k5 := hx.cell q3; clear hx; go_simp; try rfl)
          simp only [Act.put, List.setIfInBounds_toArray, List.set_cons_zero, List.set_cons_succ]
          refine hl_take_np 2 (by kernel_rfl) (by kernel_rfl) rfl (by kernel_rfl) hs0 (v := ?_) ?_ ?_
          rotate_left
          · (rintro x hx; have k1 := hx.cell b4; have k2 := hx.cell q0; have k3 := hx.cell q1; have k4 := hx.cell q2; have k5 := hx.cell q3; clear hx; go_simp; try rfl)
          simp only [Act.put, List.setIfInBounds_toArray, List.set_cons_zero, List.set_cons_succ]
          refine hl_take_np 3 (by kernel_rfl) (by kernel_rfl) rfl (by kernel_rfl) hs0 (v := ?_) ?_ ?_
          rotate_left
          · (rintro x hx; have k1 := hx.cell b4; have k2 := hx.cell q0; have k3 := hx.cell q1; have k4 := hx.cell q2; have k5 := hx.cell q3; clear hx; go_simp; try rfl)
          simp only [Act.put, List.setIfInBounds_toArray, List.set_cons_zero, List.set_cons_succ]
          refine hl_take_np 4 (by kernel_rfl) (by kernel_rfl) rfl (by kernel_rfl) hs0 (v := ?_) ?_ ?_
          rotate_left
          · (rintro x hx; have k1 := hx.cell b4; have k2 := hx.cell q0; have k3 := hx.cell q1; have k4 := hx.cell q2; have k5 := hx.cell q3; clear hx; go_simp; try rfl)
          simp only [Act.put, List.setIfInBounds_toArray, List.set_cons_zero, List.set_cons_succ]
          refine hl_take_np 5 (by kernel_rfl) (by kernel_rfl) rfl (by kernel_rfl) hs0 (v := ?_) ?_ ?_
          rotate_left
          · (rintro x hx; have k1 := hx.cell b4; have k2 := hx.cell q0; have k3 := hx.cell q1; have k4 := hx.cell q2; have k5 := hx.cell q3; clear hx; go_simp; try rfl)
          simp only [Act.put, List.setIfInBounds_toArray, List.set_cons_zero, List.set_cons_succ]
          refine hl_stepW 6 (by kernel_rfl) rfl (by kernel_rfl) ?_
          intro K hK
          go_simp
          refine (rFree_is x0 true _ hz0 hf1).mono ?_
          rintro e w1 ⟨rfl, rfl⟩
          refine hK _ _ (fun _ => hs0) ?_
          clear hK K
          simp only [Act.put, List.setIfInBounds_toArray, List.set_cons_zero, List.set_cons_succ]
          refine hl_take_np 7 (by kernel_rfl) (by kernel_rfl) rfl (by kernel_rfl) hs0 (v := ?_) ?_ ?_
          rotate_left
          · (rintro x hx; have k1 := hx.cell b4; have k2 := hx.cell q0; have k3 := hx.cell q1; have k4 := hx.cell q2; have k5 := hx.cell q3; clear hx; go_simp; try rfl)
          simp only [Act.put, List.setIfInBounds_toArray, List.set_cons_zero, List.set_cons_succ]
          refine hl_take_np 8 (by kernel_rfl) (by kernel_rfl) rfl (by kernel_rfl) hs0 (v := ?_) ?_ ?_
          rotate_left
          · (rintro x hx; have k1 := hx.cell b4; have k2 := hx.cell q0; have k3 := hx.cell q1; have k4 := hx.cell q2; have k5 := hx.cell q3; clear hx; go_simp; try rfl)
          simp only [Act.put, List.setIfInBounds_toArray, List.set_cons_zero, List.set_cons_succ]
          refine hl_take_np 9 (by kernel_rfl) (by kernel_rfl) rfl (by kernel_rfl) hs0 (v := ?_) ?_ ?_
          rotate_left
          · (rintro x hx; have k1 := hx.cell b4; have k2 := hx.cell q0; have k3 := hx.cell q1; have k4 := hx.cell q2; have k5 := hx.cell q3; clear hx; go_simp; try rfl)
          simp only [Act.put, List.setIfInBounds_toArray, List.set_cons_zero, List.set_cons_succ]
          refine hl_take_np 10 (by kernel_rfl) (by kernel_rfl) rfl (by kernel_rfl) hs0 (v := ?_) ?_ ?_
          rotate_left
          · (rintro x hx; have k1 := hx.cell b4; have k2 := hx.cell q0; have k3 := hx.cell q1; have k4 := hx.cell q2; have k5 := hx.cell q3; clear hx; go_simp; try rfl)
          simp only [Act.put, List.setIfInBounds_toArray, List.set_cons_zero, List.set_cons_succ]
          refine hl_take_np 11 (by kernel_rfl) (by kernel_rfl) rfl (by kernel_rfl) hs0 (v := ?_) ?_ ?_
          rotate_left
          · (rintro x hx; have k1 := hx.cell b4; have k2 := hx.cell q0; have k3 := hx.cell q1; have k4 := hx.cell q2; have k5 := hx.cell q3; clear hx; go_simp; try rfl)
          simp only [Act.put, List.setIfInBounds_toArray, List.set_cons_zero, List.set_cons_succ]
          refine hl_take_np 12 (by kernel_rfl) (by kernel_rfl) rfl (by kernel_rfl) hs0 (v := ?_) ?_ ?_
          rotate_left
          · (rintro x hx; have k1 := hx.cell b4; have k2 := hx.cell q0; have k3 := hx.cell q1; have k4 := hx.cell q2; have k5 := hx.cell q3; clear hx; go_simp; try rfl)
          simp only [Act.put, List.setIfInBounds_toArray, List.set_cons_zero, List.set_cons_succ]
          refine hl_take_np 13 (by kernel_rfl) (by kernel_rfl) rfl (by kernel_rfl) hs0 (v := ?_) ?_ ?_
          rotate_left
          · (rintro x hx; have k1 := hx.cell b4; have k2 := hx.cell q0; have k3 := hx.cell q1; have k4 := hx.cell q2; have k5 := hx.cell q3; clear hx; go_simp; try rfl)
          simp only [Act.put, List.setIfInBounds_toArray, List.set_cons_zero, List.set_cons_succ]
          refine hl_take_np 14 (by kernel_rfl) (by kernel_rfl) rfl (by kernel_rfl) hs0 (v := ?_) ?_ ?_
          rotate_left
          · (rintro x hx; have k1 := hx.cell b4; have k2 := hx.cell q0; have k3 := hx.cell q1; have k4 := hx.cell q2; have k5 := hx.cell q3; clear hx; go_simp; try rfl)
          simp only [Act.put, List.setIfInBounds_toArray, List.set_cons_zero, List.set_cons_succ]
          refine hl_stepW 15 (by kernel_rfl) rfl (by kernel_rfl) ?_
          intro K hK
          go_simp
          refine ((show Calls Try.prog 65 #[.agg #[.int .i64 x1, .int .i64 x2, .string x3]] WA.drew _ from rRight_is (x1, x2, x3) true WA.drew hz3 hr1)).mono ?_
          rintro e w1 ⟨rfl, hw⟩
          have hs1 : G WA w1 := hs0.trans hw
          refine hK _ _ (fun _ => hs1) ?_
          clear hK K hw
          simp only [Act.put, List.setIfInBounds_toArray, List.set_cons_zero, List.set_cons_succ]
          refine hl_take_np 16 (by kernel_rfl) (by kernel_rfl) rfl (by kernel_rfl) hs1 (v := ?_) ?_ ?_
          rotate_left
          · (rintro x hx; have k1 := hx.cell b4; have k2 := hx.cell q0; have k6 := hx.cell z0; clear hx; go_simp; try rfl)
          simp only [Act.put, List.setIfInBounds_toArray, List.set_cons_zero, List.set_cons_succ]
          refine hl_take_np 17 (by kernel_rfl) (by kernel_rfl) rfl (by kernel_rfl) hs1 (v := ?_) ?_ ?_
          rotate_left
          · (rintro x hx; have k1 := hx.cell b4; have k2 := hx.cell q0; have k6 := hx.cell z0; clear hx; go_simp; try rfl)
          simp only [Act.put, List.setIfInBounds_toArray, List.set_cons_zero, List.set_cons_succ]
          refine hl_take_np 18 (by kernel_rfl) (by kernel_rfl) rfl (by kernel_rfl) hs1 (v := ?_) ?_ ?_
          rotate_left
          · (rintro x hx; have k1 := hx.cell b4; have k2 := hx.cell q0; have k6 := hx.cell z0; clear hx; go_simp; try rfl)
          simp only [Act.put, List.setIfInBounds_toArray, List.set_cons_zero, List.set_cons_succ]
          refine hl_take_np 19 (by kernel_rfl) (by kernel_rfl) rfl (by kernel_rfl) hs1 (v := ?_) ?_ ?_
          rotate_left
          · (rintro x hx; have k1 := hx.cell b4; have k2 := hx.cell q0; have k6 := hx.cell z0; clear hx; go_simp; try rfl)
          simp only [Act.put, List.setIfInBounds_toArray, List.set_cons_zero, List.set_cons_succ]
          refine hl_take_np 20 (by kernel_rfl) (by kernel_rfl) rfl (by kernel_rfl) hs1 (v := ?_) ?_ ?_
          rotate_left
          · (rintro x hx; have k1 := hx.cell b4; have k2 := hx.cell q0; have k6 := hx.cell z0; clear hx; go_simp; try rfl)
          simp only [Act.put, List.setIfInBounds_toArray, List.set_cons_zero, List.set_cons_succ]
          refine hl_take_np 21 (by kernel_rfl) (by kernel_rfl) rfl (by kernel_rfl) hs1 (v := ?_) ?_ ?_
          rotate_left
          · (rintro x hx; have k1 := hx.cell b4; have k2 := hx.cell q0; have k6 := hx.cell z0; clear hx; go_simp; try rfl)
          simp only [Act.put, List.setIfInBounds_toArray, List.set_cons_zero, List.set_cons_succ]
          refine hl_take_np 22 (by kernel_rfl) (by kernel_rfl) rfl (by kernel_rfl) hs1 (v := ?_) ?_ ?_
          rotate_left
          · (rintro x hx; have k1 := hx.cell b4; have k2 := hx.cell q0; have k6 := hx.cell z0; clear hx; go_simp; try rfl)
          simp only [Act.put, List.setIfInBounds_toArray, List.set_cons_zero, List.set_cons_succ]
          refine hl_take_np 23 (by kernel_rfl) (by kernel_rfl) rfl (by kernel_rfl) hs1 (v := ?_) ?_ ?_
          rotate_left
          · (rintro x hx; have k1 := hx.cell b4; have k2 := hx.cell q0; have k6 := hx.cell z0; clear hx; go_simp; try rfl)
          simp only [Act.put, List.setIfInBounds_toArray, List.set_cons_zero, List.set_cons_succ]
          refine hl_take_np 24 (by kernel_rfl) (by kernel_rfl) rfl (by kernel_rfl) hs1 (v := ?_) ?_ ?_
          rotate_left
          · (rintro x hx; have k1 := hx.cell b4; have k2 := hx.cell q0; have k6 := hx.cell z0; clear hx; go_simp; try rfl)
          simp only [Act.put, List.setIfInBounds_toArray, List.set_cons_zero, List.set_cons_succ]
          refine hl_take_np 25 (by kernel_rfl) (by kernel_rfl) rfl (by kernel_rfl) hs1 (v := ?_) ?_ ?_
          rotate_left
          · (rintro x hx; have k1 := hx.cell b4; have k2 := hx.cell q0; have k6 := hx.cell z0; clear hx; go_simp; try rfl)
          simp only [Act.put, List.setIfInBounds_toArray, List.set_cons_zero, List.set_cons_succ]
          refine hl_take_np 26 (by kernel_rfl) (by kernel_rfl) rfl (by kernel_rfl) hs1 (v := ?_) ?_ ?_
          rotate_left
          · (rintro x hx; have k1 := hx.cell b4; have k2 := hx.cell q0; have k6 := hx.cell z0; clear hx; go_simp; try rfl)
          simp only [Act.put, List.setIfInBounds_toArray, List.set_cons_zero, List.set_cons_succ]
          refine hl_take_np 27 (by kernel_rfl) (by kernel_rfl) rfl (by kernel_rfl) hs1 (v := ?_) ?_ ?_
          rotate_left
          · (rintro x hx; have k1 := hx.cell b4; have k2 := hx.cell q0; have k6 := hx.cell z0; clear hx; go_simp; try rfl)
          simp only [Act.put, List.setIfInBounds_toArray, List.set_cons_zero, List.set_cons_succ]
          refine hl_take_np 28 (by kernel_rfl) (by kernel_rfl) rfl (by kernel_rfl) hs1 (v := ?_) ?_ ?_
          rotate_left
          · (rintro x hx; have k1 := hx.cell b4; have k2 := hx.cell q0; have k6 := hx.cell z0; clear hx; go_simp; try rfl)
          simp only [Act.put, List.setIfInBounds_toArray, List.set_cons_zero, List.set_cons_succ]
          refine hl_take_np 29 (by kernel_rfl) (by kernel_rfl) rfl (by kernel_rfl) hs1 (v := ?_) ?_ ?_
          rotate_left
          · (rintro x hx; have k1 := hx.cell b4; have k2 := hx.cell q0; have k6 := hx.cell z0; clear hx; go_simp; try rfl)
          simp only [Act.put, List.setIfInBounds_toArray, List.set_cons_zero, List.set_cons_succ]
          refine hl_take_np 30 (by kernel_rfl) (by kernel_rfl) rfl (by kernel_rfl) hs1 (v := ?_) ?_ ?_
          rotate_left
          · (rintro x hx; have k1 := hx.cell b4; have k2 := hx.cell q0; have k6 := hx.cell z0; clear hx; go_simp; try rfl)
          simp only [Act.put, List.setIfInBounds_toArray, List.set_cons_zero, List.set_cons_succ]
          refine hl_take_np 31 (by kernel_rfl) (by kernel_rfl) rfl (by kernel_rfl) hs1 (v := ?_) ?_ ?_
          rotate_left
          · (rintro x hx; have k1 := hx.cell b4; have k2 := hx.cell q0; have k6 := hx.cell z0; clear hx; go_simp; try rfl)
          simp only [Act.put, List.setIfInBounds_toArray, List.set_cons_zero, List.set_cons_succ]
          refine hl_take_np 32 (by kernel_rfl) (by kernel_rfl) rfl (by kernel_rfl) hs1 (v := ?_) ?_ ?_
          rotate_left
          · (rintro x hx; have k1 := hx.cell b4; have k2 := hx.cell q0; have k6 := hx.cell z0; clear hx; go_simp; try rfl)
          simp only [Act.put, List.setIfInBounds_toArray, List.set_cons_zero, List.set_cons_succ]
          refine hl_take_np 33 (by kernel_rfl) (by kernel_rfl) rfl (by kernel_rfl) hs1 (v := ?_) ?_ ?_
          rotate_left
          · (rintro x hx; have k1 := hx.cell b4; have k2 := hx.cell q0; have k6 := hx.cell z0; clear hx; go_simp; try rfl)
          simp only [Act.put, List.setIfInBounds_toArray, List.set_cons_zero, List.set_cons_succ]
          refine hl_take_np 34 (by kernel_rfl) (by kernel_rfl) rfl (by kernel_rfl) hs1 (v := ?_) ?_ ?_
          rotate_left
          · (rintro x hx; have k1 := hx.cell b4; have k2 := hx.cell q0; have k6 := hx.cell z0; clear hx; go_simp; try rfl)
          simp only [Act.put, List.setIfInBounds_toArray, List.set_cons_zero, List.set_cons_succ]
          refine hl_take_np 35 (by kernel_rfl) (by kernel_rfl) rfl (by kernel_rfl) hs1 (v := ?_) ?_ ?_
          rotate_left
          · (rintro x hx; have k1 := hx.cell b4; have k2 := hx.cell q0; have k6 := hx.cell z0; clear hx; go_simp; try rfl)
          simp only [Act.put, List.setIfInBounds_toArray, List.set_cons_zero, List.set_cons_succ]
          refine hl_take_np 36 (by kernel_rfl) (by kernel_rfl) rfl (by kernel_rfl) hs1 (v := ?_) ?_ ?_
          rotate_left
          · (rintro x hx; have k1 := hx.cell b4; have k2 := hx.cell q0; have k6 := hx.cell z0; clear hx; go_simp; try rfl)
          simp only [Act.put, List.setIfInBounds_toArray, List.set_cons_zero, List.set_cons_succ]
          refine hl_take_np 37 (by kernel_rfl) (by kernel_rfl) rfl (by kernel_rfl) hs1 (v := ?_) ?_ ?_
          rotate_left
          · (rintro x hx; have k1 := hx.cell b4; have k2 := hx.cell q0; have k6 := hx.cell z0; clear hx; go_simp; try rfl)
          simp only [Act.put, List.setIfInBounds_toArray, List.set_cons_zero, List.set_cons_succ]
          refine hl_done (by kernel_rfl) ?_ _
          refine NoPanic.normal ?_
          clear q0 q1 q2 q3 z0 hf1 hr1
          go_wp2_with fail
          go_roundw
          case rel => exact ⟨k + 1, x0, by omega, by go_num, .inr ⟨k, _, rfl, HX.out, rfl⟩, H3, hg.trans hs1⟩
          case measure => simp [intOf]; omega
    · have HRR : risB ⟨#[]⟩ ps = true := by rw [HRS.out, List.drop_of_length_le (by have := HN.out; omega)]; simp [risB]
      have hkn : ¬ (k : Int) < (n : Int) := by omega
      have hgw := hgA.trans hg
      rw [HRR, if_pos rfl] at HC2
      clear HRR HRS hlast c3 c4
      cases hv5 : timeB tm
      · have H2 := Lib.hid (show checkE ⟨f, t, l, tm, .slice vp n vc, ps⟩ = 6 by rw [HC2.out, hv5]; simp)
        have HF := Lib.hid (rTime_is tm false WA hv5)
        clear HC2 hv5
        go_wp2_with fail
        refine HF.out.mono ?_
        rintro e w1 ⟨rfl, rfl⟩
        go_wp2_with fail
        go_ret
        exact ⟨by rw [H2.out]; rfl, hgw⟩
      · have H2 := Lib.hid (show checkE ⟨f, t, l, tm, .slice vp n vc, ps⟩ = 0 by rw [HC2.out, hv5]; simp)
        have HF := Lib.hid (rTime_is tm true WA hv5)
        clear HC2 hv5
        go_wp2_with fail
        refine HF.out.mono ?_
        rintro e w1 ⟨rfl, rfl⟩
        go_wp2_with fail
        go_ret
        exact ⟨by rw [H2.out]; rfl, hgw⟩
end Go.Proofs.Ytahdodijpmkddaa
