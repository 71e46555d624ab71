/- laid together: SortEs -/
import Derived.Test.YtahdodijpmkddaaSortM
set_option maxRecDepth 10000
/- rows of edges: are two the same?; an edge that is a mark -/
namespace Go.Proofs.Ytahdodijpmkddaa
set_option linter.unusedVariables false
set_option linter.unusedSimpArgs false
open Go.RowKit Go.Shelf
attribute [local go_sem] Oper.semAt_some

/-- are two rows the same, edge by edge? -/
def sameL : List Edg → List Edg → Bool
  | [], [] => true
  | [], _ :: _ => false
  | _ :: _, [] => false
  | a :: l, b :: m => sameE a b && sameL l m
theorem sameE_iff {A B : Edg} : sameE A B = true ↔ outE A = outE B := by
  simp only [sameE, outE, Bool.and_eq_true, decide_eq_true_eq, Prod.mk.injEq, and_assoc]
theorem sameL_out : ∀ {l m : List Edg}, sameL l m = true ↔ l.map outE = m.map outE
  | [], [] => by simp [sameL]
  | [], _ :: _ => by simp [sameL]
  | _ :: _, [] => by simp [sameL]
  | a :: l, b :: m => by
    simp only [sameL, Bool.and_eq_true, List.map_cons, List.cons.injEq, sameL_out, sameE_iff]
theorem sameL_len {l m : List Edg} (h : l.length ≠ m.length) : sameL l m = false := by
  cases hs : sameL l m
  · rfl
  · exact absurd (by have := congrArg List.length (sameL_out.1 hs); simpa using this) h
theorem sameL_drop {l m : List Edg} {k : Nat} {a b : Edg} (ha : l[k]? = some a) (hb : m[k]? = some b) : sameL (l.drop k) (m.drop k) = (sameE a b && sameL (l.drop (k + 1)) (m.drop (k + 1))) := by
  obtain ⟨h1, h2⟩ := List.getElem?_eq_some_iff.1 ha
  obtain ⟨h3, h4⟩ := List.getElem?_eq_some_iff.1 hb
  rw [List.drop_eq_getElem_cons h1, List.drop_eq_getElem_cons h3, h2, h4, sameL]
set_option maxHeartbeats 1000000 in
theorem sameEs_any (As Bs : List Edg) (va vb : Value) (w : World) (ha : RdrE w va As) (hb : RdrE w vb Bs) (hx : As.length ≤ 4398046511104) (hy : Bs.length ≤ 4398046511104) :
    Calls Try.prog 9 #[va, vb] w fun e w' => e = .returned (.bool (sameL As Bs)) ∧ G w w' := by
  obtain ⟨p, c, rfl⟩ := ha.shape
  obtain ⟨q, d, rfl⟩ := hb.shape
  obtain ⟨n, hn⟩ : ∃ n, n = As.length := ⟨_, rfl⟩
  obtain ⟨m, hm⟩ : ∃ m, m = Bs.length := ⟨_, rfl⟩
  rw [← hn, ← hm]
  rw [← hn] at hx
  rw [← hm] at hy
  have HA := Lib.hid ha
  have HB := Lib.hid hb
  have HN := Lib.hid hn
  have HM := Lib.hid hm
  obtain ⟨sb, hsb⟩ : ∃ b, b = sameL As Bs := ⟨_, rfl⟩
  rw [← hsb]
  have HSB := Lib.hid hsb
  by_cases hl : n = m
  · subst hl
    clear ha hb hn hm hsb hy
    go_enter Try.func9, Try.ntmps9
    go_wp2_with fail
    go_loopw [5] (fun i wr => ∃ k : Nat, k ≤ n ∧ i = .int .i64 k ∧ Hid (sb = sameL (As.drop k) (Bs.drop k)) ∧ G w wr) (fun i _ => n - (intOf i).toNat)
    case atStart => exact ⟨0, by omega, rfl, Lib.hid (by rw [HSB.out]; rfl), G.refl w⟩
    case round =>
      obtain ⟨k, hk, rfl, HS, hg⟩ := hrel
      by_cases hlt : k < n
      · have hltI : (k : Int) < (n : Int) := by omega
        obtain ⟨A, hA⟩ : ∃ x, As[k]? = some x := ⟨As[k]'(by have := HN.out; omega), List.getElem?_eq_getElem _⟩
        obtain ⟨B, hB⟩ : ∃ x, Bs[k]? = some x := ⟨Bs[k]'(by have := HM.out; omega), List.getElem?_eq_getElem _⟩
        have ra : RdrE wr (.slice p n c) As := by have := HA.out.g hg; rwa [← HN.out] at this
        have rb : RdrE wr (.slice q n d) Bs := by have := HB.out.g hg; rwa [← HM.out] at this
        obtain ⟨b1, o1, rfl, a0, a1, a2, a3, a4⟩ := ra.at hA
        obtain ⟨b2, o2, rfl, u0, u1, u2, u3, u4⟩ := rb.at hB
        have hea := ra.each A (List.mem_of_getElem? hA)
        have heb := rb.each B (List.mem_of_getElem? hB)
        have HC := Lib.hid (fun X (hX : G wr X) => sameE_any A B X (hea.g hX) (heb.g hX))
        obtain ⟨pa, na, ca, hva⟩ := hea.isE
        obtain ⟨pb, nb, cb, hvb⟩ := heb.isE
        have HD := Lib.hid (sameL_drop hA hB)
        unfold ev at HC
        rw [hva, hvb] at HC
        rw [hva] at a4
        rw [hvb] at u4
        obtain ⟨r, hr⟩ : ∃ r, r = sameE A B := ⟨_, rfl⟩
        rw [← hr] at HC HD
        clear hA hB ra rb hea heb hva hvb hr
        obtain ⟨fa, ta, la, ma, va, psa⟩ := A
        obtain ⟨fb, tb, lb, mb, vb, psb⟩ := B
        simp only at a0 a1 a2 a3 u0 u1 u2 u3 HC
        go_upto_region 6 with fail
        obtain ⟨WD, hWD⟩ : ∃ WD : World, WD = wr.drew := ⟨_, rfl⟩
        have hsD : G wr WD := by rw [hWD]; exact (G.refl wr).drew
        refine region_hlW (fun w' => G wr w') 99 10 (by kernel_rfl) rfl ?_
        intro Q0 HQ0
        simp only [List.replicate_succ, List.replicate_zero]
        rw [← hWD]
        clear hWD
        refine hl_take_np 0 (by kernel_rfl) (by kernel_rfl) rfl (by kernel_rfl) hsD (v := ?_) ?_ ?_
        rotate_left
        · (rintro x hx; have k0 := hx.cell a0; have l0 := hx.cell u0; have k1 := hx.cell a1; have l1 := hx.cell u1; have k2 := hx.cell a2; have l2 := hx.cell u2; have k3 := hx.cell a3; have l3 := hx.cell u3; have k4 := hx.cell a4; have l4 := hx.cell u4; clear hx; go_simp; try rfl)
        simp only [Act.put, List.setIfInBounds_toArray, List.set_cons_zero, List.set_cons_succ]
        refine hl_take_np 1 (by kernel_rfl) (by kernel_rfl) rfl (by kernel_rfl) hsD (v := ?_) ?_ ?_
        rotate_left
        · (rintro x hx; have k0 := hx.cell a0; have l0 := hx.cell u0; have k1 := hx.cell a1; have l1 := hx.cell u1; have k2 := hx.cell a2; have l2 := hx.cell u2; have k3 := hx.cell a3; have l3 := hx.cell u3; have k4 := hx.cell a4; have l4 := hx.cell u4; clear hx; go_simp; try rfl)
        simp only [Act.put, List.setIfInBounds_toArray, List.set_cons_zero, List.set_cons_succ]
        refine hl_take_np 2 (by kernel_rfl) (by kernel_rfl) rfl (by kernel_rfl) hsD (v := ?_) ?_ ?_
        rotate_left
        · (rintro x hx; have k0 := hx.cell a0; have l0 := hx.cell u0; have k1 := hx.cell a1; have l1 := hx.cell u1; have k2 := hx.cell a2; have l2 := hx.cell u2; have k3 := hx.cell a3; have l3 := hx.cell u3; have k4 := hx.cell a4; have l4 := hx.cell u4; clear hx; go_simp; try rfl)
        simp only [Act.put, List.setIfInBounds_toArray, List.set_cons_zero, List.set_cons_succ]
        refine hl_take_np 3 (by kernel_rfl) (by kernel_rfl) rfl (by kernel_rfl) hsD (v := ?_) ?_ ?_
        rotate_left
        · (rintro x hx; have k0 := hx.cell a0; have l0 := hx.cell u0; have k1 := hx.cell a1; have l1 := hx.cell u1; have k2 := hx.cell a2; have l2 := hx.cell u2; have k3 := hx.cell a3; have l3 := hx.cell u3; have k4 := hx.cell a4; have l4 := hx.cell u4; clear hx; go_simp; try rfl)
        simp only [Act.put, List.setIfInBounds_toArray, List.set_cons_zero, List.set_cons_succ]
        refine hl_take_np 4 (by kernel_rfl) (by kernel_rfl) rfl (by kernel_rfl) hsD (v := ?_) ?_ ?_
        rotate_left
        · (rintro x hx; have k0 := hx.cell a0; have l0 := hx.cell u0; have k1 := hx.cell a1; have l1 := hx.cell u1; have k2 := hx.cell a2; have l2 := hx.cell u2; have k3 := hx.cell a3; have l3 := hx.cell u3; have k4 := hx.cell a4; have l4 := hx.cell u4; clear hx; go_simp; try rfl)
        simp only [Act.put, List.setIfInBounds_toArray, List.set_cons_zero, List.set_cons_succ]
        refine hl_take_np 5 (by kernel_rfl) (by kernel_rfl) rfl (by kernel_rfl) hsD (v := ?_) ?_ ?_
        rotate_left
        · (rintro x hx; have k0 := hx.cell a0; have l0 := hx.cell u0; have k1 := hx.cell a1; have l1 := hx.cell u1; have k2 := hx.cell a2; have l2 := hx.cell u2; have k3 := hx.cell a3; have l3 := hx.cell u3; have k4 := hx.cell a4; have l4 := hx.cell u4; clear hx; go_simp; try rfl)
        simp only [Act.put, List.setIfInBounds_toArray, List.set_cons_zero, List.set_cons_succ]
        refine hl_take_np 6 (by kernel_rfl) (by kernel_rfl) rfl (by kernel_rfl) hsD (v := ?_) ?_ ?_
        rotate_left
        · (rintro x hx; have k0 := hx.cell a0; have l0 := hx.cell u0; have k1 := hx.cell a1; have l1 := hx.cell u1; have k2 := hx.cell a2; have l2 := hx.cell u2; have k3 := hx.cell a3; have l3 := hx.cell u3; have k4 := hx.cell a4; have l4 := hx.cell u4; clear hx; go_simp; try rfl)
        simp only [Act.put, List.setIfInBounds_toArray, List.set_cons_zero, List.set_cons_succ]
        refine hl_take_np 7 (by kernel_rfl) (by kernel_rfl) rfl (by kernel_rfl) hsD (v := ?_) ?_ ?_
        rotate_left
        · (rintro x hx; have k0 := hx.cell a0; have l0 := hx.cell u0; have k1 := hx.cell a1; have l1 := hx.cell u1; have k2 := hx.cell a2; have l2 := hx.cell u2; have k3 := hx.cell a3; have l3 := hx.cell u3; have k4 := hx.cell a4; have l4 := hx.cell u4; clear hx; go_simp; try rfl)
        simp only [Act.put, List.setIfInBounds_toArray, List.set_cons_zero, List.set_cons_succ]
        refine hl_stepW 8 (by kernel_rfl) rfl (by kernel_rfl) ?_
        intro K hK
        go_simp
        refine (HC.out WD hsD).mono ?_
        rintro e W2 ⟨rfl, hga⟩
        have hs2 : G wr W2 := hsD.trans hga
        refine hK _ _ (fun _ => hs2) ?_
        clear hK K hga a0 a1 a2 a3 a4 u0 u1 u2 u3 u4 HC
        simp only [Act.put, List.setIfInBounds_toArray, List.set_cons_zero, List.set_cons_succ]
        refine hl_take_np 9 (by kernel_rfl) (by kernel_rfl) rfl (by kernel_rfl) hs2 (v := ?_) ?_ ?_
        rotate_left
        · (rintro x hx; clear hx; go_simp; try rfl)
        simp only [Act.put, List.setIfInBounds_toArray, List.set_cons_zero, List.set_cons_succ]
        refine hl_done (by kernel_rfl) ?_ _
        refine NoPanic.normal (HQ0.out _ _ ?_)
        clear HQ0
        have hg2 := hg.trans hs2
        clear hs2 hsD hg
        cases r
        · have HF := Lib.hid (show sb = false by rw [HS.out, HD.out]; rfl)
          go_wp2_with fail
          go_ret
          exact ⟨by rw [HF.out]; rfl, hg2⟩
        · have HF := Lib.hid (show sb = sameL (As.drop (k + 1)) (Bs.drop (k + 1)) by rw [HS.out, HD.out, Bool.true_and])
          go_wp2_with fail
          go_roundw
          case rel => exact ⟨k + 1, by omega, by go_num, HF, hg2⟩
          case measure => simp [intOf]; omega
      · have hltI : ¬ (k : Int) < (n : Int) := by omega
        have HF := Lib.hid (show sb = true by
          rw [HS.out, List.drop_of_length_le (by have := HN.out; omega), List.drop_of_length_le (by have := HM.out; omega)]; rfl)
        go_wp2_with fail
        go_ret
        exact ⟨by rw [HF.out]; rfl, hg⟩
  · have HF := Lib.hid (show sb = false by rw [hsb]; exact sameL_len (by rw [← hn, ← hm]; exact hl))
    have hneI : ((n : Int) != (m : Int)) = true := by simp; omega
    clear ha hb hn hm hsb
    go_enter Try.func9, Try.ntmps9
    go_wp2_with fail
    go_ret
    exact ⟨by rw [HF.out]; rfl, G.refl _⟩
theorem markEdge_any (k i : Int) (w : World) (hk : 0 ≤ k) (hk2 : k ≤ 100) (hi : 0 ≤ i) (hi2 : i ≤ 100000000) : Calls Try.prog 25 #[.int .i64 k, .int .i64 i] w fun e w' => e = .returned (.agg #[.string ⟨#[]⟩, .string ⟨#[]⟩, .string ⟨#[]⟩, .int .i64 (mk k i), .slice none 0 0]) ∧ G w w' := by
  obtain ⟨W1, hW1⟩ : ∃ X : World, X = w.alloc (.cells #[.string ⟨#[]⟩, .string ⟨#[]⟩, .string ⟨#[]⟩, .int .i64 0, .slice none 0 0] 33) := ⟨_, rfl⟩
  have hg1 : G w W1 := by rw [hW1]; exact (G.refl w).alloc _
  have hb1 : W1.heap[w.heap.size]? = some (.cells #[.string ⟨#[]⟩, .string ⟨#[]⟩, .string ⟨#[]⟩, .int .i64 0, .slice none 0 0] 33 (0, 0)) := by rw [hW1]; exact alloc_new _ _
  have HM := Lib.hid (mark_any k i W1 hk hk2 hi hi2)
  obtain ⟨x, hx⟩ : ∃ x, x = mk k i := ⟨_, rfl⟩
  rw [show 1000003 * (k + 7) + i = x from hx.symm] at HM
  rw [← hx]
  have HW1 := Lib.hid hW1
  have HB1 := Lib.hid hb1
  clear hW1 hb1 hx
  go_enter Try.func25, Try.ntmps25
  go_upto_region 1 with fail
  rw [← HW1.out]
  go_wp2_with fail
  refine HM.out.mono ?_
  rintro e w' ⟨rfl, hw⟩
  rw [← hw]
  obtain ⟨z0, z1, z2, z3, z4⟩ := cells5 HB1.out
  have hb := HB1.out
  have y0 : W1.frozen? ⟨w.heap.size, 0, none⟩ = false := by unfold World.frozen?; rw [hb]; simp
  have y1 : W1.frozen? ⟨w.heap.size, 1, none⟩ = false := by unfold World.frozen?; rw [hb]; simp
  have y2 : W1.frozen? ⟨w.heap.size, 2, none⟩ = false := by unfold World.frozen?; rw [hb]; simp
  have y3 : W1.frozen? ⟨w.heap.size, 3, none⟩ = false := by unfold World.frozen?; rw [hb]; simp
  have y4 : W1.frozen? ⟨w.heap.size, 4, none⟩ = false := by unfold World.frozen?; rw [hb]; simp
  obtain ⟨hgF, hrF⟩ := set5 hg1 (Nat.le_refl _) hb (.string ⟨#[]⟩) (.string ⟨#[]⟩) (.string ⟨#[]⟩) (.int .i64 x) (.slice none 0 0)
  obtain ⟨q0, q1, q2, q3, q4⟩ := cells5 hrF
  clear hb hw HM hrF
  go_wp2_with fail
  refine bodyPost_ret (v := .agg #[.string ⟨#[]⟩, .string ⟨#[]⟩, .string ⟨#[]⟩, .int .i64 x, .slice none 0 0]) ?_ rfl ⟨rfl, hgF⟩
  simp [results, Try.results25, go_sem, q0, q1, q2, q3, q4]
end Go.Proofs.Ytahdodijpmkddaa
