/- the law's own functions: as the document's; written over -/
import Derived.Test.YthdeehpnlcpbnaaHeapR
namespace Go.Proofs.Ythdeehpnlcpbnaa
set_option linter.unusedVariables false
set_option linter.unusedSimpArgs false
open Go.RowKit Go.Shelf
attribute [local go_sem] Oper.semAt_some

theorem theirs_any (xs : List Item) (u : Value) (w : World) (hu : Rdr w 2 u xs.length (icells xs)) (hn : xs.length ≤ 1000000) :
    Calls Try.prog 9 #[u] w fun e w' => ∃ u, e = .returned u ∧ w'.ownsRow w.heap.size 43 2 u xs.length (icells xs) ∧ G w w' := by
  obtain ⟨hul, up, uc, rfl, -⟩ := id hu
  obtain ⟨n, hnn⟩ : ∃ n, n = xs.length := ⟨_, rfl⟩
  rw [← hnn] at hn hu ⊢
  have HN := Lib.hid hnn
  have HU := Lib.hid hu
  obtain ⟨i0, hi, hz0, hz1, hz2⟩ := info_parts infoRI
  clear hnn hul hu
  go_enter Try.func9, Try.ntmps9
  go_wp2_with fail
  go_loopw [3, 4] (fun out i wr => ∃ (k : Nat), k ≤ n ∧ i = .int .i64 k ∧ wr.ownsRow w.heap.size 43 2 out k (icells (xs.take k)) ∧ G w wr) (fun _ i _ => n - (intOf i).toNat)
  case atStart => exact ⟨0, by omega, rfl, World.ownsRow_nil _ _ _ _, G.refl _⟩
  case round =>
    obtain ⟨k, hk, rfl, hown, hg⟩ := hrel
    obtain ⟨op, oc, rfl⟩ := ownsRow_shape hown
    by_cases hlt : k < n
    · obtain ⟨x, hx⟩ : ∃ x, xs[k]? = some x := ⟨xs[k]'(by have := HN.out; omega), List.getElem?_eq_getElem _⟩
      obtain ⟨b, o, rfl, cx0, cx1⟩ := rdr_item HU.out hx
      have hbl := World.block_lt_of_cell? w _ cx0
      have cx0 := hg.cell cx0
      have cx1 := hg.cell cx1
      obtain ⟨x0, x1⟩ := x
      simp only at cx0 cx1 hbl
      have HTK : Hid (xs.take (k + 1) = xs.take k ++ [(x0, x1)]) := Lib.hid (by rw [List.take_add_one, hx]; rfl)
      have HOWN := Lib.hid hown
      have hkn : (k : Int) < (n : Int) := by omega
      have hk0 : (0 : Int) ≤ (k : Int) := by omega
      clear hown hx
      go_upto_region 5 with fail
      refine region_hl (fun w' => w'.cell? ⟨b, o + k * 2, none⟩ = some (.int .i64 x0) ∧ w'.cell? ⟨b, o + k * 2 + 1, none⟩ = some (.int .i64 x1)) 14 15 (by kernel_rfl) rfl ?_
      simp only [List.replicate_succ, List.replicate_zero]
      have hs0 : (fun w' : World => w'.cell? ⟨b, o + k * 2, none⟩ = some (.int .i64 x0) ∧ w'.cell? ⟨b, o + k * 2 + 1, none⟩ = some (.int .i64 x1)) wr.drew := ⟨(G.refl wr).drew.cell cx0, (G.refl wr).drew.cell cx1⟩
      refine hl_take_np 0 (by kernel_rfl) (by kernel_rfl) rfl (by kernel_rfl) hs0 (v := ?_) ?_ ?_
      rotate_left
      · (rintro x hx; obtain ⟨k0, k1⟩ := hx; go_simp; try rfl)
      simp only [Act.put, List.setIfInBounds_toArray, List.set_cons_zero, List.set_cons_succ]
      refine hl_take_np 1 (by kernel_rfl) (by kernel_rfl) rfl (by kernel_rfl) hs0 (v := ?_) ?_ ?_
      rotate_left
      · (rintro x hx; obtain ⟨k0, k1⟩ := hx; go_simp; try rfl)
      simp only [Act.put, List.setIfInBounds_toArray, List.set_cons_zero, List.set_cons_succ]
      refine hl_take_np 2 (by kernel_rfl) (by kernel_rfl) rfl (by kernel_rfl) hs0 (v := ?_) ?_ ?_
      rotate_left
      · (rintro x hx; obtain ⟨k0, k1⟩ := hx; go_simp; try rfl)
      simp only [Act.put, List.setIfInBounds_toArray, List.set_cons_zero, List.set_cons_succ]
      refine hl_take_np 3 (by kernel_rfl) (by kernel_rfl) rfl (by kernel_rfl) hs0 (v := ?_) ?_ ?_
      rotate_left
      · (rintro x hx; obtain ⟨k0, k1⟩ := hx; go_simp; try rfl)
      simp only [Act.put, List.setIfInBounds_toArray, List.set_cons_zero, List.set_cons_succ]
      refine hl_take_np 4 (by kernel_rfl) (by kernel_rfl) rfl (by kernel_rfl) hs0 (v := ?_) ?_ ?_
      rotate_left
      · (rintro x hx; obtain ⟨k0, k1⟩ := hx; go_simp; try rfl)
      simp only [Act.put, List.setIfInBounds_toArray, List.set_cons_zero, List.set_cons_succ]
      refine hl_take_np 5 (by kernel_rfl) (by kernel_rfl) rfl (by kernel_rfl) hs0 (v := ?_) ?_ ?_
      rotate_left
      · (rintro x hx; obtain ⟨k0, k1⟩ := hx; go_simp; try rfl)
      simp only [Act.put, List.setIfInBounds_toArray, List.set_cons_zero, List.set_cons_succ]
      refine hl_take_np 6 (by kernel_rfl) (by kernel_rfl) rfl (by kernel_rfl) hs0 (v := ?_) ?_ ?_
      rotate_left
      · (rintro x hx; obtain ⟨k0, k1⟩ := hx; go_simp; try rfl)
      simp only [Act.put, List.setIfInBounds_toArray, List.set_cons_zero, List.set_cons_succ]
      refine hl_take_np 7 (by kernel_rfl) (by kernel_rfl) rfl (by kernel_rfl) hs0 (v := ?_) ?_ ?_
      rotate_left
      · (rintro x hx; obtain ⟨k0, k1⟩ := hx; go_simp; try rfl)
      simp only [Act.put, List.setIfInBounds_toArray, List.set_cons_zero, List.set_cons_succ]
      refine hl_take_np 8 (by kernel_rfl) (by kernel_rfl) rfl (by kernel_rfl) hs0 (v := ?_) ?_ ?_
      rotate_left
      · (rintro x hx; obtain ⟨k0, k1⟩ := hx; go_simp; try rfl)
      simp only [Act.put, List.setIfInBounds_toArray, List.set_cons_zero, List.set_cons_succ]
      refine hl_take_np 9 (by kernel_rfl) (by kernel_rfl) rfl (by kernel_rfl) hs0 (v := ?_) ?_ ?_
      rotate_left
      · (rintro x hx; obtain ⟨k0, k1⟩ := hx; go_simp; try rfl)
      simp only [Act.put, List.setIfInBounds_toArray, List.set_cons_zero, List.set_cons_succ]
      refine hl_take_np 10 (by kernel_rfl) (by kernel_rfl) rfl (by kernel_rfl) hs0 (v := ?_) ?_ ?_
      rotate_left
      · (rintro x hx; obtain ⟨k0, k1⟩ := hx; go_simp; try rfl)
      simp only [Act.put, List.setIfInBounds_toArray, List.set_cons_zero, List.set_cons_succ]
      refine hl_take_np 11 (by kernel_rfl) (by kernel_rfl) rfl (by kernel_rfl) hs0 (v := ?_) ?_ ?_
      rotate_left
      · (rintro x hx; obtain ⟨k0, k1⟩ := hx; go_simp; try rfl)
      simp only [Act.put, List.setIfInBounds_toArray, List.set_cons_zero, List.set_cons_succ]
      refine hl_step 12 (by kernel_rfl) rfl ?_
      go_wp2_with fail
      show _ ∧ _
      have hA : G wr (wr.alloc (.cells #[.int .i64 x0, .int .i64 x1] 43)).drew := ((G.refl wr).alloc _).drew
      have q0 := hA.cell cx0
      have q1 := hA.cell cx1
      refine ⟨(by first | exact ⟨q0, q1⟩ | exact fun _ => ⟨q0, q1⟩), ?_⟩
      refine hl_step 13 (by kernel_rfl) rfl ?_
      have hnew : ((wr.alloc (.cells #[.int .i64 x0, .int .i64 x1] 43)).drew).heap[wr.heap.size]? = some (.cells #[.int .i64 x0, .int .i64 x1] 43) := alloc_new wr (.cells #[.int .i64 x0, .int .i64 x1] 43)
      refine wpList_append2 _ rfl _ _ 30 rfl w.heap.size 43 i0 (.agg #[.int .i64 0, .int .i64 0]) 2 16 Try.underlying30 hi hz0 hz1 hz2 rfl (by decide) (.slice op k oc) k (icells (xs.take k)) rfl (hA.ownsRow HOWN.out) ⟨wr.heap.size, 0, none⟩ 1 1 [.int .i64 x0, .int .i64 x1] rfl rfl (World.news_of_block (cs := #[.int .i64 x0, .int .i64 x1]) (t := 43) (fr := (0, 0)) hnew) (by simp [Value.oneCell']) (by unfold maxLen; omega) (by omega) (by have := hg.size; have := hA.size; omega) ?_
      intro v2 wa hown hgrow hnil hat
      obtain ⟨p2, c2, rfl⟩ := ownsRow_shape hown
      have hfa := grownBy_fr hgrow
      have hnz : ¬ (Value.slice op k oc).ownBlock = some b := fun e => by have := (HOWN.out.lt b e).1; omega
      have a0 := hfa.cell (p := ⟨b, o + k * 2, none⟩) hnz q0
      have a1 := hfa.cell (p := ⟨b, o + k * 2 + 1, none⟩) hnz q1
      have hgwa : G w wa := ((hg.trans hA).fr (fun q => w.heap.size ≤ q)).trans (hfa.mono (fun q e => (HOWN.out.lt q e).1)) (fun _ _ h => h) |>.g (fun _ h => h)
      have HO2 : Hid (wa.ownsRow w.heap.size 43 2 (.slice p2 (k + 1) c2) (k + 1) (icells (xs.take (k + 1)))) := Lib.hid (by rw [HTK.out, icells_snoc]; exact hown)
      clear hown hgrow hnil hat hfa hnew q0 q1 hA hs0
      show _ ∧ _
      refine ⟨(by first | exact ⟨a0, a1⟩ | exact fun _ => ⟨a0, a1⟩), ?_⟩
      refine hl_step 14 (by kernel_rfl) rfl ?_
      go_wp2_with fail
      show _ ∧ _
      refine ⟨(by first | exact fun h => absurd rfl h | trivial), ?_⟩
      refine hl_done (by kernel_rfl) ?_ _
      refine NoPanic.normal ?_
      clear cx0 cx1 a0 a1
      go_wp2_with fail
      go_roundw
      case rel => exact ⟨k + 1, by omega, by go_num, HO2.out, hgwa⟩
      case measure => simp [intOf]; omega
    · have hkk : k = n := by omega
      subst hkk
      have HTK : Hid (xs.take k = xs) := Lib.hid (by rw [HN.out]; exact List.take_length)
      have HOWN := Lib.hid hown
      clear hown
      go_wp2_with fail
      go_ret
      exact ⟨_, rfl, by rw [← HTK.out]; exact HOWN.out, hg⟩
/-- over: the row's own block is written, no other -/
theorem over_any (base : Nat) (xs : List Item) (u : Value) (w : World) (hu : w.ownsRow base 40 2 u xs.length (icells xs)) (hn : xs.length ≤ 1000000) :
    Calls Try.prog 10 #[u] w fun e w' => (∃ u, e = .returned u) ∧ Fr (fun q => u.ownBlock = some q) w w' := by
  obtain ⟨up, uc, rfl⟩ := ownsRow_shape hu
  obtain ⟨n, hnn⟩ : ∃ n, n = xs.length := ⟨_, rfl⟩
  rw [← hnn] at hn hu ⊢
  have hu0 : Hid (∃ ys : List Item, ys.length = n ∧ w.ownsRow base 40 2 (.slice up n uc) n (icells ys)) := Lib.hid ⟨xs, hnn.symm, hu⟩
  clear hu hnn
  go_enter Try.func10, Try.ntmps10
  go_wp2_with fail
  go_loopw [2] (fun i wr => ∃ (k : Nat), k ≤ n ∧ i = .int .i64 k ∧ Hid (∃ ys : List Item, ys.length = n ∧ wr.ownsRow base 40 2 (.slice up n uc) n (icells ys)) ∧ Fr (fun q => (Value.slice up n uc).ownBlock = some q) w wr) (fun i _ => n - (intOf i).toNat)
  case atStart => exact ⟨0, by omega, rfl, hu0, Fr.refl _ _⟩
  case round =>
    obtain ⟨k, hk, rfl, HY, hf⟩ := hrel
    by_cases hlt : k < n
    · obtain ⟨ys, hyl, hown⟩ := HY.out
      obtain ⟨g, rfl, hx0, hx1⟩ := own_at hown (k := k) (by omega)
      have f0 := own_froz (j := k * 2) hown
      have f1 := own_froz (j := k * 2 + 1) hown
      have HOWN := Lib.hid hown
      have HL := Lib.hid hyl
      clear hown hyl
      go_wp2_with fail
      have h2 := own_set (j := k * 2 + 1) (.int .i64 77) (own_set (j := k * 2) (.int .i64 (-77)) HOWN.out)
      have h3 : (icells ys |>.set (k * 2) (.int .i64 (-77))).set (k * 2 + 1) (.int .i64 77) = icells (ys.set k (-77, 77)) := (icells_set ys k (-77, 77)).symm
      rw [h3] at h2
      have HY2 := Lib.hid (show ∃ zs : List Item, zs.length = n ∧ ((wr.setCell ⟨g, k * 2, none⟩ (.int .i64 (-77))).setCell ⟨g, k * 2 + 1, none⟩ (.int .i64 77)).ownsRow base 40 2 (.slice (some ⟨g, 0, none⟩) n uc) n (icells zs) from ⟨_, by simpa using HL.out, h2⟩)
      have hf2 := (hf.setCell (p := ⟨g, k * 2, none⟩) (.inl rfl) (.int .i64 (-77))).setCell (p := ⟨g, k * 2 + 1, none⟩) (.inl rfl) (.int .i64 77)
      clear h2 h3 hf hx0 hx1 f0 f1
      go_roundw
      case rel => exact ⟨k + 1, by omega, by go_num, HY2, hf2⟩
      case measure => simp [intOf]; omega
    · go_wp2_with fail
      go_returns
      exact ⟨⟨_, rfl⟩, hf⟩
end Go.Proofs.Ythdeehpnlcpbnaa
