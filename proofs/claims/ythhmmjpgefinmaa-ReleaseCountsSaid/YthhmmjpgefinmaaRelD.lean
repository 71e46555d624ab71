/- laid together: RelF RelD -/
import Derived.Test.YthhmmjpgefinmaaRelS
import Derived.Test.YthhmmjpgefinmaaHeapH
set_option maxRecDepth 10000
namespace Go.Proofs.Ythhmmjpgefinmaa
set_option linter.unusedVariables false
set_option linter.unusedSimpArgs false
/-- the closes from a tick on, of the slots from the j-th on at that tick -/
def closesF (T : Int) (j : Nat) (b : Int) (l : List Slt) : List (Int × Int) := if T ≤ b then rowC T (l.drop j) ++ closesD T b l else []
structure NxI (l : List Slt) (T : Int) (j : Nat) (nx : List Int) : Prop where
  pos : 0 < T
  len : nx.length = l.length
  at' : ∀ k s, l[k]? = some s → nx.getD k 0 = if k < j then nxt T s.2 else nxt (T - 1) s.2
theorem nxt_pred_dv {T s : Int} (h0 : 0 < T) (hs : 1 ≤ s) (hd : T % s = 0) : nxt (T - 1) s = T := by
  have h1 := nxt_le (a := T - 1) hs (by omega) hd
  have h2 := nxt_gt (a := T - 1) hs
  omega
theorem nxt_same {T U s : Int} (h0 : 0 ≤ T) (hs : 1 ≤ s) (hT : T < U) (hU : U ≤ nxt T s) : nxt (U - 1) s = nxt T s := by
  have h1 := nxt_le (a := U - 1) hs (t := nxt T s) (by omega) (nxt_dv T s)
  have h2 := nxt_gt (a := U - 1) hs
  have h3 := nxt_le (a := T) hs (t := nxt (U - 1) s) (by omega) (nxt_dv _ s)
  omega
theorem nxt_pred_no {T s : Int} (h0 : 0 < T) (hs : 1 ≤ s) (hd : nxt (T - 1) s ≠ T) : nxt (T - 1) s = nxt T s := by
  have h1 := nxt_gt (a := T) hs
  have h2 := nxt_gt (a := T - 1) hs
  have h3 := nxt_le (a := T - 1) hs (t := nxt T s) (by omega) (nxt_dv T s)
  have h4 := nxt_le (a := T) hs (t := nxt (T - 1) s) (by omega) (nxt_dv _ s)
  omega
theorem nxt_add {T s : Int} (h0 : 0 < T) (hs : 1 ≤ s) (hd : T % s = 0) : T + s = nxt T s := by
  obtain ⟨q, rfl⟩ := Int.dvd_of_emod_eq_zero hd
  unfold nxt
  rw [show max (s * q) 0 = s * q by omega, Int.mul_ediv_cancel_left _ (by omega), Int.add_mul, Int.mul_comm q s]; omega
theorem nxt_hi {T s : Int} (hs : 1 ≤ s) : nxt T s ≤ max T 0 + s := by
  unfold nxt
  rw [Int.add_mul]
  have := Int.ediv_mul_le (max T 0) (show s ≠ 0 by omega)
  omega
theorem row_first {M q s : Int} {l : List Slt} : ∀ {n j k : Nat}, k = j + n → l[k]? = some (q, s) → M % s = 0 → (∀ i x, j ≤ i → i < k → l[i]? = some x → ¬ M % x.2 = 0) → rowC M (l.drop j) = (M, q) :: rowC M (l.drop (k + 1))
  | 0, j, k, hk, hx, hd, _ => by
    have e : j = k := by omega
    subst e
    have h := List.getElem?_eq_some_iff.1 hx
    obtain ⟨h1, h2⟩ := h
    rw [List.drop_eq_getElem_cons h1, h2]
    unfold rowC
    rw [List.filter_cons_of_pos (by simp [dv, hd])]; rfl
  | n + 1, j, k, hk, hx, hd, hno => by
    have hkl := (List.getElem?_eq_some_iff.1 hx).1
    have hj : l[j]? = some (l[j]'(by omega)) := List.getElem?_eq_getElem _
    have h1 := hno j _ (Nat.le_refl _) (by omega) hj
    rw [List.drop_eq_getElem_cons (show j < l.length by omega)]
    have h2 : rowC M (l[j]'(by omega) :: l.drop (j + 1)) = rowC M (l.drop (j + 1)) := by
      unfold rowC
      rw [List.filter_cons_of_neg (by simp [dv, h1])]
    rw [h2]
    exact row_first (n := n) (j := j + 1) (k := k) (by omega) hx hd (fun i x e1 e2 e3 => hno i x (by omega) e2 e3)
theorem closesD_zero {T b : Int} {l : List Slt} (h0 : 0 < T) (h : T ≤ b) : closesD (T - 1) b l = rowC T l ++ closesD T b l := by
  unfold closesD
  rw [ticks_one h0 h]; rfl
theorem closesF_start {a b : Int} {l : List Slt} : closesF (max a 0 + 1) 0 b l = closesD a b l := by
  unfold closesF
  split
  · rename_i h
    rw [List.drop_zero, ← closesD_zero (by omega) h]
    unfold closesD ticks
    rw [show max (max a 0 + 1 - 1) 0 = max a 0 by omega]
  · unfold closesD
    rw [ticks_nil (by omega)]; rfl
theorem NxI.start {a : Int} {l : List Slt} : NxI l (max a 0 + 1) 0 (l.map (fun s => nxt a s.2)) := by
  refine ⟨by omega, by simp, fun k s hs => ?_⟩
  rw [List.getD_eq_getElem?_getD, List.getElem?_map, hs]
  simp only [Option.map_some, Option.getD_some, Nat.not_lt_zero, if_false]
  unfold nxt
  rw [show max (max a 0 + 1 - 1) 0 = max a 0 by omega]
theorem getD_set {nx : List Int} {k i : Nat} {v : Int} (hk : k < nx.length) : (nx.set k v).getD i 0 = if i = k then v else nx.getD i 0 := by
  rw [List.getD_eq_getElem?_getD, List.getElem?_set, List.getD_eq_getElem?_getD]
  by_cases h : k = i
  · subst h; simp [hk]
  · rw [if_neg h, if_neg (fun e => h e.symm)]
theorem closes_next {T b : Int} {j k : Nat} {nx : List Int} {l : List Slt} {q s : Int} (hl : ∀ x ∈ l, 1 ≤ x.2) (hi : NxI l T j nx) (hne : closesF T j b l ≠ []) (hx : l[k]? = some (q, s)) (hmin : ∀ i x, l[i]? = some x → nx.getD k 0 ≤ nx.getD i 0) (hst : ∀ i, i < k → nx.getD k 0 < nx.getD i 0) :
    closesF T j b l = (nx.getD k 0, q) :: closesF (nx.getD k 0) (k + 1) b l ∧ NxI l (nx.getD k 0) (k + 1) (nx.set k (nx.getD k 0 + s)) ∧ nx.getD k 0 ≤ b := by
  have hkl := (List.getElem?_eq_some_iff.1 hx).1
  have hTb : T ≤ b := by
    by_cases h : T ≤ b
    · exact h
    · unfold closesF at hne; rw [if_neg h] at hne; exact absurd rfl hne
  have hpos := hi.pos
  have hs1 : 1 ≤ s := hl (q, s) (List.mem_of_getElem? hx)
  have hge : ∀ i x, l[i]? = some x → T ≤ nx.getD i 0 := fun i x h => by
    have h1 := hi.at' i x h
    have h2 := hl x (List.mem_of_getElem? h)
    have h3 := nxt_gt (a := T) h2
    have h4 := nxt_gt (a := T - 1) h2
    split at h1 <;> omega
  generalize hM : nx.getD k 0 = M at hmin hst ⊢
  have hMT : T ≤ M := by rw [← hM]; exact hge k _ hx
  -- the state at the minimum
  obtain ⟨j', hj1, hj2, hj3⟩ : ∃ j', (∀ i x, l[i]? = some x → nx.getD i 0 = if i < j' then nxt M x.2 else nxt (M - 1) x.2) ∧ closesF T j b l = closesF M j' b l ∧ M ≤ b := by
    by_cases hMe : M = T
    · exact ⟨j, fun i x h => by rw [hMe]; exact hi.at' i x h, by rw [hMe], by omega⟩
    · have hall : ∀ i x, l[i]? = some x → nx.getD i 0 = nxt T x.2 := fun i x h => by
        have h1 := hi.at' i x h
        have h2 := hmin i x h
        have h3 := hl x (List.mem_of_getElem? h)
        split at h1
        · exact h1
        · rw [h1]; exact nxt_pred_no hpos h3 (by omega)
      have hrow : rowC T (l.drop j) = [] := by
        refine row_nil (fun x hx2 => ?_)
        obtain ⟨i, hi2⟩ := List.getElem?_of_mem (List.mem_of_mem_drop hx2)
        have h1 := hmin i x hi2
        have h3 := hl x (List.mem_of_getElem? hi2)
        by_cases hd : T % x.2 = 0
        · obtain ⟨n, hn⟩ := List.getElem?_of_mem hx2
          rw [List.getElem?_drop] at hn
          have h4 := hi.at' (j + n) x hn
          rw [if_neg (by omega), nxt_pred_dv hpos h3 hd] at h4
          have h5 := hmin (j + n) x hn
          omega
        · simp [dv, hd]
      have hno : ∀ t, max T 0 < t → t < M → ∀ x ∈ l, dv t x = false := fun t h1 h2 x hx2 => by
        obtain ⟨i, hi2⟩ := List.getElem?_of_mem hx2
        have h3 := hl x hx2
        by_cases hd : t % x.2 = 0
        · have h4 := nxt_le (a := T) h3 h1 hd
          have h5 := hall i x hi2
          have h6 := hmin i x hi2
          omega
        · simp [dv, hd]
      have hMb : M ≤ b := by
        by_cases h : M ≤ b
        · exact h
        · exfalso
          apply hne
          unfold closesF
          rw [if_pos hTb, hrow, List.nil_append]
          exact closesD_none (fun t h1 h2 => hno t h1 (by omega))
      refine ⟨0, fun i x h => ?_, ?_, hMb⟩
      · rw [if_neg (by omega), hall i x h]
        have h1 := hall i x h
        have h2 := hmin i x h
        exact (nxt_same (by omega) (hl x (List.mem_of_getElem? h)) (by omega) (by omega)).symm
      · unfold closesF
        rw [if_pos hTb, if_pos hMb, hrow, List.nil_append, List.drop_zero]
        exact closesD_skip hno (by omega) hMb
  have hMp : 0 < M := by omega
  have hkj : ¬ k < j' := fun h => by
    have h1 := hj1 k _ hx
    rw [if_pos h, hM] at h1
    have := nxt_gt (a := M) hs1
    simp only at h1
    omega
  have hkM : nxt (M - 1) s = M := by
    have h1 := hj1 k _ hx
    rw [if_neg hkj, hM] at h1
    exact h1.symm
  have hdk : M % s = 0 := by rw [← hkM]; exact nxt_dv _ s
  refine ⟨?_, ⟨hMp, by rw [List.length_set]; exact hi.len, fun i x h => ?_⟩, hj3⟩
  · rw [hj2]
    unfold closesF
    rw [if_pos hj3, if_pos hj3, row_first (n := k - j') (j := j') (k := k) (by omega) hx hdk (fun i x h1 h2 h3 hd => by
      have h4 := hj1 i x h3
      rw [if_neg (by omega), nxt_pred_dv hMp (hl x (List.mem_of_getElem? h3)) hd] at h4
      have h5 := hst i h2
      omega)]
    rfl
  · rw [getD_set (by rw [hi.len]; exact hkl)]
    by_cases hik : i = k
    · subst hik
      rw [hx] at h
      cases h
      rw [if_pos rfl, if_pos (by omega)]
      exact nxt_add hMp hs1 hdk
    · rw [if_neg hik, hj1 i x h]
      have h3 := hl x (List.mem_of_getElem? h)
      by_cases hlt : i < k
      · rw [if_pos (show i < k + 1 by omega)]
        split
        · rfl
        · rename_i h4
          refine nxt_pred_no hMp h3 (fun e => ?_)
          have h5 := hj1 i x h
          rw [if_neg h4, e] at h5
          have h6 := hst i hlt
          omega
      · rw [if_neg (by omega), if_neg (by omega)]
end Go.Proofs.Ythhmmjpgefinmaa

set_option maxRecDepth 10000
namespace Go.Proofs.Ythhmmjpgefinmaa
set_option linter.unusedVariables false
set_option linter.unusedSimpArgs false
open Go.RowKit Go.Shelf
attribute [local go_sem] Oper.semAt_some

theorem infoRS : (Try.prog.info? 64).map (fun i => (i.zero, i.size, i.bytes)) = some (some (.agg #[.int .i64 0, .int .i64 0]), 2, 16) := by kernel_rfl
theorem slotsR_any (xs : List Slt) (u : Value) (w : World) (hu : Rdr w 2 u xs.length (icells xs)) (hn : xs.length ≤ 1000000) :
    Calls Try.prog 9 #[u] w fun e w' => ∃ u, e = .returned u ∧ w'.ownsRow w.heap.size 64 2 u xs.length (icells xs) ∧ G w w' := by
  obtain ⟨hul, up, uc, rfl, -⟩ := id hu
  obtain ⟨n, hnn⟩ : ∃ n, n = xs.length := ⟨_, rfl⟩
  rw [← hnn] at hn hu ⊢
  have HN := Lib.hid hnn
  have HU := Lib.hid hu
  obtain ⟨i0, hi, hz0, hz1, hz2⟩ := info_parts infoRS
  clear hnn hul hu
  go_enter Try.func9, Try.ntmps9
  go_wp2_with fail
  go_loopw [3, 4] (fun out i wr => ∃ (k : Nat), k ≤ n ∧ i = .int .i64 k ∧ wr.ownsRow w.heap.size 64 2 out k (icells (xs.take k)) ∧ G w wr) (fun _ i _ => n - (intOf i).toNat)
  case atStart => exact ⟨0, by omega, rfl, World.ownsRow_nil _ _ _ _, G.refl _⟩
  case round =>
    obtain ⟨k, hk, rfl, hown, hg⟩ := hrel
    obtain ⟨op, oc, rfl⟩ := ownsRow_shape hown
    by_cases hlt : k < n
    · obtain ⟨x, hx⟩ : ∃ x, xs[k]? = some x := ⟨xs[k]'(by have := HN.out; omega), List.getElem?_eq_getElem _⟩
      obtain ⟨b, o, rfl, cx0, cx1⟩ := rdr_item HU.out hx
      have hbl := World.block_lt_of_cell? w _ cx0
      have cx0 := hg.cell cx0
      have cx1 := hg.cell cx1
      obtain ⟨x0, x1⟩ := x
      simp only at cx0 cx1 hbl
      have HTK : Hid (xs.take (k + 1) = xs.take k ++ [(x0, x1)]) := Lib.hid (by rw [List.take_add_one, hx]; rfl)
      have HOWN := Lib.hid hown
      have hkn : (k : Int) < (n : Int) := by omega
      have hk0 : (0 : Int) ≤ (k : Int) := by omega
      clear hown hx
      go_upto_region 5 with fail
      refine region_hl (fun w' => w'.cell? ⟨b, o + k * 2, none⟩ = some (.int .i64 x0) ∧ w'.cell? ⟨b, o + k * 2 + 1, none⟩ = some (.int .i64 x1)) 14 15 (by kernel_rfl) rfl ?_
      simp only [List.replicate_succ, List.replicate_zero]
      have hs0 : (fun w' : World => w'.cell? ⟨b, o + k * 2, none⟩ = some (.int .i64 x0) ∧ w'.cell? ⟨b, o + k * 2 + 1, none⟩ = some (.int .i64 x1)) wr.drew := ⟨(G.refl wr).drew.cell cx0, (G.refl wr).drew.cell cx1⟩
      refine hl_take_np 0 (by kernel_rfl) (by kernel_rfl) rfl (by kernel_rfl) hs0 (v := ?_) ?_ ?_
      rotate_left
      · (rintro x hx; obtain ⟨k0, k1⟩ := hx; go_simp; try rfl)
      simp only [Act.put, List.setIfInBounds_toArray, List.set_cons_zero, List.set_cons_succ]
      refine hl_take_np 1 (by kernel_rfl) (by kernel_rfl) rfl (by kernel_rfl) hs0 (v := ?_) ?_ ?_
      rotate_left
      · (rintro x hx; obtain ⟨k0, k1⟩ := hx; go_simp; try rfl)
      simp only [Act.put, List.setIfInBounds_toArray, List.set_cons_zero, List.set_cons_succ]
      refine hl_take_np 2 (by kernel_rfl) (by kernel_rfl) rfl (by kernel_rfl) hs0 (v := ?_) ?_ ?_
      rotate_left
      · (rintro x hx; obtain ⟨k0, k1⟩ := hx; go_simp; try rfl)
      simp only [Act.put, List.setIfInBounds_toArray, List.set_cons_zero, List.set_cons_succ]
      refine hl_take_np 3 (by kernel_rfl) (by kernel_rfl) rfl (by kernel_rfl) hs0 (v := ?_) ?_ ?_
      rotate_left
      · (rintro x hx; obtain ⟨k0, k1⟩ := hx; go_simp; try rfl)
      simp only [Act.put, List.setIfInBounds_toArray, List.set_cons_zero, List.set_cons_succ]
      refine hl_take_np 4 (by kernel_rfl) (by kernel_rfl) rfl (by kernel_rfl) hs0 (v := ?_) ?_ ?_
      rotate_left
      · (rintro x hx; obtain ⟨k0, k1⟩ := hx; go_simp; try rfl)
      simp only [Act.put, List.setIfInBounds_toArray, List.set_cons_zero, List.set_cons_succ]
      refine hl_take_np 5 (by kernel_rfl) (by kernel_rfl) rfl (by kernel_rfl) hs0 (v := ?_) ?_ ?_
      rotate_left
      · (rintro x hx; obtain ⟨k0, k1⟩ := hx; go_simp; try rfl)
      simp only [Act.put, List.setIfInBounds_toArray, List.set_cons_zero, List.set_cons_succ]
      refine hl_take_np 6 (by kernel_rfl) (by kernel_rfl) rfl (by kernel_rfl) hs0 (v := ?_) ?_ ?_
      rotate_left
      · (rintro x hx; obtain ⟨k0, k1⟩ := hx; go_simp; try rfl)
      simp only [Act.put, List.setIfInBounds_toArray, List.set_cons_zero, List.set_cons_succ]
      refine hl_take_np 7 (by kernel_rfl) (by kernel_rfl) rfl (by kernel_rfl) hs0 (v := ?_) ?_ ?_
      rotate_left
      · (rintro x hx; obtain ⟨k0, k1⟩ := hx; go_simp; try rfl)
      simp only [Act.put, List.setIfInBounds_toArray, List.set_cons_zero, List.set_cons_succ]
      refine hl_take_np 8 (by kernel_rfl) (by kernel_rfl) rfl (by kernel_rfl) hs0 (v := ?_) ?_ ?_
      rotate_left
      · (rintro x hx; obtain ⟨k0, k1⟩ := hx; go_simp; try rfl)
      simp only [Act.put, List.setIfInBounds_toArray, List.set_cons_zero, List.set_cons_succ]
      refine hl_take_np 9 (by kernel_rfl) (by kernel_rfl) rfl (by kernel_rfl) hs0 (v := ?_) ?_ ?_
      rotate_left
      · (rintro x hx; obtain ⟨k0, k1⟩ := hx; go_simp; try rfl)
      simp only [Act.put, List.setIfInBounds_toArray, List.set_cons_zero, List.set_cons_succ]
      refine hl_take_np 10 (by kernel_rfl) (by kernel_rfl) rfl (by kernel_rfl) hs0 (v := ?_) ?_ ?_
      rotate_left
      · (rintro x hx; obtain ⟨k0, k1⟩ := hx; go_simp; try rfl)
      simp only [Act.put, List.setIfInBounds_toArray, List.set_cons_zero, List.set_cons_succ]
      refine hl_take_np 11 (by kernel_rfl) (by kernel_rfl) rfl (by kernel_rfl) hs0 (v := ?_) ?_ ?_
      rotate_left
      · (rintro x hx; obtain ⟨k0, k1⟩ := hx; go_simp; try rfl)
      simp only [Act.put, List.setIfInBounds_toArray, List.set_cons_zero, List.set_cons_succ]
      refine hl_step 12 (by kernel_rfl) rfl ?_
      go_wp2_with fail
      show _ ∧ _
      have hA : G wr (wr.alloc (.cells #[.int .i64 x0, .int .i64 x1] 64)).drew := ((G.refl wr).alloc _).drew
      have q0 := hA.cell cx0
      have q1 := hA.cell cx1
      refine ⟨(by first | exact ⟨q0, q1⟩ | exact fun _ => ⟨q0, q1⟩), ?_⟩
      refine hl_step 13 (by kernel_rfl) rfl ?_
      have hnew : ((wr.alloc (.cells #[.int .i64 x0, .int .i64 x1] 64)).drew).heap[wr.heap.size]? = some (.cells #[.int .i64 x0, .int .i64 x1] 64) := alloc_new wr (.cells #[.int .i64 x0, .int .i64 x1] 64)
      refine wpList_append2 _ rfl _ _ 28 rfl w.heap.size 64 i0 (.agg #[.int .i64 0, .int .i64 0]) 2 16 Try.underlying28 hi hz0 hz1 hz2 rfl (by decide) (.slice op k oc) k (icells (xs.take k)) rfl (hA.ownsRow HOWN.out) ⟨wr.heap.size, 0, none⟩ 1 1 [.int .i64 x0, .int .i64 x1] rfl rfl (World.news_of_block (cs := #[.int .i64 x0, .int .i64 x1]) (t := 64) (fr := (0, 0)) hnew) (by simp [Value.oneCell']) (by unfold maxLen; omega) (by omega) (by have := hg.size; have := hA.size; omega) ?_
      intro v2 wa hown hgrow hnil hat
      obtain ⟨p2, c2, rfl⟩ := ownsRow_shape hown
      have hfa := grownBy_fr hgrow
      have hnz : ¬ (Value.slice op k oc).ownBlock = some b := fun e => by have := (HOWN.out.lt b e).1; omega
      have a0 := hfa.cell (p := ⟨b, o + k * 2, none⟩) hnz q0
      have a1 := hfa.cell (p := ⟨b, o + k * 2 + 1, none⟩) hnz q1
      have hgwa : G w wa := ((hg.trans hA).fr (fun q => w.heap.size ≤ q)).trans (hfa.mono (fun q e => (HOWN.out.lt q e).1)) (fun _ _ h => h) |>.g (fun _ h => h)
      have HO2 : Hid (wa.ownsRow w.heap.size 64 2 (.slice p2 (k + 1) c2) (k + 1) (icells (xs.take (k + 1)))) := Lib.hid (by rw [HTK.out, icells_snoc]; exact hown)
      clear hown hgrow hnil hat hfa hnew q0 q1 hA hs0
      show _ ∧ _
      refine ⟨(by first | exact ⟨a0, a1⟩ | exact fun _ => ⟨a0, a1⟩), ?_⟩
      refine hl_step 14 (by kernel_rfl) rfl ?_
      go_wp2_with fail
      show _ ∧ _
      refine ⟨(by first | exact fun h => absurd rfl h | trivial), ?_⟩
      refine hl_done (by kernel_rfl) ?_ _
      refine NoPanic.normal ?_
      clear cx0 cx1 a0 a1
      go_wp2_with fail
      go_roundw
      case rel => exact ⟨k + 1, by omega, by go_num, HO2.out, hgwa⟩
      case measure => simp [intOf]; omega
    · have hkk : k = n := by omega
      subst hkk
      have HTK : Hid (xs.take k = xs) := Lib.hid (by rw [HN.out]; exact List.take_length)
      have HOWN := Lib.hid hown
      clear hown
      go_wp2_with fail
      go_ret
      exact ⟨_, rfl, by rw [← HTK.out]; exact HOWN.out, hg⟩
theorem right_may {z : Int} {q s : Int} {l : List Slt} (h : mayB z (q, s) = false) : rightA z ((q, s) :: l) = false := by rw [right_cons, h]; rfl
set_option maxHeartbeats 4000000 in
theorem slotsRight_any (l : List Slt) (v : Value) (w : World) (h : RdrS w v l) (hn : l.length ≤ 1000000) :
    Calls Try.prog 11 #[v] w fun e w' => e = .returned (.bool (rightL l)) ∧ G w w' := by
  obtain ⟨p, c, rfl⟩ := h.shape
  obtain ⟨m, hm⟩ : ∃ m, m = l.length := ⟨_, rfl⟩
  have HR : Hid (Rdr w 2 (.slice p m c) m (icells l)) := Lib.hid (by rw [hm]; exact h)
  rw [← hm] at hn ⊢
  have HM := Lib.hid hm
  clear hm h
  go_enter Try.func11, Try.ntmps11
  go_wp2_with fail
  go_loopw [3] (fun i wr => ∃ (k : Nat) (z : Int), k ≤ m ∧ i = .int .i64 k ∧ 0 ≤ z ∧ Hid (rightL l = rightA z (l.drop k)) ∧ Hid (0 < k → ∃ s', l[k - 1]? = some (z, s')) ∧ (k = 0 → z = 0) ∧ Hid (G w wr)) (fun i _ => m - (intOf i).toNat)
  case atStart => exact ⟨0, 0, by omega, rfl, by omega, Lib.hid rfl, Lib.hid (fun h => by omega), fun _ => rfl, Lib.hid (G.refl _)⟩
  case round =>
    obtain ⟨k, z, hk, rfl, hz0, HE, HZ, hz, HG⟩ := hrel
    by_cases hlt : k < m
    · have hkI : (k : Int) < (m : Int) := by omega
      have hk0 : (0 : Int) ≤ (k : Int) := by omega
      obtain ⟨b, o, q, s, hx, rfl, c0, c1⟩ := RdrS.at (HR.out.g HG.out) HM.out hlt
      have HD : Hid (rightL l = rightA z ((q, s) :: l.drop (k + 1))) := Lib.hid (by rw [HE.out, drop_get hx])
      have HX := Lib.hid hx
      clear hx HE
      by_cases h1 : q < 1
      · have HF : Hid (rightL l = false) := Lib.hid (by rw [HD.out]; exact right_may (by unfold mayB; rw [show decide (z < (q, s).1) = false by simp; omega]; rfl))
        go_upto_region 4 with fail
        refine region_hl (fun w' => G wr w') 99 40 (by kernel_rfl) rfl ?_
        simp only [List.replicate_succ, List.replicate_zero]
        have hs0 : (fun w' => G wr w') wr.drew := (G.refl wr).drew
        refine hl_take_np 0 (by kernel_rfl) (by kernel_rfl) rfl (by kernel_rfl) hs0 (v := ?_) ?_ ?_
        rotate_left
        · (rintro x hx; have k0 := hx.cell c0; have k1 := hx.cell c1; clear hx; go_simp; try rfl)
        simp only [Act.put, List.setIfInBounds_toArray, List.set_cons_zero, List.set_cons_succ]
        refine hl_take_np 1 (by kernel_rfl) (by kernel_rfl) rfl (by kernel_rfl) hs0 (v := ?_) ?_ ?_
        rotate_left
        · (rintro x hx; have k0 := hx.cell c0; have k1 := hx.cell c1; clear hx; go_simp; try rfl)
        simp only [Act.put, List.setIfInBounds_toArray, List.set_cons_zero, List.set_cons_succ]
        refine hl_take_np 2 (by kernel_rfl) (by kernel_rfl) rfl (by kernel_rfl) hs0 (v := ?_) ?_ ?_
        rotate_left
        · (rintro x hx; have k0 := hx.cell c0; have k1 := hx.cell c1; clear hx; go_simp; try rfl)
        simp only [Act.put, List.setIfInBounds_toArray, List.set_cons_zero, List.set_cons_succ]
        refine hl_take_np 3 (by kernel_rfl) (by kernel_rfl) rfl (by kernel_rfl) hs0 (v := ?_) ?_ ?_
        rotate_left
        · (rintro x hx; have k0 := hx.cell c0; have k1 := hx.cell c1; clear hx; go_simp; try rfl)
        simp only [Act.put, List.setIfInBounds_toArray, List.set_cons_zero, List.set_cons_succ]
        refine hl_take_np 4 (by kernel_rfl) (by kernel_rfl) rfl (by kernel_rfl) hs0 (v := ?_) ?_ ?_
        rotate_left
        · (rintro x hx; have k0 := hx.cell c0; have k1 := hx.cell c1; clear hx; go_simp; try rfl)
        simp only [Act.put, List.setIfInBounds_toArray, List.set_cons_zero, List.set_cons_succ]
        refine hl_take_np 5 (by kernel_rfl) (by kernel_rfl) rfl (by kernel_rfl) hs0 (v := ?_) ?_ ?_
        rotate_left
        · (rintro x hx; have k0 := hx.cell c0; have k1 := hx.cell c1; clear hx; go_simp; try rfl)
        simp only [Act.put, List.setIfInBounds_toArray, List.set_cons_zero, List.set_cons_succ]
        refine hl_take_np 6 (by kernel_rfl) (by kernel_rfl) rfl (by kernel_rfl) hs0 (v := ?_) ?_ ?_
        rotate_left
        · (rintro x hx; have k0 := hx.cell c0; have k1 := hx.cell c1; clear hx; go_simp; try rfl)
        simp only [Act.put, List.setIfInBounds_toArray, List.set_cons_zero, List.set_cons_succ]
        refine hl_skip_np 7 (by kernel_rfl) (by kernel_rfl) rfl (by kernel_rfl) hs0 ?_
        simp only [Act.put, List.setIfInBounds_toArray, List.set_cons_zero, List.set_cons_succ]
        refine hl_skip_np 8 (by kernel_rfl) (by kernel_rfl) rfl (by kernel_rfl) hs0 ?_
        simp only [Act.put, List.setIfInBounds_toArray, List.set_cons_zero, List.set_cons_succ]
        refine hl_skip_np 9 (by kernel_rfl) (by kernel_rfl) rfl (by kernel_rfl) hs0 ?_
        simp only [Act.put, List.setIfInBounds_toArray, List.set_cons_zero, List.set_cons_succ]
        refine hl_skip_np 10 (by kernel_rfl) (by kernel_rfl) rfl (by kernel_rfl) hs0 ?_
        simp only [Act.put, List.setIfInBounds_toArray, List.set_cons_zero, List.set_cons_succ]
        refine hl_skip_np 11 (by kernel_rfl) (by kernel_rfl) rfl (by kernel_rfl) hs0 ?_
        simp only [Act.put, List.setIfInBounds_toArray, List.set_cons_zero, List.set_cons_succ]
        refine hl_skip_np 12 (by kernel_rfl) (by kernel_rfl) rfl (by kernel_rfl) hs0 ?_
        simp only [Act.put, List.setIfInBounds_toArray, List.set_cons_zero, List.set_cons_succ]
        refine hl_take_np 13 (by kernel_rfl) (by kernel_rfl) rfl (by kernel_rfl) hs0 (v := ?_) ?_ ?_
        rotate_left
        · (rintro x hx; have k0 := hx.cell c0; have k1 := hx.cell c1; clear hx; go_simp; try rfl)
        simp only [Act.put, List.setIfInBounds_toArray, List.set_cons_zero, List.set_cons_succ]
        refine hl_take_np 14 (by kernel_rfl) (by kernel_rfl) rfl (by kernel_rfl) hs0 (v := ?_) ?_ ?_
        rotate_left
        · (rintro x hx; have k0 := hx.cell c0; have k1 := hx.cell c1; clear hx; go_simp; try rfl)
        simp only [Act.put, List.setIfInBounds_toArray, List.set_cons_zero, List.set_cons_succ]
        refine hl_skip_np 15 (by kernel_rfl) (by kernel_rfl) rfl (by kernel_rfl) hs0 ?_
        simp only [Act.put, List.setIfInBounds_toArray, List.set_cons_zero, List.set_cons_succ]
        refine hl_skip_np 16 (by kernel_rfl) (by kernel_rfl) rfl (by kernel_rfl) hs0 ?_
        simp only [Act.put, List.setIfInBounds_toArray, List.set_cons_zero, List.set_cons_succ]
        refine hl_skip_np 17 (by kernel_rfl) (by kernel_rfl) rfl (by kernel_rfl) hs0 ?_
        simp only [Act.put, List.setIfInBounds_toArray, List.set_cons_zero, List.set_cons_succ]
        refine hl_skip_np 18 (by kernel_rfl) (by kernel_rfl) rfl (by kernel_rfl) hs0 ?_
        simp only [Act.put, List.setIfInBounds_toArray, List.set_cons_zero, List.set_cons_succ]
        refine hl_skip_np 19 (by kernel_rfl) (by kernel_rfl) rfl (by kernel_rfl) hs0 ?_
        simp only [Act.put, List.setIfInBounds_toArray, List.set_cons_zero, List.set_cons_succ]
        refine hl_skip_np 20 (by kernel_rfl) (by kernel_rfl) rfl (by kernel_rfl) hs0 ?_
        simp only [Act.put, List.setIfInBounds_toArray, List.set_cons_zero, List.set_cons_succ]
        refine hl_take_np 21 (by kernel_rfl) (by kernel_rfl) rfl (by kernel_rfl) hs0 (v := ?_) ?_ ?_
        rotate_left
        · (rintro x hx; have k0 := hx.cell c0; have k1 := hx.cell c1; clear hx; go_simp; try rfl)
        simp only [Act.put, List.setIfInBounds_toArray, List.set_cons_zero, List.set_cons_succ]
        refine hl_take_np 22 (by kernel_rfl) (by kernel_rfl) rfl (by kernel_rfl) hs0 (v := ?_) ?_ ?_
        rotate_left
        · (rintro x hx; have k0 := hx.cell c0; have k1 := hx.cell c1; clear hx; go_simp; try rfl)
        simp only [Act.put, List.setIfInBounds_toArray, List.set_cons_zero, List.set_cons_succ]
        refine hl_skip_np 23 (by kernel_rfl) (by kernel_rfl) rfl (by kernel_rfl) hs0 ?_
        simp only [Act.put, List.setIfInBounds_toArray, List.set_cons_zero, List.set_cons_succ]
        refine hl_skip_np 24 (by kernel_rfl) (by kernel_rfl) rfl (by kernel_rfl) hs0 ?_
        simp only [Act.put, List.setIfInBounds_toArray, List.set_cons_zero, List.set_cons_succ]
        refine hl_skip_np 25 (by kernel_rfl) (by kernel_rfl) rfl (by kernel_rfl) hs0 ?_
        simp only [Act.put, List.setIfInBounds_toArray, List.set_cons_zero, List.set_cons_succ]
        refine hl_skip_np 26 (by kernel_rfl) (by kernel_rfl) rfl (by kernel_rfl) hs0 ?_
        simp only [Act.put, List.setIfInBounds_toArray, List.set_cons_zero, List.set_cons_succ]
        refine hl_skip_np 27 (by kernel_rfl) (by kernel_rfl) rfl (by kernel_rfl) hs0 ?_
        simp only [Act.put, List.setIfInBounds_toArray, List.set_cons_zero, List.set_cons_succ]
        refine hl_skip_np 28 (by kernel_rfl) (by kernel_rfl) rfl (by kernel_rfl) hs0 ?_
        simp only [Act.put, List.setIfInBounds_toArray, List.set_cons_zero, List.set_cons_succ]
        refine hl_skip_np 29 (by kernel_rfl) (by kernel_rfl) rfl (by kernel_rfl) hs0 ?_
        simp only [Act.put, List.setIfInBounds_toArray, List.set_cons_zero, List.set_cons_succ]
        refine hl_skip_np 30 (by kernel_rfl) (by kernel_rfl) rfl (by kernel_rfl) hs0 ?_
        simp only [Act.put, List.setIfInBounds_toArray, List.set_cons_zero, List.set_cons_succ]
        refine hl_skip_np 31 (by kernel_rfl) (by kernel_rfl) rfl (by kernel_rfl) hs0 ?_
        simp only [Act.put, List.setIfInBounds_toArray, List.set_cons_zero, List.set_cons_succ]
        refine hl_skip_np 32 (by kernel_rfl) (by kernel_rfl) rfl (by kernel_rfl) hs0 ?_
        simp only [Act.put, List.setIfInBounds_toArray, List.set_cons_zero, List.set_cons_succ]
        refine hl_skip_np 33 (by kernel_rfl) (by kernel_rfl) rfl (by kernel_rfl) hs0 ?_
        simp only [Act.put, List.setIfInBounds_toArray, List.set_cons_zero, List.set_cons_succ]
        refine hl_skip_np 34 (by kernel_rfl) (by kernel_rfl) rfl (by kernel_rfl) hs0 ?_
        simp only [Act.put, List.setIfInBounds_toArray, List.set_cons_zero, List.set_cons_succ]
        refine hl_skip_np 35 (by kernel_rfl) (by kernel_rfl) rfl (by kernel_rfl) hs0 ?_
        simp only [Act.put, List.setIfInBounds_toArray, List.set_cons_zero, List.set_cons_succ]
        refine hl_skip_np 36 (by kernel_rfl) (by kernel_rfl) rfl (by kernel_rfl) hs0 ?_
        simp only [Act.put, List.setIfInBounds_toArray, List.set_cons_zero, List.set_cons_succ]
        refine hl_skip_np 37 (by kernel_rfl) (by kernel_rfl) rfl (by kernel_rfl) hs0 ?_
        simp only [Act.put, List.setIfInBounds_toArray, List.set_cons_zero, List.set_cons_succ]
        refine hl_skip_np 38 (by kernel_rfl) (by kernel_rfl) rfl (by kernel_rfl) hs0 ?_
        simp only [Act.put, List.setIfInBounds_toArray, List.set_cons_zero, List.set_cons_succ]
        refine hl_take_np 39 (by kernel_rfl) (by kernel_rfl) rfl (by kernel_rfl) hs0 (v := ?_) ?_ ?_
        rotate_left
        · (rintro x hx; have k0 := hx.cell c0; have k1 := hx.cell c1; clear hx; go_simp; try rfl)
        simp only [Act.put, List.setIfInBounds_toArray, List.set_cons_zero, List.set_cons_succ]
        refine hl_done (by kernel_rfl) ?_ _
        refine NoPanic.normal ?_
        go_wp2_with fail
        go_ret
        exact ⟨by rw [HF.out]; rfl, HG.out.trans hs0⟩
      · by_cases h2 : s < 1
        · have HF : Hid (rightL l = false) := Lib.hid (by rw [HD.out]; exact right_may (by unfold mayB; rw [show decide (0 < (q, s).2) = false by simp; omega]; simp))
          go_upto_region 4 with fail
          refine region_hl (fun w' => G wr w') 99 40 (by kernel_rfl) rfl ?_
          simp only [List.replicate_succ, List.replicate_zero]
          have hs0 : (fun w' => G wr w') wr.drew := (G.refl wr).drew
          refine hl_take_np 0 (by kernel_rfl) (by kernel_rfl) rfl (by kernel_rfl) hs0 (v := ?_) ?_ ?_
          rotate_left
          · (rintro x hx; have k0 := hx.cell c0; have k1 := hx.cell c1; clear hx; go_simp; try rfl)
          simp only [Act.put, List.setIfInBounds_toArray, List.set_cons_zero, List.set_cons_succ]
          refine hl_take_np 1 (by kernel_rfl) (by kernel_rfl) rfl (by kernel_rfl) hs0 (v := ?_) ?_ ?_
          rotate_left
          · (rintro x hx; have k0 := hx.cell c0; have k1 := hx.cell c1; clear hx; go_simp; try rfl)
          simp only [Act.put, List.setIfInBounds_toArray, List.set_cons_zero, List.set_cons_succ]
          refine hl_take_np 2 (by kernel_rfl) (by kernel_rfl) rfl (by kernel_rfl) hs0 (v := ?_) ?_ ?_
          rotate_left
          · (rintro x hx; have k0 := hx.cell c0; have k1 := hx.cell c1; clear hx; go_simp; try rfl)
          simp only [Act.put, List.setIfInBounds_toArray, List.set_cons_zero, List.set_cons_succ]
          refine hl_take_np 3 (by kernel_rfl) (by kernel_rfl) rfl (by kernel_rfl) hs0 (v := ?_) ?_ ?_
          rotate_left
          · (rintro x hx; have k0 := hx.cell c0; have k1 := hx.cell c1; clear hx; go_simp; try rfl)
          simp only [Act.put, List.setIfInBounds_toArray, List.set_cons_zero, List.set_cons_succ]
          refine hl_take_np 4 (by kernel_rfl) (by kernel_rfl) rfl (by kernel_rfl) hs0 (v := ?_) ?_ ?_
          rotate_left
          · (rintro x hx; have k0 := hx.cell c0; have k1 := hx.cell c1; clear hx; go_simp; try rfl)
          simp only [Act.put, List.setIfInBounds_toArray, List.set_cons_zero, List.set_cons_succ]
          refine hl_take_np 5 (by kernel_rfl) (by kernel_rfl) rfl (by kernel_rfl) hs0 (v := ?_) ?_ ?_
          rotate_left
          · (rintro x hx; have k0 := hx.cell c0; have k1 := hx.cell c1; clear hx; go_simp; try rfl)
          simp only [Act.put, List.setIfInBounds_toArray, List.set_cons_zero, List.set_cons_succ]
          refine hl_take_np 6 (by kernel_rfl) (by kernel_rfl) rfl (by kernel_rfl) hs0 (v := ?_) ?_ ?_
          rotate_left
          · (rintro x hx; have k0 := hx.cell c0; have k1 := hx.cell c1; clear hx; go_simp; try rfl)
          simp only [Act.put, List.setIfInBounds_toArray, List.set_cons_zero, List.set_cons_succ]
          refine hl_take_np 7 (by kernel_rfl) (by kernel_rfl) rfl (by kernel_rfl) hs0 (v := ?_) ?_ ?_
          rotate_left
          · (rintro x hx; have k0 := hx.cell c0; have k1 := hx.cell c1; clear hx; go_simp; try rfl)
          simp only [Act.put, List.setIfInBounds_toArray, List.set_cons_zero, List.set_cons_succ]
          refine hl_take_np 8 (by kernel_rfl) (by kernel_rfl) rfl (by kernel_rfl) hs0 (v := ?_) ?_ ?_
          rotate_left
          · (rintro x hx; have k0 := hx.cell c0; have k1 := hx.cell c1; clear hx; go_simp; try rfl)
          simp only [Act.put, List.setIfInBounds_toArray, List.set_cons_zero, List.set_cons_succ]
          refine hl_take_np 9 (by kernel_rfl) (by kernel_rfl) rfl (by kernel_rfl) hs0 (v := ?_) ?_ ?_
          rotate_left
          · (rintro x hx; have k0 := hx.cell c0; have k1 := hx.cell c1; clear hx; go_simp; try rfl)
          simp only [Act.put, List.setIfInBounds_toArray, List.set_cons_zero, List.set_cons_succ]
          refine hl_take_np 10 (by kernel_rfl) (by kernel_rfl) rfl (by kernel_rfl) hs0 (v := ?_) ?_ ?_
          rotate_left
          · (rintro x hx; have k0 := hx.cell c0; have k1 := hx.cell c1; clear hx; go_simp; try rfl)
          simp only [Act.put, List.setIfInBounds_toArray, List.set_cons_zero, List.set_cons_succ]
          refine hl_take_np 11 (by kernel_rfl) (by kernel_rfl) rfl (by kernel_rfl) hs0 (v := ?_) ?_ ?_
          rotate_left
          · (rintro x hx; have k0 := hx.cell c0; have k1 := hx.cell c1; clear hx; go_simp; try rfl)
          simp only [Act.put, List.setIfInBounds_toArray, List.set_cons_zero, List.set_cons_succ]
          refine hl_take_np 12 (by kernel_rfl) (by kernel_rfl) rfl (by kernel_rfl) hs0 (v := ?_) ?_ ?_
          rotate_left
          · (rintro x hx; have k0 := hx.cell c0; have k1 := hx.cell c1; clear hx; go_simp; try rfl)
          simp only [Act.put, List.setIfInBounds_toArray, List.set_cons_zero, List.set_cons_succ]
          refine hl_take_np 13 (by kernel_rfl) (by kernel_rfl) rfl (by kernel_rfl) hs0 (v := ?_) ?_ ?_
          rotate_left
          · (rintro x hx; have k0 := hx.cell c0; have k1 := hx.cell c1; clear hx; go_simp; try rfl)
          simp only [Act.put, List.setIfInBounds_toArray, List.set_cons_zero, List.set_cons_succ]
          refine hl_take_np 14 (by kernel_rfl) (by kernel_rfl) rfl (by kernel_rfl) hs0 (v := ?_) ?_ ?_
          rotate_left
          · (rintro x hx; have k0 := hx.cell c0; have k1 := hx.cell c1; clear hx; go_simp; try rfl)
          simp only [Act.put, List.setIfInBounds_toArray, List.set_cons_zero, List.set_cons_succ]
          refine hl_skip_np 15 (by kernel_rfl) (by kernel_rfl) rfl (by kernel_rfl) hs0 ?_
          simp only [Act.put, List.setIfInBounds_toArray, List.set_cons_zero, List.set_cons_succ]
          refine hl_skip_np 16 (by kernel_rfl) (by kernel_rfl) rfl (by kernel_rfl) hs0 ?_
          simp only [Act.put, List.setIfInBounds_toArray, List.set_cons_zero, List.set_cons_succ]
          refine hl_skip_np 17 (by kernel_rfl) (by kernel_rfl) rfl (by kernel_rfl) hs0 ?_
          simp only [Act.put, List.setIfInBounds_toArray, List.set_cons_zero, List.set_cons_succ]
          refine hl_skip_np 18 (by kernel_rfl) (by kernel_rfl) rfl (by kernel_rfl) hs0 ?_
          simp only [Act.put, List.setIfInBounds_toArray, List.set_cons_zero, List.set_cons_succ]
          refine hl_skip_np 19 (by kernel_rfl) (by kernel_rfl) rfl (by kernel_rfl) hs0 ?_
          simp only [Act.put, List.setIfInBounds_toArray, List.set_cons_zero, List.set_cons_succ]
          refine hl_skip_np 20 (by kernel_rfl) (by kernel_rfl) rfl (by kernel_rfl) hs0 ?_
          simp only [Act.put, List.setIfInBounds_toArray, List.set_cons_zero, List.set_cons_succ]
          refine hl_take_np 21 (by kernel_rfl) (by kernel_rfl) rfl (by kernel_rfl) hs0 (v := ?_) ?_ ?_
          rotate_left
          · (rintro x hx; have k0 := hx.cell c0; have k1 := hx.cell c1; clear hx; go_simp; try rfl)
          simp only [Act.put, List.setIfInBounds_toArray, List.set_cons_zero, List.set_cons_succ]
          refine hl_take_np 22 (by kernel_rfl) (by kernel_rfl) rfl (by kernel_rfl) hs0 (v := ?_) ?_ ?_
          rotate_left
          · (rintro x hx; have k0 := hx.cell c0; have k1 := hx.cell c1; clear hx; go_simp; try rfl)
          simp only [Act.put, List.setIfInBounds_toArray, List.set_cons_zero, List.set_cons_succ]
          refine hl_skip_np 23 (by kernel_rfl) (by kernel_rfl) rfl (by kernel_rfl) hs0 ?_
          simp only [Act.put, List.setIfInBounds_toArray, List.set_cons_zero, List.set_cons_succ]
          refine hl_skip_np 24 (by kernel_rfl) (by kernel_rfl) rfl (by kernel_rfl) hs0 ?_
          simp only [Act.put, List.setIfInBounds_toArray, List.set_cons_zero, List.set_cons_succ]
          refine hl_skip_np 25 (by kernel_rfl) (by kernel_rfl) rfl (by kernel_rfl) hs0 ?_
          simp only [Act.put, List.setIfInBounds_toArray, List.set_cons_zero, List.set_cons_succ]
          refine hl_skip_np 26 (by kernel_rfl) (by kernel_rfl) rfl (by kernel_rfl) hs0 ?_
          simp only [Act.put, List.setIfInBounds_toArray, List.set_cons_zero, List.set_cons_succ]
          refine hl_skip_np 27 (by kernel_rfl) (by kernel_rfl) rfl (by kernel_rfl) hs0 ?_
          simp only [Act.put, List.setIfInBounds_toArray, List.set_cons_zero, List.set_cons_succ]
          refine hl_skip_np 28 (by kernel_rfl) (by kernel_rfl) rfl (by kernel_rfl) hs0 ?_
          simp only [Act.put, List.setIfInBounds_toArray, List.set_cons_zero, List.set_cons_succ]
          refine hl_skip_np 29 (by kernel_rfl) (by kernel_rfl) rfl (by kernel_rfl) hs0 ?_
          simp only [Act.put, List.setIfInBounds_toArray, List.set_cons_zero, List.set_cons_succ]
          refine hl_skip_np 30 (by kernel_rfl) (by kernel_rfl) rfl (by kernel_rfl) hs0 ?_
          simp only [Act.put, List.setIfInBounds_toArray, List.set_cons_zero, List.set_cons_succ]
          refine hl_skip_np 31 (by kernel_rfl) (by kernel_rfl) rfl (by kernel_rfl) hs0 ?_
          simp only [Act.put, List.setIfInBounds_toArray, List.set_cons_zero, List.set_cons_succ]
          refine hl_skip_np 32 (by kernel_rfl) (by kernel_rfl) rfl (by kernel_rfl) hs0 ?_
          simp only [Act.put, List.setIfInBounds_toArray, List.set_cons_zero, List.set_cons_succ]
          refine hl_skip_np 33 (by kernel_rfl) (by kernel_rfl) rfl (by kernel_rfl) hs0 ?_
          simp only [Act.put, List.setIfInBounds_toArray, List.set_cons_zero, List.set_cons_succ]
          refine hl_skip_np 34 (by kernel_rfl) (by kernel_rfl) rfl (by kernel_rfl) hs0 ?_
          simp only [Act.put, List.setIfInBounds_toArray, List.set_cons_zero, List.set_cons_succ]
          refine hl_skip_np 35 (by kernel_rfl) (by kernel_rfl) rfl (by kernel_rfl) hs0 ?_
          simp only [Act.put, List.setIfInBounds_toArray, List.set_cons_zero, List.set_cons_succ]
          refine hl_skip_np 36 (by kernel_rfl) (by kernel_rfl) rfl (by kernel_rfl) hs0 ?_
          simp only [Act.put, List.setIfInBounds_toArray, List.set_cons_zero, List.set_cons_succ]
          refine hl_skip_np 37 (by kernel_rfl) (by kernel_rfl) rfl (by kernel_rfl) hs0 ?_
          simp only [Act.put, List.setIfInBounds_toArray, List.set_cons_zero, List.set_cons_succ]
          refine hl_skip_np 38 (by kernel_rfl) (by kernel_rfl) rfl (by kernel_rfl) hs0 ?_
          simp only [Act.put, List.setIfInBounds_toArray, List.set_cons_zero, List.set_cons_succ]
          refine hl_take_np 39 (by kernel_rfl) (by kernel_rfl) rfl (by kernel_rfl) hs0 (v := ?_) ?_ ?_
          rotate_left
          · (rintro x hx; have k0 := hx.cell c0; have k1 := hx.cell c1; clear hx; go_simp; try rfl)
          simp only [Act.put, List.setIfInBounds_toArray, List.set_cons_zero, List.set_cons_succ]
          refine hl_done (by kernel_rfl) ?_ _
          refine NoPanic.normal ?_
          go_wp2_with fail
          go_ret
          exact ⟨by rw [HF.out]; rfl, HG.out.trans hs0⟩
        · by_cases h3 : 1048576 < s
          · have HF : Hid (rightL l = false) := Lib.hid (by rw [HD.out]; exact right_may (by unfold mayB; rw [show decide ((q, s).2 ≤ 1048576) = false by simp; omega]; simp))
            go_upto_region 4 with fail
            refine region_hl (fun w' => G wr w') 99 40 (by kernel_rfl) rfl ?_
            simp only [List.replicate_succ, List.replicate_zero]
            have hs0 : (fun w' => G wr w') wr.drew := (G.refl wr).drew
            refine hl_take_np 0 (by kernel_rfl) (by kernel_rfl) rfl (by kernel_rfl) hs0 (v := ?_) ?_ ?_
            rotate_left
            · (rintro x hx; have k0 := hx.cell c0; have k1 := hx.cell c1; clear hx; go_simp; try rfl)
            simp only [Act.put, List.setIfInBounds_toArray, List.set_cons_zero, List.set_cons_succ]
            refine hl_take_np 1 (by kernel_rfl) (by kernel_rfl) rfl (by kernel_rfl) hs0 (v := ?_) ?_ ?_
            rotate_left
            · (rintro x hx; have k0 := hx.cell c0; have k1 := hx.cell c1; clear hx; go_simp; try rfl)
            simp only [Act.put, List.setIfInBounds_toArray, List.set_cons_zero, List.set_cons_succ]
            refine hl_take_np 2 (by kernel_rfl) (by kernel_rfl) rfl (by kernel_rfl) hs0 (v := ?_) ?_ ?_
            rotate_left
            · (rintro x hx; have k0 := hx.cell c0; have k1 := hx.cell c1; clear hx; go_simp; try rfl)
            simp only [Act.put, List.setIfInBounds_toArray, List.set_cons_zero, List.set_cons_succ]
            refine hl_take_np 3 (by kernel_rfl) (by kernel_rfl) rfl (by kernel_rfl) hs0 (v := ?_) ?_ ?_
            rotate_left
            · (rintro x hx; have k0 := hx.cell c0; have k1 := hx.cell c1; clear hx; go_simp; try rfl)
            simp only [Act.put, List.setIfInBounds_toArray, List.set_cons_zero, List.set_cons_succ]
            refine hl_take_np 4 (by kernel_rfl) (by kernel_rfl) rfl (by kernel_rfl) hs0 (v := ?_) ?_ ?_
            rotate_left
            · (rintro x hx; have k0 := hx.cell c0; have k1 := hx.cell c1; clear hx; go_simp; try rfl)
            simp only [Act.put, List.setIfInBounds_toArray, List.set_cons_zero, List.set_cons_succ]
            refine hl_take_np 5 (by kernel_rfl) (by kernel_rfl) rfl (by kernel_rfl) hs0 (v := ?_) ?_ ?_
            rotate_left
            · (rintro x hx; have k0 := hx.cell c0; have k1 := hx.cell c1; clear hx; go_simp; try rfl)
            simp only [Act.put, List.setIfInBounds_toArray, List.set_cons_zero, List.set_cons_succ]
            refine hl_take_np 6 (by kernel_rfl) (by kernel_rfl) rfl (by kernel_rfl) hs0 (v := ?_) ?_ ?_
            rotate_left
            · (rintro x hx; have k0 := hx.cell c0; have k1 := hx.cell c1; clear hx; go_simp; try rfl)
            simp only [Act.put, List.setIfInBounds_toArray, List.set_cons_zero, List.set_cons_succ]
            refine hl_take_np 7 (by kernel_rfl) (by kernel_rfl) rfl (by kernel_rfl) hs0 (v := ?_) ?_ ?_
            rotate_left
            · (rintro x hx; have k0 := hx.cell c0; have k1 := hx.cell c1; clear hx; go_simp; try rfl)
            simp only [Act.put, List.setIfInBounds_toArray, List.set_cons_zero, List.set_cons_succ]
            refine hl_take_np 8 (by kernel_rfl) (by kernel_rfl) rfl (by kernel_rfl) hs0 (v := ?_) ?_ ?_
            rotate_left
            · (rintro x hx; have k0 := hx.cell c0; have k1 := hx.cell c1; clear hx; go_simp; try rfl)
            simp only [Act.put, List.setIfInBounds_toArray, List.set_cons_zero, List.set_cons_succ]
            refine hl_take_np 9 (by kernel_rfl) (by kernel_rfl) rfl (by kernel_rfl) hs0 (v := ?_) ?_ ?_
            rotate_left
            · (rintro x hx; have k0 := hx.cell c0; have k1 := hx.cell c1; clear hx; go_simp; try rfl)
            simp only [Act.put, List.setIfInBounds_toArray, List.set_cons_zero, List.set_cons_succ]
            refine hl_take_np 10 (by kernel_rfl) (by kernel_rfl) rfl (by kernel_rfl) hs0 (v := ?_) ?_ ?_
            rotate_left
            · (rintro x hx; have k0 := hx.cell c0; have k1 := hx.cell c1; clear hx; go_simp; try rfl)
            simp only [Act.put, List.setIfInBounds_toArray, List.set_cons_zero, List.set_cons_succ]
            refine hl_take_np 11 (by kernel_rfl) (by kernel_rfl) rfl (by kernel_rfl) hs0 (v := ?_) ?_ ?_
            rotate_left
            · (rintro x hx; have k0 := hx.cell c0; have k1 := hx.cell c1; clear hx; go_simp; try rfl)
            simp only [Act.put, List.setIfInBounds_toArray, List.set_cons_zero, List.set_cons_succ]
            refine hl_take_np 12 (by kernel_rfl) (by kernel_rfl) rfl (by kernel_rfl) hs0 (v := ?_) ?_ ?_
            rotate_left
            · (rintro x hx; have k0 := hx.cell c0; have k1 := hx.cell c1; clear hx; go_simp; try rfl)
            simp only [Act.put, List.setIfInBounds_toArray, List.set_cons_zero, List.set_cons_succ]
            refine hl_take_np 13 (by kernel_rfl) (by kernel_rfl) rfl (by kernel_rfl) hs0 (v := ?_) ?_ ?_
            rotate_left
            · (rintro x hx; have k0 := hx.cell c0; have k1 := hx.cell c1; clear hx; go_simp; try rfl)
            simp only [Act.put, List.setIfInBounds_toArray, List.set_cons_zero, List.set_cons_succ]
            refine hl_take_np 14 (by kernel_rfl) (by kernel_rfl) rfl (by kernel_rfl) hs0 (v := ?_) ?_ ?_
            rotate_left
            · (rintro x hx; have k0 := hx.cell c0; have k1 := hx.cell c1; clear hx; go_simp; try rfl)
            simp only [Act.put, List.setIfInBounds_toArray, List.set_cons_zero, List.set_cons_succ]
            refine hl_take_np 15 (by kernel_rfl) (by kernel_rfl) rfl (by kernel_rfl) hs0 (v := ?_) ?_ ?_
            rotate_left
            · (rintro x hx; have k0 := hx.cell c0; have k1 := hx.cell c1; clear hx; go_simp; try rfl)
            simp only [Act.put, List.setIfInBounds_toArray, List.set_cons_zero, List.set_cons_succ]
            refine hl_take_np 16 (by kernel_rfl) (by kernel_rfl) rfl (by kernel_rfl) hs0 (v := ?_) ?_ ?_
            rotate_left
            · (rintro x hx; have k0 := hx.cell c0; have k1 := hx.cell c1; clear hx; go_simp; try rfl)
            simp only [Act.put, List.setIfInBounds_toArray, List.set_cons_zero, List.set_cons_succ]
            refine hl_take_np 17 (by kernel_rfl) (by kernel_rfl) rfl (by kernel_rfl) hs0 (v := ?_) ?_ ?_
            rotate_left
            · (rintro x hx; have k0 := hx.cell c0; have k1 := hx.cell c1; clear hx; go_simp; try rfl)
            simp only [Act.put, List.setIfInBounds_toArray, List.set_cons_zero, List.set_cons_succ]
            refine hl_take_np 18 (by kernel_rfl) (by kernel_rfl) rfl (by kernel_rfl) hs0 (v := ?_) ?_ ?_
            rotate_left
            · (rintro x hx; have k0 := hx.cell c0; have k1 := hx.cell c1; clear hx; go_simp; try rfl)
            simp only [Act.put, List.setIfInBounds_toArray, List.set_cons_zero, List.set_cons_succ]
            refine hl_take_np 19 (by kernel_rfl) (by kernel_rfl) rfl (by kernel_rfl) hs0 (v := ?_) ?_ ?_
            rotate_left
            · (rintro x hx; have k0 := hx.cell c0; have k1 := hx.cell c1; clear hx; go_simp; try rfl)
            simp only [Act.put, List.setIfInBounds_toArray, List.set_cons_zero, List.set_cons_succ]
            refine hl_take_np 20 (by kernel_rfl) (by kernel_rfl) rfl (by kernel_rfl) hs0 (v := ?_) ?_ ?_
            rotate_left
            · (rintro x hx; have k0 := hx.cell c0; have k1 := hx.cell c1; clear hx; go_simp; try rfl)
            simp only [Act.put, List.setIfInBounds_toArray, List.set_cons_zero, List.set_cons_succ]
            refine hl_take_np 21 (by kernel_rfl) (by kernel_rfl) rfl (by kernel_rfl) hs0 (v := ?_) ?_ ?_
            rotate_left
            · (rintro x hx; have k0 := hx.cell c0; have k1 := hx.cell c1; clear hx; go_simp; try rfl)
            simp only [Act.put, List.setIfInBounds_toArray, List.set_cons_zero, List.set_cons_succ]
            refine hl_take_np 22 (by kernel_rfl) (by kernel_rfl) rfl (by kernel_rfl) hs0 (v := ?_) ?_ ?_
            rotate_left
            · (rintro x hx; have k0 := hx.cell c0; have k1 := hx.cell c1; clear hx; go_simp; try rfl)
            simp only [Act.put, List.setIfInBounds_toArray, List.set_cons_zero, List.set_cons_succ]
            refine hl_skip_np 23 (by kernel_rfl) (by kernel_rfl) rfl (by kernel_rfl) hs0 ?_
            simp only [Act.put, List.setIfInBounds_toArray, List.set_cons_zero, List.set_cons_succ]
            refine hl_skip_np 24 (by kernel_rfl) (by kernel_rfl) rfl (by kernel_rfl) hs0 ?_
            simp only [Act.put, List.setIfInBounds_toArray, List.set_cons_zero, List.set_cons_succ]
            refine hl_skip_np 25 (by kernel_rfl) (by kernel_rfl) rfl (by kernel_rfl) hs0 ?_
            simp only [Act.put, List.setIfInBounds_toArray, List.set_cons_zero, List.set_cons_succ]
            refine hl_skip_np 26 (by kernel_rfl) (by kernel_rfl) rfl (by kernel_rfl) hs0 ?_
            simp only [Act.put, List.setIfInBounds_toArray, List.set_cons_zero, List.set_cons_succ]
            refine hl_skip_np 27 (by kernel_rfl) (by kernel_rfl) rfl (by kernel_rfl) hs0 ?_
            simp only [Act.put, List.setIfInBounds_toArray, List.set_cons_zero, List.set_cons_succ]
            refine hl_skip_np 28 (by kernel_rfl) (by kernel_rfl) rfl (by kernel_rfl) hs0 ?_
            simp only [Act.put, List.setIfInBounds_toArray, List.set_cons_zero, List.set_cons_succ]
            refine hl_skip_np 29 (by kernel_rfl) (by kernel_rfl) rfl (by kernel_rfl) hs0 ?_
            simp only [Act.put, List.setIfInBounds_toArray, List.set_cons_zero, List.set_cons_succ]
            refine hl_skip_np 30 (by kernel_rfl) (by kernel_rfl) rfl (by kernel_rfl) hs0 ?_
            simp only [Act.put, List.setIfInBounds_toArray, List.set_cons_zero, List.set_cons_succ]
            refine hl_skip_np 31 (by kernel_rfl) (by kernel_rfl) rfl (by kernel_rfl) hs0 ?_
            simp only [Act.put, List.setIfInBounds_toArray, List.set_cons_zero, List.set_cons_succ]
            refine hl_skip_np 32 (by kernel_rfl) (by kernel_rfl) rfl (by kernel_rfl) hs0 ?_
            simp only [Act.put, List.setIfInBounds_toArray, List.set_cons_zero, List.set_cons_succ]
            refine hl_skip_np 33 (by kernel_rfl) (by kernel_rfl) rfl (by kernel_rfl) hs0 ?_
            simp only [Act.put, List.setIfInBounds_toArray, List.set_cons_zero, List.set_cons_succ]
            refine hl_skip_np 34 (by kernel_rfl) (by kernel_rfl) rfl (by kernel_rfl) hs0 ?_
            simp only [Act.put, List.setIfInBounds_toArray, List.set_cons_zero, List.set_cons_succ]
            refine hl_skip_np 35 (by kernel_rfl) (by kernel_rfl) rfl (by kernel_rfl) hs0 ?_
            simp only [Act.put, List.setIfInBounds_toArray, List.set_cons_zero, List.set_cons_succ]
            refine hl_skip_np 36 (by kernel_rfl) (by kernel_rfl) rfl (by kernel_rfl) hs0 ?_
            simp only [Act.put, List.setIfInBounds_toArray, List.set_cons_zero, List.set_cons_succ]
            refine hl_skip_np 37 (by kernel_rfl) (by kernel_rfl) rfl (by kernel_rfl) hs0 ?_
            simp only [Act.put, List.setIfInBounds_toArray, List.set_cons_zero, List.set_cons_succ]
            refine hl_skip_np 38 (by kernel_rfl) (by kernel_rfl) rfl (by kernel_rfl) hs0 ?_
            simp only [Act.put, List.setIfInBounds_toArray, List.set_cons_zero, List.set_cons_succ]
            refine hl_take_np 39 (by kernel_rfl) (by kernel_rfl) rfl (by kernel_rfl) hs0 (v := ?_) ?_ ?_
            rotate_left
            · (rintro x hx; have k0 := hx.cell c0; have k1 := hx.cell c1; clear hx; go_simp; try rfl)
            simp only [Act.put, List.setIfInBounds_toArray, List.set_cons_zero, List.set_cons_succ]
            refine hl_done (by kernel_rfl) ?_ _
            refine NoPanic.normal ?_
            go_wp2_with fail
            go_ret
            exact ⟨by rw [HF.out]; rfl, HG.out.trans hs0⟩
          · have HGO : Hid (z < q → rightL l = rightA q (l.drop (k + 1))) := Lib.hid (fun h => by
              rw [HD.out, right_cons, show mayB z (q, s) = true by unfold mayB; simp; omega]; rfl)
            have HLAST : Hid (0 < k + 1 → ∃ s', l[k + 1 - 1]? = some (q, s')) := Lib.hid (fun _ => ⟨s, HX.out⟩)
            by_cases h4 : k = 0
            · have hzz := hz h4
              have HN : Hid (rightL l = rightA q (l.drop (k + 1))) := Lib.hid (HGO.out (by omega))
              have h4n : ¬ 0 < k := by omega
              have h4i : ¬ (0 : Int) < (k : Int) := by omega
              have h4d : decide ((0 : Int) < (k : Int)) = false := by simpa using h4
              clear h4 hzz hz
              go_upto_region 4 with fail
              refine region_hl (fun w' => G wr w') 99 40 (by kernel_rfl) rfl ?_
              simp only [List.replicate_succ, List.replicate_zero]
              have hs0 : (fun w' => G wr w') wr.drew := (G.refl wr).drew
              refine hl_take_np 0 (by kernel_rfl) (by kernel_rfl) rfl (by kernel_rfl) hs0 (v := ?_) ?_ ?_
              rotate_left
              · (rintro x hx; have k0 := hx.cell c0; have k1 := hx.cell c1; clear hx; go_simp; try rfl)
              simp only [Act.put, List.setIfInBounds_toArray, List.set_cons_zero, List.set_cons_succ]
              refine hl_take_np 1 (by kernel_rfl) (by kernel_rfl) rfl (by kernel_rfl) hs0 (v := ?_) ?_ ?_
              rotate_left
              · (rintro x hx; have k0 := hx.cell c0; have k1 := hx.cell c1; clear hx; go_simp; try rfl)
              simp only [Act.put, List.setIfInBounds_toArray, List.set_cons_zero, List.set_cons_succ]
              refine hl_take_np 2 (by kernel_rfl) (by kernel_rfl) rfl (by kernel_rfl) hs0 (v := ?_) ?_ ?_
              rotate_left
              · (rintro x hx; have k0 := hx.cell c0; have k1 := hx.cell c1; clear hx; go_simp; try rfl)
              simp only [Act.put, List.setIfInBounds_toArray, List.set_cons_zero, List.set_cons_succ]
              refine hl_take_np 3 (by kernel_rfl) (by kernel_rfl) rfl (by kernel_rfl) hs0 (v := ?_) ?_ ?_
              rotate_left
              · (rintro x hx; have k0 := hx.cell c0; have k1 := hx.cell c1; clear hx; go_simp; try rfl)
              simp only [Act.put, List.setIfInBounds_toArray, List.set_cons_zero, List.set_cons_succ]
              refine hl_take_np 4 (by kernel_rfl) (by kernel_rfl) rfl (by kernel_rfl) hs0 (v := ?_) ?_ ?_
              rotate_left
              · (rintro x hx; have k0 := hx.cell c0; have k1 := hx.cell c1; clear hx; go_simp; try rfl)
              simp only [Act.put, List.setIfInBounds_toArray, List.set_cons_zero, List.set_cons_succ]
              refine hl_take_np 5 (by kernel_rfl) (by kernel_rfl) rfl (by kernel_rfl) hs0 (v := ?_) ?_ ?_
              rotate_left
              · (rintro x hx; have k0 := hx.cell c0; have k1 := hx.cell c1; clear hx; go_simp; try rfl)
              simp only [Act.put, List.setIfInBounds_toArray, List.set_cons_zero, List.set_cons_succ]
              refine hl_take_np 6 (by kernel_rfl) (by kernel_rfl) rfl (by kernel_rfl) hs0 (v := ?_) ?_ ?_
              rotate_left
              · (rintro x hx; have k0 := hx.cell c0; have k1 := hx.cell c1; clear hx; go_simp; try rfl)
              simp only [Act.put, List.setIfInBounds_toArray, List.set_cons_zero, List.set_cons_succ]
              refine hl_take_np 7 (by kernel_rfl) (by kernel_rfl) rfl (by kernel_rfl) hs0 (v := ?_) ?_ ?_
              rotate_left
              · (rintro x hx; have k0 := hx.cell c0; have k1 := hx.cell c1; clear hx; go_simp; try rfl)
              simp only [Act.put, List.setIfInBounds_toArray, List.set_cons_zero, List.set_cons_succ]
              refine hl_take_np 8 (by kernel_rfl) (by kernel_rfl) rfl (by kernel_rfl) hs0 (v := ?_) ?_ ?_
              rotate_left
              · (rintro x hx; have k0 := hx.cell c0; have k1 := hx.cell c1; clear hx; go_simp; try rfl)
              simp only [Act.put, List.setIfInBounds_toArray, List.set_cons_zero, List.set_cons_succ]
              refine hl_take_np 9 (by kernel_rfl) (by kernel_rfl) rfl (by kernel_rfl) hs0 (v := ?_) ?_ ?_
              rotate_left
              · (rintro x hx; have k0 := hx.cell c0; have k1 := hx.cell c1; clear hx; go_simp; try rfl)
              simp only [Act.put, List.setIfInBounds_toArray, List.set_cons_zero, List.set_cons_succ]
              refine hl_take_np 10 (by kernel_rfl) (by kernel_rfl) rfl (by kernel_rfl) hs0 (v := ?_) ?_ ?_
              rotate_left
              · (rintro x hx; have k0 := hx.cell c0; have k1 := hx.cell c1; clear hx; go_simp; try rfl)
              simp only [Act.put, List.setIfInBounds_toArray, List.set_cons_zero, List.set_cons_succ]
              refine hl_take_np 11 (by kernel_rfl) (by kernel_rfl) rfl (by kernel_rfl) hs0 (v := ?_) ?_ ?_
              rotate_left
              · (rintro x hx; have k0 := hx.cell c0; have k1 := hx.cell c1; clear hx; go_simp; try rfl)
              simp only [Act.put, List.setIfInBounds_toArray, List.set_cons_zero, List.set_cons_succ]
              refine hl_take_np 12 (by kernel_rfl) (by kernel_rfl) rfl (by kernel_rfl) hs0 (v := ?_) ?_ ?_
              rotate_left
              · (rintro x hx; have k0 := hx.cell c0; have k1 := hx.cell c1; clear hx; go_simp; try rfl)
              simp only [Act.put, List.setIfInBounds_toArray, List.set_cons_zero, List.set_cons_succ]
              refine hl_take_np 13 (by kernel_rfl) (by kernel_rfl) rfl (by kernel_rfl) hs0 (v := ?_) ?_ ?_
              rotate_left
              · (rintro x hx; have k0 := hx.cell c0; have k1 := hx.cell c1; clear hx; go_simp; try rfl)
              simp only [Act.put, List.setIfInBounds_toArray, List.set_cons_zero, List.set_cons_succ]
              refine hl_take_np 14 (by kernel_rfl) (by kernel_rfl) rfl (by kernel_rfl) hs0 (v := ?_) ?_ ?_
              rotate_left
              · (rintro x hx; have k0 := hx.cell c0; have k1 := hx.cell c1; clear hx; go_simp; try rfl)
              simp only [Act.put, List.setIfInBounds_toArray, List.set_cons_zero, List.set_cons_succ]
              refine hl_take_np 15 (by kernel_rfl) (by kernel_rfl) rfl (by kernel_rfl) hs0 (v := ?_) ?_ ?_
              rotate_left
              · (rintro x hx; have k0 := hx.cell c0; have k1 := hx.cell c1; clear hx; go_simp; try rfl)
              simp only [Act.put, List.setIfInBounds_toArray, List.set_cons_zero, List.set_cons_succ]
              refine hl_take_np 16 (by kernel_rfl) (by kernel_rfl) rfl (by kernel_rfl) hs0 (v := ?_) ?_ ?_
              rotate_left
              · (rintro x hx; have k0 := hx.cell c0; have k1 := hx.cell c1; clear hx; go_simp; try rfl)
              simp only [Act.put, List.setIfInBounds_toArray, List.set_cons_zero, List.set_cons_succ]
              refine hl_take_np 17 (by kernel_rfl) (by kernel_rfl) rfl (by kernel_rfl) hs0 (v := ?_) ?_ ?_
              rotate_left
              · (rintro x hx; have k0 := hx.cell c0; have k1 := hx.cell c1; clear hx; go_simp; try rfl)
              simp only [Act.put, List.setIfInBounds_toArray, List.set_cons_zero, List.set_cons_succ]
              refine hl_take_np 18 (by kernel_rfl) (by kernel_rfl) rfl (by kernel_rfl) hs0 (v := ?_) ?_ ?_
              rotate_left
              · (rintro x hx; have k0 := hx.cell c0; have k1 := hx.cell c1; clear hx; go_simp; try rfl)
              simp only [Act.put, List.setIfInBounds_toArray, List.set_cons_zero, List.set_cons_succ]
              refine hl_take_np 19 (by kernel_rfl) (by kernel_rfl) rfl (by kernel_rfl) hs0 (v := ?_) ?_ ?_
              rotate_left
              · (rintro x hx; have k0 := hx.cell c0; have k1 := hx.cell c1; clear hx; go_simp; try rfl)
              simp only [Act.put, List.setIfInBounds_toArray, List.set_cons_zero, List.set_cons_succ]
              refine hl_take_np 20 (by kernel_rfl) (by kernel_rfl) rfl (by kernel_rfl) hs0 (v := ?_) ?_ ?_
              rotate_left
              · (rintro x hx; have k0 := hx.cell c0; have k1 := hx.cell c1; clear hx; go_simp; try rfl)
              simp only [Act.put, List.setIfInBounds_toArray, List.set_cons_zero, List.set_cons_succ]
              refine hl_take_np 21 (by kernel_rfl) (by kernel_rfl) rfl (by kernel_rfl) hs0 (v := ?_) ?_ ?_
              rotate_left
              · (rintro x hx; have k0 := hx.cell c0; have k1 := hx.cell c1; clear hx; go_simp; try rfl)
              simp only [Act.put, List.setIfInBounds_toArray, List.set_cons_zero, List.set_cons_succ]
              refine hl_take_np 22 (by kernel_rfl) (by kernel_rfl) rfl (by kernel_rfl) hs0 (v := ?_) ?_ ?_
              rotate_left
              · (rintro x hx; have k0 := hx.cell c0; have k1 := hx.cell c1; clear hx; go_simp; try rfl)
              simp only [Act.put, List.setIfInBounds_toArray, List.set_cons_zero, List.set_cons_succ]
              refine hl_take_np 23 (by kernel_rfl) (by kernel_rfl) rfl (by kernel_rfl) hs0 (v := ?_) ?_ ?_
              rotate_left
              · (rintro x hx; have k0 := hx.cell c0; have k1 := hx.cell c1; clear hx; go_simp; try rfl)
              simp only [Act.put, List.setIfInBounds_toArray, List.set_cons_zero, List.set_cons_succ]
              refine hl_take_np 24 (by kernel_rfl) (by kernel_rfl) rfl (by kernel_rfl) hs0 (v := ?_) ?_ ?_
              rotate_left
              · (rintro x hx; have k0 := hx.cell c0; have k1 := hx.cell c1; clear hx; go_simp; try rfl)
              simp only [Act.put, List.setIfInBounds_toArray, List.set_cons_zero, List.set_cons_succ]
              refine hl_take_np 25 (by kernel_rfl) (by kernel_rfl) rfl (by kernel_rfl) hs0 (v := ?_) ?_ ?_
              rotate_left
              · (rintro x hx; have k0 := hx.cell c0; have k1 := hx.cell c1; clear hx; go_simp; try rfl)
              simp only [Act.put, List.setIfInBounds_toArray, List.set_cons_zero, List.set_cons_succ]
              refine hl_skip_np 26 (by kernel_rfl) (by kernel_rfl) rfl (by kernel_rfl) hs0 ?_
              simp only [Act.put, List.setIfInBounds_toArray, List.set_cons_zero, List.set_cons_succ]
              refine hl_skip_np 27 (by kernel_rfl) (by kernel_rfl) rfl (by kernel_rfl) hs0 ?_
              simp only [Act.put, List.setIfInBounds_toArray, List.set_cons_zero, List.set_cons_succ]
              refine hl_skip_np 28 (by kernel_rfl) (by kernel_rfl) rfl (by kernel_rfl) hs0 ?_
              simp only [Act.put, List.setIfInBounds_toArray, List.set_cons_zero, List.set_cons_succ]
              refine hl_skip_np 29 (by kernel_rfl) (by kernel_rfl) rfl (by kernel_rfl) hs0 ?_
              simp only [Act.put, List.setIfInBounds_toArray, List.set_cons_zero, List.set_cons_succ]
              refine hl_skip_np 30 (by kernel_rfl) (by kernel_rfl) rfl (by kernel_rfl) hs0 ?_
              simp only [Act.put, List.setIfInBounds_toArray, List.set_cons_zero, List.set_cons_succ]
              refine hl_skip_np 31 (by kernel_rfl) (by kernel_rfl) rfl (by kernel_rfl) hs0 ?_
              simp only [Act.put, List.setIfInBounds_toArray, List.set_cons_zero, List.set_cons_succ]
              refine hl_skip_np 32 (by kernel_rfl) (by kernel_rfl) rfl (by kernel_rfl) hs0 ?_
              simp only [Act.put, List.setIfInBounds_toArray, List.set_cons_zero, List.set_cons_succ]
              refine hl_skip_np 33 (by kernel_rfl) (by kernel_rfl) rfl (by kernel_rfl) hs0 ?_
              simp only [Act.put, List.setIfInBounds_toArray, List.set_cons_zero, List.set_cons_succ]
              refine hl_skip_np 34 (by kernel_rfl) (by kernel_rfl) rfl (by kernel_rfl) hs0 ?_
              simp only [Act.put, List.setIfInBounds_toArray, List.set_cons_zero, List.set_cons_succ]
              refine hl_skip_np 35 (by kernel_rfl) (by kernel_rfl) rfl (by kernel_rfl) hs0 ?_
              simp only [Act.put, List.setIfInBounds_toArray, List.set_cons_zero, List.set_cons_succ]
              refine hl_skip_np 36 (by kernel_rfl) (by kernel_rfl) rfl (by kernel_rfl) hs0 ?_
              simp only [Act.put, List.setIfInBounds_toArray, List.set_cons_zero, List.set_cons_succ]
              refine hl_skip_np 37 (by kernel_rfl) (by kernel_rfl) rfl (by kernel_rfl) hs0 ?_
              simp only [Act.put, List.setIfInBounds_toArray, List.set_cons_zero, List.set_cons_succ]
              refine hl_take_np 38 (by kernel_rfl) (by kernel_rfl) rfl (by kernel_rfl) hs0 (v := ?_) ?_ ?_
              rotate_left
              · (rintro x hx; have k0 := hx.cell c0; have k1 := hx.cell c1; clear hx; go_simp; try rfl)
              simp only [Act.put, List.setIfInBounds_toArray, List.set_cons_zero, List.set_cons_succ]
              refine hl_take_np 39 (by kernel_rfl) (by kernel_rfl) rfl (by kernel_rfl) hs0 (v := ?_) ?_ ?_
              rotate_left
              · (rintro x hx; have k0 := hx.cell c0; have k1 := hx.cell c1; clear hx; go_simp; try rfl)
              simp only [Act.put, List.setIfInBounds_toArray, List.set_cons_zero, List.set_cons_succ]
              refine hl_done (by kernel_rfl) ?_ _
              refine NoPanic.normal ?_
              have HG2 := Lib.hid (HG.out.trans hs0)
              clear hs0
              go_wp2_with fail
              go_roundw
              case rel => exact ⟨k + 1, q, by omega, by go_num, by omega, HN, HLAST, fun h => by omega, HG2⟩
              case measure => simp [intOf]; omega
            · obtain ⟨j, rfl⟩ : ∃ j, k = j + 1 := ⟨k - 1, by omega⟩
              obtain ⟨s', hx'⟩ := HZ.out (by omega)
              obtain ⟨b', o', q', s'', hx2, he, d0, d1⟩ := RdrS.at (HR.out.g HG.out) HM.out (show j < m by omega)
              cases he
              have hq' : q' = z := by
                rw [show j + 1 - 1 = j by omega, hx2] at hx'
                cases hx'; rfl
              rw [hq'] at d0
              clear hx' hx2 hq'
              have hj0 : (0 : Int) ≤ (j : Int) := by omega
              have hjw : IntKind.i64.wrap (j : Int) = (j : Int) := IntWalk.i64_in _ (by omega)
              have hjm : (j : Int) < (m : Int) := by omega
              by_cases h5 : q ≤ z
              · have HF : Hid (rightL l = false) := Lib.hid (by rw [HD.out]; exact right_may (by unfold mayB; rw [show decide (z < (q, s).1) = false by simp; omega]; rfl))
                go_upto_region 4 with fail
                refine region_hl (fun w' => G wr w') 99 40 (by kernel_rfl) rfl ?_
                simp only [List.replicate_succ, List.replicate_zero]
                have hs0 : (fun w' => G wr w') wr.drew := (G.refl wr).drew
                refine hl_take_np 0 (by kernel_rfl) (by kernel_rfl) rfl (by kernel_rfl) hs0 (v := ?_) ?_ ?_
                rotate_left
                · (rintro x hx; have k0 := hx.cell c0; have k1 := hx.cell c1; have k2 := hx.cell d0; clear hx; go_simp; try rfl)
                simp only [Act.put, List.setIfInBounds_toArray, List.set_cons_zero, List.set_cons_succ]
                refine hl_take_np 1 (by kernel_rfl) (by kernel_rfl) rfl (by kernel_rfl) hs0 (v := ?_) ?_ ?_
                rotate_left
                · (rintro x hx; have k0 := hx.cell c0; have k1 := hx.cell c1; have k2 := hx.cell d0; clear hx; go_simp; try rfl)
                simp only [Act.put, List.setIfInBounds_toArray, List.set_cons_zero, List.set_cons_succ]
                refine hl_take_np 2 (by kernel_rfl) (by kernel_rfl) rfl (by kernel_rfl) hs0 (v := ?_) ?_ ?_
                rotate_left
                · (rintro x hx; have k0 := hx.cell c0; have k1 := hx.cell c1; have k2 := hx.cell d0; clear hx; go_simp; try rfl)
                simp only [Act.put, List.setIfInBounds_toArray, List.set_cons_zero, List.set_cons_succ]
                refine hl_take_np 3 (by kernel_rfl) (by kernel_rfl) rfl (by kernel_rfl) hs0 (v := ?_) ?_ ?_
                rotate_left
                · (rintro x hx; have k0 := hx.cell c0; have k1 := hx.cell c1; have k2 := hx.cell d0; clear hx; go_simp; try rfl)
                simp only [Act.put, List.setIfInBounds_toArray, List.set_cons_zero, List.set_cons_succ]
                refine hl_take_np 4 (by kernel_rfl) (by kernel_rfl) rfl (by kernel_rfl) hs0 (v := ?_) ?_ ?_
                rotate_left
                · (rintro x hx; have k0 := hx.cell c0; have k1 := hx.cell c1; have k2 := hx.cell d0; clear hx; go_simp; try rfl)
                simp only [Act.put, List.setIfInBounds_toArray, List.set_cons_zero, List.set_cons_succ]
                refine hl_take_np 5 (by kernel_rfl) (by kernel_rfl) rfl (by kernel_rfl) hs0 (v := ?_) ?_ ?_
                rotate_left
                · (rintro x hx; have k0 := hx.cell c0; have k1 := hx.cell c1; have k2 := hx.cell d0; clear hx; go_simp; try rfl)
                simp only [Act.put, List.setIfInBounds_toArray, List.set_cons_zero, List.set_cons_succ]
                refine hl_take_np 6 (by kernel_rfl) (by kernel_rfl) rfl (by kernel_rfl) hs0 (v := ?_) ?_ ?_
                rotate_left
                · (rintro x hx; have k0 := hx.cell c0; have k1 := hx.cell c1; have k2 := hx.cell d0; clear hx; go_simp; try rfl)
                simp only [Act.put, List.setIfInBounds_toArray, List.set_cons_zero, List.set_cons_succ]
                refine hl_take_np 7 (by kernel_rfl) (by kernel_rfl) rfl (by kernel_rfl) hs0 (v := ?_) ?_ ?_
                rotate_left
                · (rintro x hx; have k0 := hx.cell c0; have k1 := hx.cell c1; have k2 := hx.cell d0; clear hx; go_simp; try rfl)
                simp only [Act.put, List.setIfInBounds_toArray, List.set_cons_zero, List.set_cons_succ]
                refine hl_take_np 8 (by kernel_rfl) (by kernel_rfl) rfl (by kernel_rfl) hs0 (v := ?_) ?_ ?_
                rotate_left
                · (rintro x hx; have k0 := hx.cell c0; have k1 := hx.cell c1; have k2 := hx.cell d0; clear hx; go_simp; try rfl)
                simp only [Act.put, List.setIfInBounds_toArray, List.set_cons_zero, List.set_cons_succ]
                refine hl_take_np 9 (by kernel_rfl) (by kernel_rfl) rfl (by kernel_rfl) hs0 (v := ?_) ?_ ?_
                rotate_left
                · (rintro x hx; have k0 := hx.cell c0; have k1 := hx.cell c1; have k2 := hx.cell d0; clear hx; go_simp; try rfl)
                simp only [Act.put, List.setIfInBounds_toArray, List.set_cons_zero, List.set_cons_succ]
                refine hl_take_np 10 (by kernel_rfl) (by kernel_rfl) rfl (by kernel_rfl) hs0 (v := ?_) ?_ ?_
                rotate_left
                · (rintro x hx; have k0 := hx.cell c0; have k1 := hx.cell c1; have k2 := hx.cell d0; clear hx; go_simp; try rfl)
                simp only [Act.put, List.setIfInBounds_toArray, List.set_cons_zero, List.set_cons_succ]
                refine hl_take_np 11 (by kernel_rfl) (by kernel_rfl) rfl (by kernel_rfl) hs0 (v := ?_) ?_ ?_
                rotate_left
                · (rintro x hx; have k0 := hx.cell c0; have k1 := hx.cell c1; have k2 := hx.cell d0; clear hx; go_simp; try rfl)
                simp only [Act.put, List.setIfInBounds_toArray, List.set_cons_zero, List.set_cons_succ]
                refine hl_take_np 12 (by kernel_rfl) (by kernel_rfl) rfl (by kernel_rfl) hs0 (v := ?_) ?_ ?_
                rotate_left
                · (rintro x hx; have k0 := hx.cell c0; have k1 := hx.cell c1; have k2 := hx.cell d0; clear hx; go_simp; try rfl)
                simp only [Act.put, List.setIfInBounds_toArray, List.set_cons_zero, List.set_cons_succ]
                refine hl_take_np 13 (by kernel_rfl) (by kernel_rfl) rfl (by kernel_rfl) hs0 (v := ?_) ?_ ?_
                rotate_left
                · (rintro x hx; have k0 := hx.cell c0; have k1 := hx.cell c1; have k2 := hx.cell d0; clear hx; go_simp; try rfl)
                simp only [Act.put, List.setIfInBounds_toArray, List.set_cons_zero, List.set_cons_succ]
                refine hl_take_np 14 (by kernel_rfl) (by kernel_rfl) rfl (by kernel_rfl) hs0 (v := ?_) ?_ ?_
                rotate_left
                · (rintro x hx; have k0 := hx.cell c0; have k1 := hx.cell c1; have k2 := hx.cell d0; clear hx; go_simp; try rfl)
                simp only [Act.put, List.setIfInBounds_toArray, List.set_cons_zero, List.set_cons_succ]
                refine hl_take_np 15 (by kernel_rfl) (by kernel_rfl) rfl (by kernel_rfl) hs0 (v := ?_) ?_ ?_
                rotate_left
                · (rintro x hx; have k0 := hx.cell c0; have k1 := hx.cell c1; have k2 := hx.cell d0; clear hx; go_simp; try rfl)
                simp only [Act.put, List.setIfInBounds_toArray, List.set_cons_zero, List.set_cons_succ]
                refine hl_take_np 16 (by kernel_rfl) (by kernel_rfl) rfl (by kernel_rfl) hs0 (v := ?_) ?_ ?_
                rotate_left
                · (rintro x hx; have k0 := hx.cell c0; have k1 := hx.cell c1; have k2 := hx.cell d0; clear hx; go_simp; try rfl)
                simp only [Act.put, List.setIfInBounds_toArray, List.set_cons_zero, List.set_cons_succ]
                refine hl_take_np 17 (by kernel_rfl) (by kernel_rfl) rfl (by kernel_rfl) hs0 (v := ?_) ?_ ?_
                rotate_left
                · (rintro x hx; have k0 := hx.cell c0; have k1 := hx.cell c1; have k2 := hx.cell d0; clear hx; go_simp; try rfl)
                simp only [Act.put, List.setIfInBounds_toArray, List.set_cons_zero, List.set_cons_succ]
                refine hl_take_np 18 (by kernel_rfl) (by kernel_rfl) rfl (by kernel_rfl) hs0 (v := ?_) ?_ ?_
                rotate_left
                · (rintro x hx; have k0 := hx.cell c0; have k1 := hx.cell c1; have k2 := hx.cell d0; clear hx; go_simp; try rfl)
                simp only [Act.put, List.setIfInBounds_toArray, List.set_cons_zero, List.set_cons_succ]
                refine hl_take_np 19 (by kernel_rfl) (by kernel_rfl) rfl (by kernel_rfl) hs0 (v := ?_) ?_ ?_
                rotate_left
                · (rintro x hx; have k0 := hx.cell c0; have k1 := hx.cell c1; have k2 := hx.cell d0; clear hx; go_simp; try rfl)
                simp only [Act.put, List.setIfInBounds_toArray, List.set_cons_zero, List.set_cons_succ]
                refine hl_take_np 20 (by kernel_rfl) (by kernel_rfl) rfl (by kernel_rfl) hs0 (v := ?_) ?_ ?_
                rotate_left
                · (rintro x hx; have k0 := hx.cell c0; have k1 := hx.cell c1; have k2 := hx.cell d0; clear hx; go_simp; try rfl)
                simp only [Act.put, List.setIfInBounds_toArray, List.set_cons_zero, List.set_cons_succ]
                refine hl_take_np 21 (by kernel_rfl) (by kernel_rfl) rfl (by kernel_rfl) hs0 (v := ?_) ?_ ?_
                rotate_left
                · (rintro x hx; have k0 := hx.cell c0; have k1 := hx.cell c1; have k2 := hx.cell d0; clear hx; go_simp; try rfl)
                simp only [Act.put, List.setIfInBounds_toArray, List.set_cons_zero, List.set_cons_succ]
                refine hl_take_np 22 (by kernel_rfl) (by kernel_rfl) rfl (by kernel_rfl) hs0 (v := ?_) ?_ ?_
                rotate_left
                · (rintro x hx; have k0 := hx.cell c0; have k1 := hx.cell c1; have k2 := hx.cell d0; clear hx; go_simp; try rfl)
                simp only [Act.put, List.setIfInBounds_toArray, List.set_cons_zero, List.set_cons_succ]
                refine hl_take_np 23 (by kernel_rfl) (by kernel_rfl) rfl (by kernel_rfl) hs0 (v := ?_) ?_ ?_
                rotate_left
                · (rintro x hx; have k0 := hx.cell c0; have k1 := hx.cell c1; have k2 := hx.cell d0; clear hx; go_simp; try rfl)
                simp only [Act.put, List.setIfInBounds_toArray, List.set_cons_zero, List.set_cons_succ]
                refine hl_take_np 24 (by kernel_rfl) (by kernel_rfl) rfl (by kernel_rfl) hs0 (v := ?_) ?_ ?_
                rotate_left
                · (rintro x hx; have k0 := hx.cell c0; have k1 := hx.cell c1; have k2 := hx.cell d0; clear hx; go_simp; try rfl)
                simp only [Act.put, List.setIfInBounds_toArray, List.set_cons_zero, List.set_cons_succ]
                refine hl_take_np 25 (by kernel_rfl) (by kernel_rfl) rfl (by kernel_rfl) hs0 (v := ?_) ?_ ?_
                rotate_left
                · (rintro x hx; have k0 := hx.cell c0; have k1 := hx.cell c1; have k2 := hx.cell d0; clear hx; go_simp; try rfl)
                simp only [Act.put, List.setIfInBounds_toArray, List.set_cons_zero, List.set_cons_succ]
                refine hl_take_np 26 (by kernel_rfl) (by kernel_rfl) rfl (by kernel_rfl) hs0 (v := ?_) ?_ ?_
                rotate_left
                · (rintro x hx; have k0 := hx.cell c0; have k1 := hx.cell c1; have k2 := hx.cell d0; clear hx; go_simp; try rfl)
                simp only [Act.put, List.setIfInBounds_toArray, List.set_cons_zero, List.set_cons_succ]
                refine hl_take_np 27 (by kernel_rfl) (by kernel_rfl) rfl (by kernel_rfl) hs0 (v := ?_) ?_ ?_
                rotate_left
                · (rintro x hx; have k0 := hx.cell c0; have k1 := hx.cell c1; have k2 := hx.cell d0; clear hx; go_simp; try rfl)
                simp only [Act.put, List.setIfInBounds_toArray, List.set_cons_zero, List.set_cons_succ]
                refine hl_take_np 28 (by kernel_rfl) (by kernel_rfl) rfl (by kernel_rfl) hs0 (v := ?_) ?_ ?_
                rotate_left
                · (rintro x hx; have k0 := hx.cell c0; have k1 := hx.cell c1; have k2 := hx.cell d0; clear hx; go_simp; try rfl)
                simp only [Act.put, List.setIfInBounds_toArray, List.set_cons_zero, List.set_cons_succ]
                refine hl_take_np 29 (by kernel_rfl) (by kernel_rfl) rfl (by kernel_rfl) hs0 (v := ?_) ?_ ?_
                rotate_left
                · (rintro x hx; have k0 := hx.cell c0; have k1 := hx.cell c1; have k2 := hx.cell d0; clear hx; go_simp; try rfl)
                simp only [Act.put, List.setIfInBounds_toArray, List.set_cons_zero, List.set_cons_succ]
                refine hl_take_np 30 (by kernel_rfl) (by kernel_rfl) rfl (by kernel_rfl) hs0 (v := ?_) ?_ ?_
                rotate_left
                · (rintro x hx; have k0 := hx.cell c0; have k1 := hx.cell c1; have k2 := hx.cell d0; clear hx; go_simp; try rfl)
                simp only [Act.put, List.setIfInBounds_toArray, List.set_cons_zero, List.set_cons_succ]
                refine hl_take_np 31 (by kernel_rfl) (by kernel_rfl) rfl (by kernel_rfl) hs0 (v := ?_) ?_ ?_
                rotate_left
                · (rintro x hx; have k0 := hx.cell c0; have k1 := hx.cell c1; have k2 := hx.cell d0; clear hx; go_simp; try rfl)
                simp only [Act.put, List.setIfInBounds_toArray, List.set_cons_zero, List.set_cons_succ]
                refine hl_take_np 32 (by kernel_rfl) (by kernel_rfl) rfl (by kernel_rfl) hs0 (v := ?_) ?_ ?_
                rotate_left
                · (rintro x hx; have k0 := hx.cell c0; have k1 := hx.cell c1; have k2 := hx.cell d0; clear hx; go_simp; try rfl)
                simp only [Act.put, List.setIfInBounds_toArray, List.set_cons_zero, List.set_cons_succ]
                refine hl_take_np 33 (by kernel_rfl) (by kernel_rfl) rfl (by kernel_rfl) hs0 (v := ?_) ?_ ?_
                rotate_left
                · (rintro x hx; have k0 := hx.cell c0; have k1 := hx.cell c1; have k2 := hx.cell d0; clear hx; go_simp; try rfl)
                simp only [Act.put, List.setIfInBounds_toArray, List.set_cons_zero, List.set_cons_succ]
                refine hl_take_np 34 (by kernel_rfl) (by kernel_rfl) rfl (by kernel_rfl) hs0 (v := ?_) ?_ ?_
                rotate_left
                · (rintro x hx; have k0 := hx.cell c0; have k1 := hx.cell c1; have k2 := hx.cell d0; clear hx; go_simp; try rfl)
                simp only [Act.put, List.setIfInBounds_toArray, List.set_cons_zero, List.set_cons_succ]
                refine hl_take_np 35 (by kernel_rfl) (by kernel_rfl) rfl (by kernel_rfl) hs0 (v := ?_) ?_ ?_
                rotate_left
                · (rintro x hx; have k0 := hx.cell c0; have k1 := hx.cell c1; have k2 := hx.cell d0; clear hx; go_simp; try rfl)
                simp only [Act.put, List.setIfInBounds_toArray, List.set_cons_zero, List.set_cons_succ]
                refine hl_take_np 36 (by kernel_rfl) (by kernel_rfl) rfl (by kernel_rfl) hs0 (v := ?_) ?_ ?_
                rotate_left
                · (rintro x hx; have k0 := hx.cell c0; have k1 := hx.cell c1; have k2 := hx.cell d0; clear hx; go_simp; try rfl)
                simp only [Act.put, List.setIfInBounds_toArray, List.set_cons_zero, List.set_cons_succ]
                refine hl_take_np 37 (by kernel_rfl) (by kernel_rfl) rfl (by kernel_rfl) hs0 (v := ?_) ?_ ?_
                rotate_left
                · (rintro x hx; have k0 := hx.cell c0; have k1 := hx.cell c1; have k2 := hx.cell d0; clear hx; go_simp; try rfl)
                simp only [Act.put, List.setIfInBounds_toArray, List.set_cons_zero, List.set_cons_succ]
                refine hl_take_np 38 (by kernel_rfl) (by kernel_rfl) rfl (by kernel_rfl) hs0 (v := ?_) ?_ ?_
                rotate_left
                · (rintro x hx; have k0 := hx.cell c0; have k1 := hx.cell c1; have k2 := hx.cell d0; clear hx; go_simp; try rfl)
                simp only [Act.put, List.setIfInBounds_toArray, List.set_cons_zero, List.set_cons_succ]
                refine hl_take_np 39 (by kernel_rfl) (by kernel_rfl) rfl (by kernel_rfl) hs0 (v := ?_) ?_ ?_
                rotate_left
                · (rintro x hx; have k0 := hx.cell c0; have k1 := hx.cell c1; have k2 := hx.cell d0; clear hx; go_simp; try rfl)
                simp only [Act.put, List.setIfInBounds_toArray, List.set_cons_zero, List.set_cons_succ]
                refine hl_done (by kernel_rfl) ?_ _
                refine NoPanic.normal ?_
                go_wp2_with fail
                go_ret
                exact ⟨by rw [HF.out]; rfl, HG.out.trans hs0⟩
              · have HN : Hid (rightL l = rightA q (l.drop (j + 1 + 1))) := Lib.hid (HGO.out (by omega))
                go_upto_region 4 with fail
                refine region_hl (fun w' => G wr w') 99 40 (by kernel_rfl) rfl ?_
                simp only [List.replicate_succ, List.replicate_zero]
                have hs0 : (fun w' => G wr w') wr.drew := (G.refl wr).drew
                refine hl_take_np 0 (by kernel_rfl) (by kernel_rfl) rfl (by kernel_rfl) hs0 (v := ?_) ?_ ?_
                rotate_left
                · (rintro x hx; have k0 := hx.cell c0; have k1 := hx.cell c1; have k2 := hx.cell d0; clear hx; go_simp; try rfl)
                simp only [Act.put, List.setIfInBounds_toArray, List.set_cons_zero, List.set_cons_succ]
                refine hl_take_np 1 (by kernel_rfl) (by kernel_rfl) rfl (by kernel_rfl) hs0 (v := ?_) ?_ ?_
                rotate_left
                · (rintro x hx; have k0 := hx.cell c0; have k1 := hx.cell c1; have k2 := hx.cell d0; clear hx; go_simp; try rfl)
                simp only [Act.put, List.setIfInBounds_toArray, List.set_cons_zero, List.set_cons_succ]
                refine hl_take_np 2 (by kernel_rfl) (by kernel_rfl) rfl (by kernel_rfl) hs0 (v := ?_) ?_ ?_
                rotate_left
                · (rintro x hx; have k0 := hx.cell c0; have k1 := hx.cell c1; have k2 := hx.cell d0; clear hx; go_simp; try rfl)
                simp only [Act.put, List.setIfInBounds_toArray, List.set_cons_zero, List.set_cons_succ]
                refine hl_take_np 3 (by kernel_rfl) (by kernel_rfl) rfl (by kernel_rfl) hs0 (v := ?_) ?_ ?_
                rotate_left
                · (rintro x hx; have k0 := hx.cell c0; have k1 := hx.cell c1; have k2 := hx.cell d0; clear hx; go_simp; try rfl)
                simp only [Act.put, List.setIfInBounds_toArray, List.set_cons_zero, List.set_cons_succ]
                refine hl_take_np 4 (by kernel_rfl) (by kernel_rfl) rfl (by kernel_rfl) hs0 (v := ?_) ?_ ?_
                rotate_left
                · (rintro x hx; have k0 := hx.cell c0; have k1 := hx.cell c1; have k2 := hx.cell d0; clear hx; go_simp; try rfl)
                simp only [Act.put, List.setIfInBounds_toArray, List.set_cons_zero, List.set_cons_succ]
                refine hl_take_np 5 (by kernel_rfl) (by kernel_rfl) rfl (by kernel_rfl) hs0 (v := ?_) ?_ ?_
                rotate_left
                · (rintro x hx; have k0 := hx.cell c0; have k1 := hx.cell c1; have k2 := hx.cell d0; clear hx; go_simp; try rfl)
                simp only [Act.put, List.setIfInBounds_toArray, List.set_cons_zero, List.set_cons_succ]
                refine hl_take_np 6 (by kernel_rfl) (by kernel_rfl) rfl (by kernel_rfl) hs0 (v := ?_) ?_ ?_
                rotate_left
                · (rintro x hx; have k0 := hx.cell c0; have k1 := hx.cell c1; have k2 := hx.cell d0; clear hx; go_simp; try rfl)
                simp only [Act.put, List.setIfInBounds_toArray, List.set_cons_zero, List.set_cons_succ]
                refine hl_take_np 7 (by kernel_rfl) (by kernel_rfl) rfl (by kernel_rfl) hs0 (v := ?_) ?_ ?_
                rotate_left
                · (rintro x hx; have k0 := hx.cell c0; have k1 := hx.cell c1; have k2 := hx.cell d0; clear hx; go_simp; try rfl)
                simp only [Act.put, List.setIfInBounds_toArray, List.set_cons_zero, List.set_cons_succ]
                refine hl_take_np 8 (by kernel_rfl) (by kernel_rfl) rfl (by kernel_rfl) hs0 (v := ?_) ?_ ?_
                rotate_left
                · (rintro x hx; have k0 := hx.cell c0; have k1 := hx.cell c1; have k2 := hx.cell d0; clear hx; go_simp; try rfl)
                simp only [Act.put, List.setIfInBounds_toArray, List.set_cons_zero, List.set_cons_succ]
                refine hl_take_np 9 (by kernel_rfl) (by kernel_rfl) rfl (by kernel_rfl) hs0 (v := ?_) ?_ ?_
                rotate_left
                · (rintro x hx; have k0 := hx.cell c0; have k1 := hx.cell c1; have k2 := hx.cell d0; clear hx; go_simp; try rfl)
                simp only [Act.put, List.setIfInBounds_toArray, List.set_cons_zero, List.set_cons_succ]
                refine hl_take_np 10 (by kernel_rfl) (by kernel_rfl) rfl (by kernel_rfl) hs0 (v := ?_) ?_ ?_
                rotate_left
                · (rintro x hx; have k0 := hx.cell c0; have k1 := hx.cell c1; have k2 := hx.cell d0; clear hx; go_simp; try rfl)
                simp only [Act.put, List.setIfInBounds_toArray, List.set_cons_zero, List.set_cons_succ]
                refine hl_take_np 11 (by kernel_rfl) (by kernel_rfl) rfl (by kernel_rfl) hs0 (v := ?_) ?_ ?_
                rotate_left
                · (rintro x hx; have k0 := hx.cell c0; have k1 := hx.cell c1; have k2 := hx.cell d0; clear hx; go_simp; try rfl)
                simp only [Act.put, List.setIfInBounds_toArray, List.set_cons_zero, List.set_cons_succ]
                refine hl_take_np 12 (by kernel_rfl) (by kernel_rfl) rfl (by kernel_rfl) hs0 (v := ?_) ?_ ?_
                rotate_left
                · (rintro x hx; have k0 := hx.cell c0; have k1 := hx.cell c1; have k2 := hx.cell d0; clear hx; go_simp; try rfl)
                simp only [Act.put, List.setIfInBounds_toArray, List.set_cons_zero, List.set_cons_succ]
                refine hl_take_np 13 (by kernel_rfl) (by kernel_rfl) rfl (by kernel_rfl) hs0 (v := ?_) ?_ ?_
                rotate_left
                · (rintro x hx; have k0 := hx.cell c0; have k1 := hx.cell c1; have k2 := hx.cell d0; clear hx; go_simp; try rfl)
                simp only [Act.put, List.setIfInBounds_toArray, List.set_cons_zero, List.set_cons_succ]
                refine hl_take_np 14 (by kernel_rfl) (by kernel_rfl) rfl (by kernel_rfl) hs0 (v := ?_) ?_ ?_
                rotate_left
                · (rintro x hx; have k0 := hx.cell c0; have k1 := hx.cell c1; have k2 := hx.cell d0; clear hx; go_simp; try rfl)
                simp only [Act.put, List.setIfInBounds_toArray, List.set_cons_zero, List.set_cons_succ]
                refine hl_take_np 15 (by kernel_rfl) (by kernel_rfl) rfl (by kernel_rfl) hs0 (v := ?_) ?_ ?_
                rotate_left
                · (rintro x hx; have k0 := hx.cell c0; have k1 := hx.cell c1; have k2 := hx.cell d0; clear hx; go_simp; try rfl)
                simp only [Act.put, List.setIfInBounds_toArray, List.set_cons_zero, List.set_cons_succ]
                refine hl_take_np 16 (by kernel_rfl) (by kernel_rfl) rfl (by kernel_rfl) hs0 (v := ?_) ?_ ?_
                rotate_left
                · (rintro x hx; have k0 := hx.cell c0; have k1 := hx.cell c1; have k2 := hx.cell d0; clear hx; go_simp; try rfl)
                simp only [Act.put, List.setIfInBounds_toArray, List.set_cons_zero, List.set_cons_succ]
                refine hl_take_np 17 (by kernel_rfl) (by kernel_rfl) rfl (by kernel_rfl) hs0 (v := ?_) ?_ ?_
                rotate_left
                · (rintro x hx; have k0 := hx.cell c0; have k1 := hx.cell c1; have k2 := hx.cell d0; clear hx; go_simp; try rfl)
                simp only [Act.put, List.setIfInBounds_toArray, List.set_cons_zero, List.set_cons_succ]
                refine hl_take_np 18 (by kernel_rfl) (by kernel_rfl) rfl (by kernel_rfl) hs0 (v := ?_) ?_ ?_
                rotate_left
                · (rintro x hx; have k0 := hx.cell c0; have k1 := hx.cell c1; have k2 := hx.cell d0; clear hx; go_simp; try rfl)
                simp only [Act.put, List.setIfInBounds_toArray, List.set_cons_zero, List.set_cons_succ]
                refine hl_take_np 19 (by kernel_rfl) (by kernel_rfl) rfl (by kernel_rfl) hs0 (v := ?_) ?_ ?_
                rotate_left
                · (rintro x hx; have k0 := hx.cell c0; have k1 := hx.cell c1; have k2 := hx.cell d0; clear hx; go_simp; try rfl)
                simp only [Act.put, List.setIfInBounds_toArray, List.set_cons_zero, List.set_cons_succ]
                refine hl_take_np 20 (by kernel_rfl) (by kernel_rfl) rfl (by kernel_rfl) hs0 (v := ?_) ?_ ?_
                rotate_left
                · (rintro x hx; have k0 := hx.cell c0; have k1 := hx.cell c1; have k2 := hx.cell d0; clear hx; go_simp; try rfl)
                simp only [Act.put, List.setIfInBounds_toArray, List.set_cons_zero, List.set_cons_succ]
                refine hl_take_np 21 (by kernel_rfl) (by kernel_rfl) rfl (by kernel_rfl) hs0 (v := ?_) ?_ ?_
                rotate_left
                · (rintro x hx; have k0 := hx.cell c0; have k1 := hx.cell c1; have k2 := hx.cell d0; clear hx; go_simp; try rfl)
                simp only [Act.put, List.setIfInBounds_toArray, List.set_cons_zero, List.set_cons_succ]
                refine hl_take_np 22 (by kernel_rfl) (by kernel_rfl) rfl (by kernel_rfl) hs0 (v := ?_) ?_ ?_
                rotate_left
                · (rintro x hx; have k0 := hx.cell c0; have k1 := hx.cell c1; have k2 := hx.cell d0; clear hx; go_simp; try rfl)
                simp only [Act.put, List.setIfInBounds_toArray, List.set_cons_zero, List.set_cons_succ]
                refine hl_take_np 23 (by kernel_rfl) (by kernel_rfl) rfl (by kernel_rfl) hs0 (v := ?_) ?_ ?_
                rotate_left
                · (rintro x hx; have k0 := hx.cell c0; have k1 := hx.cell c1; have k2 := hx.cell d0; clear hx; go_simp; try rfl)
                simp only [Act.put, List.setIfInBounds_toArray, List.set_cons_zero, List.set_cons_succ]
                refine hl_take_np 24 (by kernel_rfl) (by kernel_rfl) rfl (by kernel_rfl) hs0 (v := ?_) ?_ ?_
                rotate_left
                · (rintro x hx; have k0 := hx.cell c0; have k1 := hx.cell c1; have k2 := hx.cell d0; clear hx; go_simp; try rfl)
                simp only [Act.put, List.setIfInBounds_toArray, List.set_cons_zero, List.set_cons_succ]
                refine hl_take_np 25 (by kernel_rfl) (by kernel_rfl) rfl (by kernel_rfl) hs0 (v := ?_) ?_ ?_
                rotate_left
                · (rintro x hx; have k0 := hx.cell c0; have k1 := hx.cell c1; have k2 := hx.cell d0; clear hx; go_simp; try rfl)
                simp only [Act.put, List.setIfInBounds_toArray, List.set_cons_zero, List.set_cons_succ]
                refine hl_take_np 26 (by kernel_rfl) (by kernel_rfl) rfl (by kernel_rfl) hs0 (v := ?_) ?_ ?_
                rotate_left
                · (rintro x hx; have k0 := hx.cell c0; have k1 := hx.cell c1; have k2 := hx.cell d0; clear hx; go_simp; try rfl)
                simp only [Act.put, List.setIfInBounds_toArray, List.set_cons_zero, List.set_cons_succ]
                refine hl_take_np 27 (by kernel_rfl) (by kernel_rfl) rfl (by kernel_rfl) hs0 (v := ?_) ?_ ?_
                rotate_left
                · (rintro x hx; have k0 := hx.cell c0; have k1 := hx.cell c1; have k2 := hx.cell d0; clear hx; go_simp; try rfl)
                simp only [Act.put, List.setIfInBounds_toArray, List.set_cons_zero, List.set_cons_succ]
                refine hl_take_np 28 (by kernel_rfl) (by kernel_rfl) rfl (by kernel_rfl) hs0 (v := ?_) ?_ ?_
                rotate_left
                · (rintro x hx; have k0 := hx.cell c0; have k1 := hx.cell c1; have k2 := hx.cell d0; clear hx; go_simp; try rfl)
                simp only [Act.put, List.setIfInBounds_toArray, List.set_cons_zero, List.set_cons_succ]
                refine hl_take_np 29 (by kernel_rfl) (by kernel_rfl) rfl (by kernel_rfl) hs0 (v := ?_) ?_ ?_
                rotate_left
                · (rintro x hx; have k0 := hx.cell c0; have k1 := hx.cell c1; have k2 := hx.cell d0; clear hx; go_simp; try rfl)
                simp only [Act.put, List.setIfInBounds_toArray, List.set_cons_zero, List.set_cons_succ]
                refine hl_take_np 30 (by kernel_rfl) (by kernel_rfl) rfl (by kernel_rfl) hs0 (v := ?_) ?_ ?_
                rotate_left
                · (rintro x hx; have k0 := hx.cell c0; have k1 := hx.cell c1; have k2 := hx.cell d0; clear hx; go_simp; try rfl)
                simp only [Act.put, List.setIfInBounds_toArray, List.set_cons_zero, List.set_cons_succ]
                refine hl_take_np 31 (by kernel_rfl) (by kernel_rfl) rfl (by kernel_rfl) hs0 (v := ?_) ?_ ?_
                rotate_left
                · (rintro x hx; have k0 := hx.cell c0; have k1 := hx.cell c1; have k2 := hx.cell d0; clear hx; go_simp; try rfl)
                simp only [Act.put, List.setIfInBounds_toArray, List.set_cons_zero, List.set_cons_succ]
                refine hl_take_np 32 (by kernel_rfl) (by kernel_rfl) rfl (by kernel_rfl) hs0 (v := ?_) ?_ ?_
                rotate_left
                · (rintro x hx; have k0 := hx.cell c0; have k1 := hx.cell c1; have k2 := hx.cell d0; clear hx; go_simp; try rfl)
                simp only [Act.put, List.setIfInBounds_toArray, List.set_cons_zero, List.set_cons_succ]
                refine hl_take_np 33 (by kernel_rfl) (by kernel_rfl) rfl (by kernel_rfl) hs0 (v := ?_) ?_ ?_
                rotate_left
                · (rintro x hx; have k0 := hx.cell c0; have k1 := hx.cell c1; have k2 := hx.cell d0; clear hx; go_simp; try rfl)
                simp only [Act.put, List.setIfInBounds_toArray, List.set_cons_zero, List.set_cons_succ]
                refine hl_take_np 34 (by kernel_rfl) (by kernel_rfl) rfl (by kernel_rfl) hs0 (v := ?_) ?_ ?_
                rotate_left
                · (rintro x hx; have k0 := hx.cell c0; have k1 := hx.cell c1; have k2 := hx.cell d0; clear hx; go_simp; try rfl)
                simp only [Act.put, List.setIfInBounds_toArray, List.set_cons_zero, List.set_cons_succ]
                refine hl_take_np 35 (by kernel_rfl) (by kernel_rfl) rfl (by kernel_rfl) hs0 (v := ?_) ?_ ?_
                rotate_left
                · (rintro x hx; have k0 := hx.cell c0; have k1 := hx.cell c1; have k2 := hx.cell d0; clear hx; go_simp; try rfl)
                simp only [Act.put, List.setIfInBounds_toArray, List.set_cons_zero, List.set_cons_succ]
                refine hl_take_np 36 (by kernel_rfl) (by kernel_rfl) rfl (by kernel_rfl) hs0 (v := ?_) ?_ ?_
                rotate_left
                · (rintro x hx; have k0 := hx.cell c0; have k1 := hx.cell c1; have k2 := hx.cell d0; clear hx; go_simp; try rfl)
                simp only [Act.put, List.setIfInBounds_toArray, List.set_cons_zero, List.set_cons_succ]
                refine hl_take_np 37 (by kernel_rfl) (by kernel_rfl) rfl (by kernel_rfl) hs0 (v := ?_) ?_ ?_
                rotate_left
                · (rintro x hx; have k0 := hx.cell c0; have k1 := hx.cell c1; have k2 := hx.cell d0; clear hx; go_simp; try rfl)
                simp only [Act.put, List.setIfInBounds_toArray, List.set_cons_zero, List.set_cons_succ]
                refine hl_take_np 38 (by kernel_rfl) (by kernel_rfl) rfl (by kernel_rfl) hs0 (v := ?_) ?_ ?_
                rotate_left
                · (rintro x hx; have k0 := hx.cell c0; have k1 := hx.cell c1; have k2 := hx.cell d0; clear hx; go_simp; try rfl)
                simp only [Act.put, List.setIfInBounds_toArray, List.set_cons_zero, List.set_cons_succ]
                refine hl_take_np 39 (by kernel_rfl) (by kernel_rfl) rfl (by kernel_rfl) hs0 (v := ?_) ?_ ?_
                rotate_left
                · (rintro x hx; have k0 := hx.cell c0; have k1 := hx.cell c1; have k2 := hx.cell d0; clear hx; go_simp; try rfl)
                simp only [Act.put, List.setIfInBounds_toArray, List.set_cons_zero, List.set_cons_succ]
                refine hl_done (by kernel_rfl) ?_ _
                refine NoPanic.normal ?_
                have HG2 := Lib.hid (HG.out.trans hs0)
                clear hs0
                go_wp2_with fail
                go_roundw
                case rel => exact ⟨j + 1 + 1, q, by omega, by go_num, by omega, HN, HLAST, fun h => by omega, HG2⟩
                case measure => simp [intOf]; omega
    · have HT : Hid (rightL l = true) := Lib.hid (by rw [HE.out, List.drop_of_length_le (by have := HM.out; omega)]; rfl)
      go_wp2_with fail
      go_ret
      exact ⟨by rw [HT.out]; rfl, HG.out⟩
set_option maxHeartbeats 4000000 in
theorem slotsCount_any (a b : Int) (l : List Slt) (v : Value) (w : World) (h : RdrS w v l) (hn : l.length ≤ 1000000) :
    Calls Try.prog 8 #[.int .i64 a, .int .i64 b, v] w fun e w' => e = .returned (cntT a b l) ∧ G w w' := by
  have HRT := Lib.hid (slotsRight_any l v w h hn)
  obtain ⟨p, c, rfl⟩ := h.shape
  obtain ⟨m, hm⟩ : ∃ m, m = l.length := ⟨_, rfl⟩
  have HR : Hid (Rdr w 2 (.slice p m c) m (icells l)) := Lib.hid (by rw [hm]; exact h)
  rw [← hm] at HRT hn ⊢
  have HM := Lib.hid hm
  clear hm h
  by_cases h1 : rightL l = true
  · by_cases h2 : mkB a = true
    · by_cases h3 : mkB b = true
      · have hok : okL a b l = true := by simp [okL, h1, h2, h3]
        have HV : Hid (cntT a b l = match cntA a b 0 l with | some n => .tuple #[.int .i64 n, .int .i64 0] | none => .tuple #[.int .i64 0, .int .i64 17]) := Lib.hid (by unfold cntT cntV; rw [if_pos hok]; cases cntA a b 0 l <;> rfl)
        rw [h1] at HRT
        have H1 := Lib.hid h1
        have H2 := Lib.hid h2
        have H3 := Lib.hid h3
        clear hok h1 h2 h3
        go_enter Try.func8, Try.ntmps8
        go_wp2_with fail
        refine HRT.out.mono ?_
        rintro e w1 ⟨rfl, hg1⟩
        go_wp2_with fail
        refine (rMark_any a w1).mono ?_
        rintro e w2 ⟨rfl, rfl⟩
        rw [H2.out]
        go_wp2_with fail
        refine (rMark_any b w1).mono ?_
        rintro e w3 ⟨rfl, rfl⟩
        have HG3 := Lib.hid hg1
        rw [H3.out]
        clear hg1 HRT
        go_wp2_with fail
        go_loopw [8, 9] (fun nv i wr => ∃ (k : Nat) (n : Int), k ≤ m ∧ i = .int .i64 k ∧ nv = .int .i64 n ∧ 0 ≤ n ∧ n ≤ 4096 ∧ Hid (cntA a b 0 l = cntA a b n (l.drop k)) ∧ Hid (G w wr)) (fun _ i _ => m - (intOf i).toNat)
        case atStart => exact ⟨0, 0, by omega, rfl, rfl, by omega, by omega, Lib.hid rfl, HG3⟩
        case round =>
          clear HG3
          obtain ⟨k, n, hk, rfl, rfl, hn0, hn1, HC, HG⟩ := hrel
          by_cases hlt : k < m
          · have hkI : (k : Int) < (m : Int) := by omega
            obtain ⟨bb, o, q, s, hx, rfl, c0, c1⟩ := RdrS.at (HR.out.g HG.out) HM.out hlt
            obtain ⟨hq, hs1, hs2⟩ := right_at H1.out hx
            have HST : Hid (cntA a b 0 l = if n + countN a b s > 4096 then none else cntA a b (n + countN a b s) (l.drop (k + 1))) := Lib.hid (by rw [HC.out, drop_get hx]; rfl)
            have HCT := Lib.hid (fun X => rCount_any a b s X)
            have hcv : countV a b s = .tuple #[.int .i64 (countN a b s), .int .i64 0] := by
              unfold countV; rw [if_pos]; simp [H2.out, H3.out, wn_iff.2 ⟨hs1, hs2⟩]
            rw [hcv] at HCT
            have hc0 := countN_nn a b s
            clear hcv
            generalize countN a b s = C at HST HCT hc0
            clear hx hq
            by_cases hb : C ≤ 8192
            · by_cases hsum : n + C > 4096
              · have HN : Hid (cntT a b l = .tuple #[.int .i64 0, .int .i64 17]) := Lib.hid (by rw [HV.out, HST.out, if_pos hsum])
                have hsd : decide (4096 < n + C) = true := by simpa using hsum
                go_wp2_with fail
                refine (HCT.out _).mono ?_
                rintro e w2 ⟨rfl, rfl⟩
                have hgE := HG.out
                clear c0 c1
                go_wp2_with fail
                go_ret2
                exact ⟨by rw [HN.out]; rfl, hgE⟩
              · have HN : Hid (cntA a b 0 l = cntA a b (n + C) (l.drop (k + 1))) := Lib.hid (by rw [HST.out, if_neg hsum])
                have hsd : decide (4096 < n + C) = false := by simpa using hsum
                have hsum2 : n + C ≤ 4096 := by omega
                go_wp2_with fail
                refine (HCT.out _).mono ?_
                rintro e w2 ⟨rfl, rfl⟩
                clear c0 c1
                go_wp2_with fail
                go_roundw
                case rel => exact ⟨k + 1, n + C, by omega, by go_num, by first | rfl | go_num, by omega, by omega, HN, HG⟩
                case measure => simp [intOf]; omega
            · have HN : Hid (cntT a b l = .tuple #[.int .i64 0, .int .i64 17]) := Lib.hid (by rw [HV.out, HST.out, if_pos (by omega)])
              have hsd : decide (4096 < n + 8192) = true := by simp; omega
              have hb2 : 8192 < C := by omega
              go_wp2_with fail
              refine (HCT.out _).mono ?_
              rintro e w2 ⟨rfl, rfl⟩
              have hgE := HG.out
              clear c0 c1
              go_wp2_with fail
              go_ret2
              exact ⟨by rw [HN.out]; rfl, hgE⟩
          · have HN : Hid (cntT a b l = .tuple #[.int .i64 n, .int .i64 0]) := Lib.hid (by rw [HV.out, HC.out, List.drop_of_length_le (by have := HM.out; omega)]; rfl)
            have hgE := HG.out
            go_wp2_with fail
            go_ret2
            exact ⟨by rw [HN.out]; rfl, hgE⟩
      · have HN : Hid (cntT a b l = .tuple #[.int .i64 0, .int .i64 2]) := Lib.hid (by unfold cntT cntV; rw [if_neg (by simp [okL, h3])])
        simp only [Bool.not_eq_true] at h3
        rw [h1] at HRT
        have H2 := Lib.hid h2
        have H3 := Lib.hid h3
        clear h1 h2 h3
        go_enter Try.func8, Try.ntmps8
        go_wp2_with fail
        refine HRT.out.mono ?_
        rintro e w1 ⟨rfl, hg1⟩
        go_wp2_with fail
        refine (rMark_any a w1).mono ?_
        rintro e w2 ⟨rfl, rfl⟩
        rw [H2.out]
        go_wp2_with fail
        refine (rMark_any b w1).mono ?_
        rintro e w3 ⟨rfl, rfl⟩
        rw [H3.out]
        go_wp2_with fail
        go_ret2
        exact ⟨by rw [HN.out]; rfl, hg1⟩
    · have HN : Hid (cntT a b l = .tuple #[.int .i64 0, .int .i64 2]) := Lib.hid (by unfold cntT cntV; rw [if_neg (by simp [okL, h2])])
      simp only [Bool.not_eq_true] at h2
      rw [h1] at HRT
      have H2 := Lib.hid h2
      clear h1 h2
      go_enter Try.func8, Try.ntmps8
      go_wp2_with fail
      refine HRT.out.mono ?_
      rintro e w1 ⟨rfl, hg1⟩
      go_wp2_with fail
      refine (rMark_any a w1).mono ?_
      rintro e w2 ⟨rfl, rfl⟩
      rw [H2.out]
      go_wp2_with fail
      go_ret2
      exact ⟨by rw [HN.out]; rfl, hg1⟩
  · have HN : Hid (cntT a b l = .tuple #[.int .i64 0, .int .i64 2]) := Lib.hid (by unfold cntT cntV; rw [if_neg (by simp [okL, h1])])
    simp only [Bool.not_eq_true] at h1
    rw [h1] at HRT
    clear h1
    go_enter Try.func8, Try.ntmps8
    go_wp2_with fail
    refine HRT.out.mono ?_
    rintro e w1 ⟨rfl, hg1⟩
    go_wp2_with fail
    go_ret2
    exact ⟨by rw [HN.out]; rfl, hg1⟩
end Go.Proofs.Ythhmmjpgefinmaa
