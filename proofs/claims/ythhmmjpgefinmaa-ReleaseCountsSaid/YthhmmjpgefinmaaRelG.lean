/- the document's Closes -/
import Derived.Test.YthhmmjpgefinmaaRelD
import Derived.Test.YthhmmjpgefinmaaRelQ
import Derived.Test.YthhmmjpgefinmaaSortM
import Derived.Deep.OwnRows
set_option maxRecDepth 10000
namespace Go.Proofs.Ythhmmjpgefinmaa
set_option linter.unusedVariables false
set_option linter.unusedSimpArgs false
open Go.RowKit Go.Shelf
attribute [local go_sem] Oper.semAt_some

theorem infoInt : (Try.prog.info? 3).map (fun i => (i.zero, i.size, i.bytes)) = some (some (.int .i64 0), 1, 8) := by kernel_rfl
theorem infoCl : (Try.prog.info? 38).map (fun i => (i.zero, i.size, i.bytes)) = some (some (.agg #[.int .i64 0, .int .i64 0]), 2, 16) := by kernel_rfl
/-- a row of numbers in a block of its own -/
def NX (W : World) (nb : Nat) (nx : List Int) : Prop := W.heap[nb]? = some (.cells (nx.map (fun x => Value.int .i64 x)).toArray 3 (0, 0))
theorem NX.cell {W : World} {nb k : Nat} {nx : List Int} (h : NX W nb nx) (hk : k < nx.length) : W.cell? ⟨nb, k, none⟩ = some (.int .i64 (nx.getD k 0)) := by
  have h2 : W.heap[nb]? = some (.cells (nx.map (fun x => Value.int .i64 x)).toArray 3 (0, 0)) := h
  unfold World.cell?
  simp only [h2]
  have h3 : nx[k]? = some nx[k] := List.getElem?_eq_getElem hk
  simp [h3, List.getD_eq_getElem?_getD]
theorem NX.frozen {W : World} {nb k : Nat} {nx : List Int} (h : NX W nb nx) : W.frozen? ⟨nb, k, none⟩ = false := by
  have h2 : W.heap[nb]? = some (.cells (nx.map (fun x => Value.int .i64 x)).toArray 3 (0, 0)) := h
  unfold World.frozen?
  rw [h2]; simp
theorem NX.set {W : World} {nb : Nat} {nx : List Int} (h : NX W nb nx) (k : Nat) (v : Int) : NX (W.setCell ⟨nb, k, none⟩ (.int .i64 v)) nb (nx.set k v) := by
  have := heap_setCell_at W nb k (.int .i64 v) _ _ _ h
  unfold NX
  rw [this]
  simp [List.map_set]
theorem NX.fr {S : Nat → Prop} {W W' : World} {nb : Nat} {nx : List Int} (h : NX W nb nx) (hf : Fr S W W') (hs : ¬ S nb) : NX W' nb nx := (hf.block nb (by
  have h2 : W.heap[nb]? = some (.cells (nx.map (fun x => Value.int .i64 x)).toArray 3 (0, 0)) := h
  exact (Array.getElem?_eq_some_iff.1 h2).1) hs).trans h
theorem NX.g {W W' : World} {nb : Nat} {nx : List Int} (h : NX W nb nx) (hg : G W W') : NX W' nb nx := h.fr (hg.fr (fun _ => False)) (fun h => h)
theorem NX.lt {W : World} {nb : Nat} {nx : List Int} (h : NX W nb nx) : nb < W.heap.size := by
  have h2 : W.heap[nb]? = some (.cells (nx.map (fun x => Value.int .i64 x)).toArray 3 (0, 0)) := h
  exact (Array.getElem?_eq_some_iff.1 h2).1
theorem made_int (n : Nat) : madeCells #[.int .i64 0] n = ((List.replicate n (0 : Int)).map (fun x => Value.int .i64 x)).toArray := by
  apply Array.ext
  · simp [madeCells]
  · intro i h1 h2
    simp [madeCells, Nat.mod_one]
theorem nx_of {W : World} {n : Nat} : NX (W.alloc (.cells (madeCells #[.int .i64 0] n) 3)) W.heap.size (List.replicate n 0) := by
  unfold NX
  rw [made_int]
  exact alloc_new W _
theorem NxI.start' {a : Int} {l : List Slt} {nx : List Int} (hl : nx.length = l.length) (h : ∀ i s, l[i]? = some s → nx.getD i 0 = nxt a s.2) : NxI l (max a 0 + 1) 0 nx := by
  refine ⟨by omega, hl, fun k s hs => ?_⟩
  rw [h k s hs, if_neg (by omega)]
  unfold nxt
  rw [show max (max a 0 + 1 - 1) 0 = max a 0 by omega]
set_option maxHeartbeats 8000000 in
theorem closesR_any (a b : Int) (l : List Slt) (v : Value) (w : World) (h : RdrS w v l) (hn : l.length ≤ 1000000) :
    Calls Try.prog 12 #[.int .i64 a, .int .i64 b, v] w fun e w' => ∃ u, e = .returned u ∧ w'.ownsRow w.heap.size 38 2 u (closesW a b l).length (icells (closesW a b l)) ∧ G w w' := by
  have HCT0 := Lib.hid (slotsCount_any a b l v w h hn)
  obtain ⟨p, c, rfl⟩ := h.shape
  obtain ⟨m, hm⟩ : ∃ m, m = l.length := ⟨_, rfl⟩
  have HR : Hid (Rdr w 2 (.slice p m c) m (icells l)) := Lib.hid (by rw [hm]; exact h)
  obtain ⟨nn, e, hcv⟩ : ∃ n e, cntV a b l = (n, e) := ⟨_, _, rfl⟩
  have hct : cntT a b l = .tuple #[.int .i64 nn, .int .i64 e] := by unfold cntT; rw [hcv]
  rw [hct, ← hm] at HCT0
  rw [← hm] at hn ⊢
  have HM := Lib.hid hm
  have HCV := Lib.hid hcv
  clear hm h hct hcv
  have hmk := run_make_row' (P := Try.prog) 67 3 (.int .i64 0) 8 Try.underlying67 infoInt rfl .i64 .i64 m (by omega) (by omega)
  go_enter Try.func12, Try.ntmps12
  go_wp2_with fail
  refine HCT0.out.mono ?_
  rintro e0 w1 ⟨rfl, hg1⟩
  by_cases he : e = 0
  · subst he
    obtain ⟨hok, hnl, hn4⟩ := cntV_ok HCV.out
    have hcw : closesW a b l = closesD a b l := by unfold closesW; rw [HCV.out, if_pos rfl]
    obtain ⟨hrl, hma, hmb⟩ : rightL l = true ∧ mkB a = true ∧ mkB b = true := by
      unfold okL at hok; simp only [Bool.and_eq_true] at hok; exact ⟨hok.1, hok.2.1, hok.2.2⟩
    obtain ⟨ha1, ha2⟩ := mk_iff.1 hma
    obtain ⟨hb1, hb2⟩ := mk_iff.1 hmb
    have HRL := Lib.hid hrl
    have HCW := Lib.hid hcw
    obtain ⟨N, hN⟩ : ∃ N : Nat, N = (closesD a b l).length := ⟨_, rfl⟩
    obtain rfl : nn = (N : Int) := by rw [hN]; exact hnl
    have hN4 : N ≤ 4096 := by omega
    have HN := Lib.hid hN
    clear hok hnl hcw hrl hma hmb hN hn4
    go_wp2_with fail
    clear hmk
    have HNX0 : Hid (NX (w1.alloc (.cells (madeCells #[.int .i64 0] m) 3)) w1.heap.size (List.replicate m 0) ∧ G w (w1.alloc (.cells (madeCells #[.int .i64 0] m) 3)) ∧ w.heap.size ≤ w1.heap.size) := Lib.hid ⟨nx_of, hg1.alloc _, hg1.size⟩
    obtain ⟨nb, hnb⟩ : ∃ nb, nb = w1.heap.size := ⟨_, rfl⟩
    rw [← hnb] at HNX0 ⊢
    generalize (w1.alloc (.cells (madeCells #[.int .i64 0] m) 3)) = W1 at HNX0 ⊢
    clear hnb hg1
    have hnbw := HNX0.out.2.2
    go_loopw [10] (fun i wr => ∃ (k : Nat) (nx : List Int), k ≤ m ∧ i = .int .i64 k ∧ Hid (NX wr nb nx) ∧ nx.length = m ∧ Hid (∀ i s, i < k → l[i]? = some s → nx.getD i 0 = nxt a s.2) ∧ Hid (G w wr)) (fun i _ => m - (intOf i).toNat)
    case atStart => exact ⟨0, List.replicate m 0, by omega, rfl, Lib.hid HNX0.out.1, by simp, Lib.hid (fun i s h => by omega), Lib.hid HNX0.out.2.1⟩
    case round =>
      clear HNX0
      obtain ⟨k, nx, hk, rfl, HX, hxl, HV, HG⟩ := hrel
      by_cases hlt : k < m
      · have hkI : (k : Int) < (m : Int) := by omega
        have hk0 : (0 : Int) ≤ (k : Int) := by omega
        obtain ⟨bb, o, q, s, hx, rfl, c0, c1⟩ := RdrS.at (HR.out.g HG.out) HM.out hlt
        obtain ⟨hq, hs1, hs2⟩ := right_at HRL.out hx
        have cn := HX.out.cell (k := k) (by omega)
        have fn := HX.out.frozen (k := k)
        obtain ⟨X, hX⟩ : ∃ X, X = nxt a s := ⟨_, rfl⟩
        obtain ⟨A0, hA0⟩ : ∃ A0, A0 = max a 0 := ⟨_, rfl⟩
        obtain ⟨Q, hQ⟩ : ∃ Q, Q = A0 / s := ⟨_, rfl⟩
        have hXQ : X = (Q + 1) * s := by rw [hX, hQ, hA0]; rfl
        have hXhi : X ≤ 1099511627776 + 1048576 := by rw [hX]; have := nxt_hi (T := a) hs1; omega
        have hXlo : 0 < X := by rw [hX]; have := nxt_gt (a := a) hs1; omega
        have hQ0 : 0 ≤ Q := by rw [hQ]; exact Int.ediv_nonneg (by omega) (by omega)
        have hQ1 : Q ≤ A0 := by rw [hQ]; exact Int.ediv_le_self s (by omega)
        have hif : (if a < 0 then (0 : Int) else a) = A0 := by rw [hA0]; split <;> omega
        have hdiv : IntKind.i64.wrap (A0.tdiv s) = Q := by rw [hQ]; exact IntWalk.i64_quo _ _ ⟨by omega, by omega, hs1⟩
        have hadd : IntKind.i64.wrap (Q + 1) = Q + 1 := IntWalk.i64_in _ ⟨by omega, by omega⟩
        have hmul : IntKind.i64.wrap ((Q + 1) * s) = X := by rw [← hXQ]; exact IntWalk.i64_in _ ⟨by omega, by omega⟩
        have hsn : s ≠ 0 := by omega
        have HXX := Lib.hid hX
        clear hX hA0 hQ hXQ
        go_upto_region 8 with fail
        refine region_hl (fun w' => G wr w') 18 19 (by kernel_rfl) rfl ?_
        simp only [List.replicate_succ, List.replicate_zero]
        have hs0 : (fun w' : World => G wr w') wr.drew := (G.refl wr).drew
        refine hl_take_np 0 (by kernel_rfl) (by kernel_rfl) rfl (by kernel_rfl) hs0 (v := ?_) ?_ ?_
        rotate_left
        · (rintro x hx; have k0 := hx.cell c0; have k1 := hx.cell c1; clear hx; go_simp; try rfl)
        simp only [Act.put, List.setIfInBounds_toArray, List.set_cons_zero, List.set_cons_succ]
        refine hl_take_np 1 (by kernel_rfl) (by kernel_rfl) rfl (by kernel_rfl) hs0 (v := ?_) ?_ ?_
        rotate_left
        · (rintro x hx; have k0 := hx.cell c0; have k1 := hx.cell c1; clear hx; go_simp; try rfl)
        simp only [Act.put, List.setIfInBounds_toArray, List.set_cons_zero, List.set_cons_succ]
        refine hl_take_np 2 (by kernel_rfl) (by kernel_rfl) rfl (by kernel_rfl) hs0 (v := ?_) ?_ ?_
        rotate_left
        · (rintro x hx; have k0 := hx.cell c0; have k1 := hx.cell c1; clear hx; go_simp; try rfl)
        simp only [Act.put, List.setIfInBounds_toArray, List.set_cons_zero, List.set_cons_succ]
        refine hl_take_np 3 (by kernel_rfl) (by kernel_rfl) rfl (by kernel_rfl) hs0 (v := ?_) ?_ ?_
        rotate_left
        · (rintro x hx; have k0 := hx.cell c0; have k1 := hx.cell c1; clear hx; go_simp; try rfl)
        simp only [Act.put, List.setIfInBounds_toArray, List.set_cons_zero, List.set_cons_succ]
        refine hl_take_np 4 (by kernel_rfl) (by kernel_rfl) rfl (by kernel_rfl) hs0 (v := ?_) ?_ ?_
        rotate_left
        · (rintro x hx; have k0 := hx.cell c0; have k1 := hx.cell c1; clear hx; go_simp; try rfl)
        simp only [Act.put, List.setIfInBounds_toArray, List.set_cons_zero, List.set_cons_succ]
        refine hl_take_np 5 (by kernel_rfl) (by kernel_rfl) rfl (by kernel_rfl) hs0 (v := ?_) ?_ ?_
        rotate_left
        · (rintro x hx; have k0 := hx.cell c0; have k1 := hx.cell c1; clear hx; go_simp; try rfl)
        simp only [Act.put, List.setIfInBounds_toArray, List.set_cons_zero, List.set_cons_succ]
        refine hl_take_np 6 (by kernel_rfl) (by kernel_rfl) rfl (by kernel_rfl) hs0 (v := ?_) ?_ ?_
        rotate_left
        · (rintro x hx; have k0 := hx.cell c0; have k1 := hx.cell c1; clear hx; go_simp; try rfl)
        simp only [Act.put, List.setIfInBounds_toArray, List.set_cons_zero, List.set_cons_succ]
        refine hl_take_np 7 (by kernel_rfl) (by kernel_rfl) rfl (by kernel_rfl) hs0 (v := ?_) ?_ ?_
        rotate_left
        · (rintro x hx; have k0 := hx.cell c0; have k1 := hx.cell c1; clear hx; go_simp; try rfl)
        simp only [Act.put, List.setIfInBounds_toArray, List.set_cons_zero, List.set_cons_succ]
        refine hl_take_np 8 (by kernel_rfl) (by kernel_rfl) rfl (by kernel_rfl) hs0 (v := ?_) ?_ ?_
        rotate_left
        · (rintro x hx; have k0 := hx.cell c0; have k1 := hx.cell c1; clear hx; go_simp; try rfl)
        simp only [Act.put, List.setIfInBounds_toArray, List.set_cons_zero, List.set_cons_succ]
        refine hl_take_np 9 (by kernel_rfl) (by kernel_rfl) rfl (by kernel_rfl) hs0 (v := ?_) ?_ ?_
        rotate_left
        · (rintro x hx; have k0 := hx.cell c0; have k1 := hx.cell c1; clear hx; go_simp; try rfl)
        simp only [Act.put, List.setIfInBounds_toArray, List.set_cons_zero, List.set_cons_succ]
        refine hl_take_np 10 (by kernel_rfl) (by kernel_rfl) rfl (by kernel_rfl) hs0 (v := ?_) ?_ ?_
        rotate_left
        · (rintro x hx; have k0 := hx.cell c0; have k1 := hx.cell c1; clear hx; go_simp; try rfl)
        simp only [Act.put, List.setIfInBounds_toArray, List.set_cons_zero, List.set_cons_succ]
        refine hl_take_np 11 (by kernel_rfl) (by kernel_rfl) rfl (by kernel_rfl) hs0 (v := ?_) ?_ ?_
        rotate_left
        · (rintro x hx; have k0 := hx.cell c0; have k1 := hx.cell c1; clear hx; go_simp; try rfl)
        simp only [Act.put, List.setIfInBounds_toArray, List.set_cons_zero, List.set_cons_succ]
        refine hl_take_np 12 (by kernel_rfl) (by kernel_rfl) rfl (by kernel_rfl) hs0 (v := ?_) ?_ ?_
        rotate_left
        · (rintro x hx; have k0 := hx.cell c0; have k1 := hx.cell c1; clear hx; go_simp; try rfl)
        simp only [Act.put, List.setIfInBounds_toArray, List.set_cons_zero, List.set_cons_succ]
        refine hl_take_np 13 (by kernel_rfl) (by kernel_rfl) rfl (by kernel_rfl) hs0 (v := ?_) ?_ ?_
        rotate_left
        · (rintro x hx; have k0 := hx.cell c0; have k1 := hx.cell c1; clear hx; go_simp; try rfl)
        simp only [Act.put, List.setIfInBounds_toArray, List.set_cons_zero, List.set_cons_succ]
        refine hl_take_np 14 (by kernel_rfl) (by kernel_rfl) rfl (by kernel_rfl) hs0 (v := ?_) ?_ ?_
        rotate_left
        · (rintro x hx; have k0 := hx.cell c0; have k1 := hx.cell c1; clear hx; go_simp; try rfl)
        simp only [Act.put, List.setIfInBounds_toArray, List.set_cons_zero, List.set_cons_succ]
        refine hl_take_np 15 (by kernel_rfl) (by kernel_rfl) rfl (by kernel_rfl) hs0 (v := ?_) ?_ ?_
        rotate_left
        · (rintro x hx; have k0 := hx.cell c0; have k1 := hx.cell c1; clear hx; go_simp; try rfl)
        simp only [Act.put, List.setIfInBounds_toArray, List.set_cons_zero, List.set_cons_succ]
        refine hl_take_np 16 (by kernel_rfl) (by kernel_rfl) rfl (by kernel_rfl) hs0 (v := ?_) ?_ ?_
        rotate_left
        · (rintro x hx; have k0 := hx.cell c0; have k1 := hx.cell c1; clear hx; go_simp; try rfl)
        simp only [Act.put, List.setIfInBounds_toArray, List.set_cons_zero, List.set_cons_succ]
        refine hl_take_np 17 (by kernel_rfl) (by kernel_rfl) rfl (by kernel_rfl) hs0 (v := ?_) ?_ ?_
        rotate_left
        · (rintro x hx; have k0 := hx.cell c0; have k1 := hx.cell c1; clear hx; go_simp; try rfl)
        simp only [Act.put, List.setIfInBounds_toArray, List.set_cons_zero, List.set_cons_succ]
        have cn1 := hs0.cell cn
        have fn1 : wr.drew.frozen? ⟨nb, k, none⟩ = false := (hs0.frozen (p := ⟨nb, k, none⟩) (by have := HX.out.lt; exact this)).trans fn
        refine hl_step 18 (by kernel_rfl) rfl ?_
        go_wp2_with fail
        show _ ∧ _
        refine ⟨(by first | exact fun h => absurd rfl h | trivial), ?_⟩
        refine NoPanic.normal ?_
        have HEND : Hid (NX (wr.drew.setCell ⟨nb, k, none⟩ (.int .i64 X)) nb (nx.set k X) ∧ (nx.set k X).length = m ∧ (∀ i s, i < k + 1 → l[i]? = some s → (nx.set k X).getD i 0 = nxt a s.2) ∧ G w (wr.drew.setCell ⟨nb, k, none⟩ (.int .i64 X))) := Lib.hid ⟨(HX.out.g hs0).set k X, by rw [List.length_set]; exact hxl, fun i s' hi hs' => by
          rw [getD_set (by omega)]
          split
          · rename_i h2
            subst h2
            rw [hx] at hs'
            cases hs'
            exact HXX.out
          · exact HV.out i s' (by omega) hs', (HG.out.trans hs0).setCell (by exact hnbw) _⟩
        clear cn fn cn1 fn1 c0 c1 hx hs0
        go_wp2_with fail
        go_roundw
        case rel => exact ⟨k + 1, nx.set k X, by omega, by go_num, Lib.hid HEND.out.1, HEND.out.2.1, Lib.hid HEND.out.2.2.1, Lib.hid HEND.out.2.2.2⟩
        case measure => simp [intOf]; omega
      · have HNI : Hid (NX wr nb nx ∧ NxI l (max a 0 + 1) 0 nx ∧ G w wr) := Lib.hid ⟨HX.out, NxI.start' (by have := HM.out; omega) (fun i s h => HV.out i s (by have := (List.getElem?_eq_some_iff.1 h).1; have := HM.out; omega) h), HG.out⟩
        have HL1 := Lib.hid (fun (s : Slt) (hs : s ∈ l) => (rightA_mem HRL.out s hs).2.1)
        obtain ⟨i0, hi, hz0, hz1, hz2⟩ := info_parts infoCl
        have HC0 : Hid (([] : List (Int × Int)) ++ closesF (max a 0 + 1) 0 b l = closesD a b l) := Lib.hid (by rw [closesF_start]; rfl)
        clear HX HV HG
        go_wp2_with fail
        go_loopg [11] N (fun g out wr => ∃ (T : Int) (j : Nat) (nx : List Int) (L : List (Int × Int)) (r : Nat), r ≤ N ∧ g = N - r ∧ r = L.length ∧ wr.ownsRow w.heap.size 38 2 out r (icells L) ∧ Hid (NX wr nb nx ∧ NxI l T j nx ∧ G w wr) ∧ Hid (L ++ closesF T j b l = closesD a b l))
        case atStart => exact ⟨max a 0 + 1, 0, nx, [], 0, by omega, rfl, rfl, World.ownsRow_nil _ _ _ _, HNI, HC0⟩
        case round =>
          clear HNI HC0 hk hlt hxl nx
          obtain ⟨T, j, nx, L, r, hrN, rfl, hrL, hown, HX, HC⟩ := hrel
          obtain ⟨op, oc, rfl⟩ := ownsRow_shape hown
          have HRL2 := Lib.hid hrL
          have HOWN := Lib.hid hown
          clear hrL hown
          by_cases hlt : r < N
          · have hltI : (r : Int) < (N : Int) := by omega
            have hne : closesF T j b l ≠ [] := fun h0 => by
              have h1 := HC.out
              rw [h0, List.append_nil] at h1
              have h2 := HRL2.out
              have h3 := HN.out
              rw [h1] at h2
              omega
            have hl0 : 0 < m := by
              rcases Nat.eq_zero_or_pos m with h0 | h0
              · exfalso; apply hne
                have hl : l = [] := List.length_eq_zero_iff.1 (by have := HM.out; omega)
                unfold closesF
                rw [hl]
                have h5 : closesD T b [] = [] := closesD_none (fun t _ _ s hs => by cases hs)
                rw [h5]
                split <;> simp [rowC]
              · exact h0
            have hnxl : nx.length = m := by have := HX.out.2.1.len; have := HM.out; omega
            have HNE := Lib.hid hne
            clear hne
            obtain ⟨WA, rfl⟩ : ∃ WA : World, WA = wr := ⟨_, rfl⟩
            go_wp2_with fail
            go_loopw [12, 13] (fun bv iv wr => ∃ (B I : Nat), bv = .int .i64 B ∧ iv = .int .i64 I ∧ 1 ≤ I ∧ B < m ∧ B < I ∧ I ≤ max m 1 ∧ Hid ((∀ i, i < I → i < m → nx.getD B 0 ≤ nx.getD i 0) ∧ (∀ i, i < B → nx.getD B 0 < nx.getD i 0)) ∧ Hid (G WA wr)) (fun _ iv _ => m - (intOf iv).toNat)
            case atStart => exact ⟨0, 1, rfl, rfl, by omega, by omega, by omega, by omega, Lib.hid ⟨fun i h1 h2 => (show nx.getD 0 0 ≤ nx.getD i 0 from (show i = 0 by omega) ▸ Int.le_refl _), fun i h => by omega⟩, Lib.hid (G.refl _)⟩
            case round =>
              obtain ⟨B, I, rfl, rfl, hI1, hB, hBI, hIm, HMN, HG⟩ := hrel
              by_cases hlt2 : I < m
              · have hIi : (I : Int) < (m : Int) := by omega
                have hI0 : (0 : Int) ≤ (I : Int) := by omega
                have hB0 : (0 : Int) ≤ (B : Int) := by omega
                have hBi : (B : Int) < (m : Int) := by omega
                have cI := (HX.out.1.g HG.out).cell (k := I) (by omega)
                have cB := (HX.out.1.g HG.out).cell (k := B) (by omega)
                obtain ⟨x, hx⟩ : ∃ x, x = nx.getD I 0 := ⟨_, rfl⟩
                obtain ⟨y, hy⟩ : ∃ y, y = nx.getD B 0 := ⟨_, rfl⟩
                rw [← hx] at cI
                rw [← hy] at cB
                have HXI := Lib.hid hx
                have HYB := Lib.hid hy
                clear hx hy
                by_cases hxy : x < y
                · have HM2 : Hid ((∀ i, i < I + 1 → i < m → nx.getD I 0 ≤ nx.getD i 0) ∧ (∀ i, i < I → nx.getD I 0 < nx.getD i 0)) := Lib.hid (by
                    have e1 := HXI.out
                    have e2 := HYB.out
                    refine ⟨fun i h1 h2 => ?_, fun i h1 => ?_⟩
                    · by_cases hi : i = I
                      · rw [hi]; exact Int.le_refl _
                      · have := HMN.out.1 i (by omega) h2; omega
                    · have := HMN.out.1 i h1 (by omega); omega)
                  go_upto_region 15 with fail
                  refine region_hl (fun w' => G wr w') 99 9 (by kernel_rfl) rfl ?_
                  simp only [List.replicate_succ, List.replicate_zero]
                  have hs0 : (fun w' : World => G wr w') wr.drew := (G.refl wr).drew
                  refine hl_take_np 0 (by kernel_rfl) (by kernel_rfl) rfl (by kernel_rfl) hs0 (v := ?_) ?_ ?_
                  rotate_left
                  · (rintro x hx; have k0 := hx.cell cI; have k1 := hx.cell cB; clear hx; go_simp; try rfl)
                  simp only [Act.put, List.setIfInBounds_toArray, List.set_cons_zero, List.set_cons_succ]
                  refine hl_take_np 1 (by kernel_rfl) (by kernel_rfl) rfl (by kernel_rfl) hs0 (v := ?_) ?_ ?_
                  rotate_left
                  · (rintro x hx; have k0 := hx.cell cI; have k1 := hx.cell cB; clear hx; go_simp; try rfl)
                  simp only [Act.put, List.setIfInBounds_toArray, List.set_cons_zero, List.set_cons_succ]
                  refine hl_take_np 2 (by kernel_rfl) (by kernel_rfl) rfl (by kernel_rfl) hs0 (v := ?_) ?_ ?_
                  rotate_left
                  · (rintro x hx; have k0 := hx.cell cI; have k1 := hx.cell cB; clear hx; go_simp; try rfl)
                  simp only [Act.put, List.setIfInBounds_toArray, List.set_cons_zero, List.set_cons_succ]
                  refine hl_take_np 3 (by kernel_rfl) (by kernel_rfl) rfl (by kernel_rfl) hs0 (v := ?_) ?_ ?_
                  rotate_left
                  · (rintro x hx; have k0 := hx.cell cI; have k1 := hx.cell cB; clear hx; go_simp; try rfl)
                  simp only [Act.put, List.setIfInBounds_toArray, List.set_cons_zero, List.set_cons_succ]
                  refine hl_take_np 4 (by kernel_rfl) (by kernel_rfl) rfl (by kernel_rfl) hs0 (v := ?_) ?_ ?_
                  rotate_left
                  · (rintro x hx; have k0 := hx.cell cI; have k1 := hx.cell cB; clear hx; go_simp; try rfl)
                  simp only [Act.put, List.setIfInBounds_toArray, List.set_cons_zero, List.set_cons_succ]
                  refine hl_take_np 5 (by kernel_rfl) (by kernel_rfl) rfl (by kernel_rfl) hs0 (v := ?_) ?_ ?_
                  rotate_left
                  · (rintro x hx; have k0 := hx.cell cI; have k1 := hx.cell cB; clear hx; go_simp; try rfl)
                  simp only [Act.put, List.setIfInBounds_toArray, List.set_cons_zero, List.set_cons_succ]
                  refine hl_take_np 6 (by kernel_rfl) (by kernel_rfl) rfl (by kernel_rfl) hs0 (v := ?_) ?_ ?_
                  rotate_left
                  · (rintro x hx; have k0 := hx.cell cI; have k1 := hx.cell cB; clear hx; go_simp; try rfl)
                  simp only [Act.put, List.setIfInBounds_toArray, List.set_cons_zero, List.set_cons_succ]
                  refine hl_take_np 7 (by kernel_rfl) (by kernel_rfl) rfl (by kernel_rfl) hs0 (v := ?_) ?_ ?_
                  rotate_left
                  · (rintro x hx; have k0 := hx.cell cI; have k1 := hx.cell cB; clear hx; go_simp; try rfl)
                  simp only [Act.put, List.setIfInBounds_toArray, List.set_cons_zero, List.set_cons_succ]
                  refine hl_take_np 8 (by kernel_rfl) (by kernel_rfl) rfl (by kernel_rfl) hs0 (v := ?_) ?_ ?_
                  rotate_left
                  · (rintro x hx; have k0 := hx.cell cI; have k1 := hx.cell cB; clear hx; go_simp; try rfl)
                  simp only [Act.put, List.setIfInBounds_toArray, List.set_cons_zero, List.set_cons_succ]
                  refine hl_done (by kernel_rfl) ?_ _
                  refine NoPanic.normal ?_
                  have HG2 := Lib.hid (HG.out.trans hs0)
                  clear hs0 cI cB
                  go_wp2_with fail
                  go_roundw
                  case rel => exact ⟨I, I + 1, rfl, by go_num, by omega, by omega, by omega, by omega, HM2, HG2⟩
                  case measure => simp [intOf]; omega
                · have HM2 : Hid ((∀ i, i < I + 1 → i < m → nx.getD B 0 ≤ nx.getD i 0) ∧ (∀ i, i < B → nx.getD B 0 < nx.getD i 0)) := Lib.hid (by
                    have e1 := HXI.out
                    have e2 := HYB.out
                    refine ⟨fun i h1 h2 => ?_, HMN.out.2⟩
                    by_cases hi : i = I
                    · rw [hi]; omega
                    · exact HMN.out.1 i (by omega) h2)
                  go_upto_region 15 with fail
                  refine region_hl (fun w' => G wr w') 99 9 (by kernel_rfl) rfl ?_
                  simp only [List.replicate_succ, List.replicate_zero]
                  have hs0 : (fun w' : World => G wr w') wr.drew := (G.refl wr).drew
                  refine hl_take_np 0 (by kernel_rfl) (by kernel_rfl) rfl (by kernel_rfl) hs0 (v := ?_) ?_ ?_
                  rotate_left
                  · (rintro x hx; have k0 := hx.cell cI; have k1 := hx.cell cB; clear hx; go_simp; try rfl)
                  simp only [Act.put, List.setIfInBounds_toArray, List.set_cons_zero, List.set_cons_succ]
                  refine hl_take_np 1 (by kernel_rfl) (by kernel_rfl) rfl (by kernel_rfl) hs0 (v := ?_) ?_ ?_
                  rotate_left
                  · (rintro x hx; have k0 := hx.cell cI; have k1 := hx.cell cB; clear hx; go_simp; try rfl)
                  simp only [Act.put, List.setIfInBounds_toArray, List.set_cons_zero, List.set_cons_succ]
                  refine hl_take_np 2 (by kernel_rfl) (by kernel_rfl) rfl (by kernel_rfl) hs0 (v := ?_) ?_ ?_
                  rotate_left
                  · (rintro x hx; have k0 := hx.cell cI; have k1 := hx.cell cB; clear hx; go_simp; try rfl)
                  simp only [Act.put, List.setIfInBounds_toArray, List.set_cons_zero, List.set_cons_succ]
                  refine hl_take_np 3 (by kernel_rfl) (by kernel_rfl) rfl (by kernel_rfl) hs0 (v := ?_) ?_ ?_
                  rotate_left
                  · (rintro x hx; have k0 := hx.cell cI; have k1 := hx.cell cB; clear hx; go_simp; try rfl)
                  simp only [Act.put, List.setIfInBounds_toArray, List.set_cons_zero, List.set_cons_succ]
                  refine hl_take_np 4 (by kernel_rfl) (by kernel_rfl) rfl (by kernel_rfl) hs0 (v := ?_) ?_ ?_
                  rotate_left
                  · (rintro x hx; have k0 := hx.cell cI; have k1 := hx.cell cB; clear hx; go_simp; try rfl)
                  simp only [Act.put, List.setIfInBounds_toArray, List.set_cons_zero, List.set_cons_succ]
                  refine hl_take_np 5 (by kernel_rfl) (by kernel_rfl) rfl (by kernel_rfl) hs0 (v := ?_) ?_ ?_
                  rotate_left
                  · (rintro x hx; have k0 := hx.cell cI; have k1 := hx.cell cB; clear hx; go_simp; try rfl)
                  simp only [Act.put, List.setIfInBounds_toArray, List.set_cons_zero, List.set_cons_succ]
                  refine hl_take_np 6 (by kernel_rfl) (by kernel_rfl) rfl (by kernel_rfl) hs0 (v := ?_) ?_ ?_
                  rotate_left
                  · (rintro x hx; have k0 := hx.cell cI; have k1 := hx.cell cB; clear hx; go_simp; try rfl)
                  simp only [Act.put, List.setIfInBounds_toArray, List.set_cons_zero, List.set_cons_succ]
                  refine hl_take_np 7 (by kernel_rfl) (by kernel_rfl) rfl (by kernel_rfl) hs0 (v := ?_) ?_ ?_
                  rotate_left
                  · (rintro x hx; have k0 := hx.cell cI; have k1 := hx.cell cB; clear hx; go_simp; try rfl)
                  simp only [Act.put, List.setIfInBounds_toArray, List.set_cons_zero, List.set_cons_succ]
                  refine hl_take_np 8 (by kernel_rfl) (by kernel_rfl) rfl (by kernel_rfl) hs0 (v := ?_) ?_ ?_
                  rotate_left
                  · (rintro x hx; have k0 := hx.cell cI; have k1 := hx.cell cB; clear hx; go_simp; try rfl)
                  simp only [Act.put, List.setIfInBounds_toArray, List.set_cons_zero, List.set_cons_succ]
                  refine hl_done (by kernel_rfl) ?_ _
                  refine NoPanic.normal ?_
                  have HG2 := Lib.hid (HG.out.trans hs0)
                  clear hs0 cI cB
                  go_wp2_with fail
                  go_roundw
                  case rel => exact ⟨B, I + 1, rfl, by go_num, by omega, by omega, by omega, by omega, HM2, HG2⟩
                  case measure => simp [intOf]; omega
              · have HMIN : Hid ((∀ i x, l[i]? = some x → nx.getD B 0 ≤ nx.getD i 0) ∧ (∀ i, i < B → nx.getD B 0 < nx.getD i 0)) := Lib.hid ⟨fun i x hx => HMN.out.1 i (by have := (List.getElem?_eq_some_iff.1 hx).1; have := HM.out; omega) (by have := (List.getElem?_eq_some_iff.1 hx).1; have := HM.out; omega), HMN.out.2⟩
                obtain ⟨bb, o, q, s, hx, rfl, c0, c1⟩ := RdrS.at (HR.out.g (HX.out.2.2.trans HG.out)) HM.out hB
                obtain ⟨h1, h2, h3⟩ := closes_next HL1.out HX.out.2.1 HNE.out hx HMIN.out.1 HMIN.out.2
                obtain ⟨hq, hs1, hs2⟩ := right_at HRL.out hx
                have cN := (HX.out.1.g HG.out).cell (k := B) (by omega)
                obtain ⟨M, hM⟩ : ∃ M, M = nx.getD B 0 := ⟨_, rfl⟩
                rw [← hM] at cN h1 h2 h3
                have HCL : Hid ((L ++ [(M, q)]) ++ closesF M (B + 1) b l = closesD a b l) := Lib.hid (by rw [← HC.out, h1]; simp)
                have HNI2 := Lib.hid h2
                have hM0 := h2.pos
                have HTK : Hid (icells (L ++ [(M, q)]) = icells L ++ [.int .i64 M, .int .i64 q]) := Lib.hid (icells_snoc _ _)
                have hadd2 : IntKind.i64.wrap (M + s) = M + s := IntWalk.i64_in _ ⟨by omega, by omega⟩
                have hbl : bb < w.heap.size := HR.out.lt hl0 (by omega) bb rfl
                have hnbo : ¬ (Value.slice op r oc).ownBlock = some nb := fun e => by
                  obtain ⟨cur, e1⟩ := own_type HOWN.out e
                  have e2 : WA.heap[nb]? = some (.cells (nx.map (fun x => Value.int .i64 x)).toArray 3 (0, 0)) := HX.out.1
                  rw [e2] at e1
                  simp at e1
                have hnz : ¬ (Value.slice op r oc).ownBlock = some bb := fun e => by have := (HOWN.out.lt bb e).1; omega
                have HOW := Lib.hid (HG.out.ownsRow HOWN.out)
                have hBi : (B : Int) < (m : Int) := by omega
                have hB0 : (0 : Int) ≤ (B : Int) := by omega
                have hnbl := (HX.out.1.g HG.out).lt
                clear hx h1 h2 hM hq
                go_upto_region 17 with fail
                refine region_hl (fun w' => w'.cell? ⟨nb, B, none⟩ = some (.int .i64 M) ∧ w'.cell? ⟨bb, o + B * 2, none⟩ = some (.int .i64 q)) 13 14 (by kernel_rfl) rfl ?_
                simp only [List.replicate_succ, List.replicate_zero]
                have hs0 : (fun w' : World => w'.cell? ⟨nb, B, none⟩ = some (.int .i64 M) ∧ w'.cell? ⟨bb, o + B * 2, none⟩ = some (.int .i64 q)) wr.drew := ⟨(G.refl wr).drew.cell cN, (G.refl wr).drew.cell c0⟩
                refine hl_take_np 0 (by kernel_rfl) (by kernel_rfl) rfl (by kernel_rfl) hs0 (v := ?_) ?_ ?_
                rotate_left
                · (rintro x hx; obtain ⟨k0, k1⟩ := hx; go_simp; try rfl)
                simp only [Act.put, List.setIfInBounds_toArray, List.set_cons_zero, List.set_cons_succ]
                refine hl_take_np 1 (by kernel_rfl) (by kernel_rfl) rfl (by kernel_rfl) hs0 (v := ?_) ?_ ?_
                rotate_left
                · (rintro x hx; obtain ⟨k0, k1⟩ := hx; go_simp; try rfl)
                simp only [Act.put, List.setIfInBounds_toArray, List.set_cons_zero, List.set_cons_succ]
                refine hl_take_np 2 (by kernel_rfl) (by kernel_rfl) rfl (by kernel_rfl) hs0 (v := ?_) ?_ ?_
                rotate_left
                · (rintro x hx; obtain ⟨k0, k1⟩ := hx; go_simp; try rfl)
                simp only [Act.put, List.setIfInBounds_toArray, List.set_cons_zero, List.set_cons_succ]
                refine hl_take_np 3 (by kernel_rfl) (by kernel_rfl) rfl (by kernel_rfl) hs0 (v := ?_) ?_ ?_
                rotate_left
                · (rintro x hx; obtain ⟨k0, k1⟩ := hx; go_simp; try rfl)
                simp only [Act.put, List.setIfInBounds_toArray, List.set_cons_zero, List.set_cons_succ]
                refine hl_take_np 4 (by kernel_rfl) (by kernel_rfl) rfl (by kernel_rfl) hs0 (v := ?_) ?_ ?_
                rotate_left
                · (rintro x hx; obtain ⟨k0, k1⟩ := hx; go_simp; try rfl)
                simp only [Act.put, List.setIfInBounds_toArray, List.set_cons_zero, List.set_cons_succ]
                refine hl_take_np 5 (by kernel_rfl) (by kernel_rfl) rfl (by kernel_rfl) hs0 (v := ?_) ?_ ?_
                rotate_left
                · (rintro x hx; obtain ⟨k0, k1⟩ := hx; go_simp; try rfl)
                simp only [Act.put, List.setIfInBounds_toArray, List.set_cons_zero, List.set_cons_succ]
                refine hl_take_np 6 (by kernel_rfl) (by kernel_rfl) rfl (by kernel_rfl) hs0 (v := ?_) ?_ ?_
                rotate_left
                · (rintro x hx; obtain ⟨k0, k1⟩ := hx; go_simp; try rfl)
                simp only [Act.put, List.setIfInBounds_toArray, List.set_cons_zero, List.set_cons_succ]
                refine hl_take_np 7 (by kernel_rfl) (by kernel_rfl) rfl (by kernel_rfl) hs0 (v := ?_) ?_ ?_
                rotate_left
                · (rintro x hx; obtain ⟨k0, k1⟩ := hx; go_simp; try rfl)
                simp only [Act.put, List.setIfInBounds_toArray, List.set_cons_zero, List.set_cons_succ]
                refine hl_take_np 8 (by kernel_rfl) (by kernel_rfl) rfl (by kernel_rfl) hs0 (v := ?_) ?_ ?_
                rotate_left
                · (rintro x hx; obtain ⟨k0, k1⟩ := hx; go_simp; try rfl)
                simp only [Act.put, List.setIfInBounds_toArray, List.set_cons_zero, List.set_cons_succ]
                refine hl_take_np 9 (by kernel_rfl) (by kernel_rfl) rfl (by kernel_rfl) hs0 (v := ?_) ?_ ?_
                rotate_left
                · (rintro x hx; obtain ⟨k0, k1⟩ := hx; go_simp; try rfl)
                simp only [Act.put, List.setIfInBounds_toArray, List.set_cons_zero, List.set_cons_succ]
                refine hl_take_np 10 (by kernel_rfl) (by kernel_rfl) rfl (by kernel_rfl) hs0 (v := ?_) ?_ ?_
                rotate_left
                · (rintro x hx; obtain ⟨k0, k1⟩ := hx; go_simp; try rfl)
                simp only [Act.put, List.setIfInBounds_toArray, List.set_cons_zero, List.set_cons_succ]
                refine hl_step 11 (by kernel_rfl) rfl ?_
                go_wp2_with fail
                show _ ∧ _
                have hA : G wr (wr.alloc (.cells #[.int .i64 M, .int .i64 q] 38)).drew := ((G.refl wr).alloc _).drew
                have q0 := hA.cell cN
                have q1 := hA.cell c0
                have q2 := hA.cell c1
                refine ⟨(by first | exact ⟨q0, q1⟩ | exact fun _ => ⟨q0, q1⟩), ?_⟩
                refine hl_step 12 (by kernel_rfl) rfl ?_
                have hnew : ((wr.alloc (.cells #[.int .i64 M, .int .i64 q] 38)).drew).heap[wr.heap.size]? = some (.cells #[.int .i64 M, .int .i64 q] 38) := alloc_new wr (.cells #[.int .i64 M, .int .i64 q] 38)
                refine wpList_append2 _ rfl _ _ 32 rfl w.heap.size 38 i0 (.agg #[.int .i64 0, .int .i64 0]) 2 16 Try.underlying32 hi hz0 hz1 hz2 rfl (by decide) (.slice op r oc) r (icells L) rfl (hA.ownsRow HOW.out) ⟨wr.heap.size, 0, none⟩ 1 1 [.int .i64 M, .int .i64 q] rfl rfl (World.news_of_block hnew) (by simp [Value.oneCell']) (by unfold maxLen; omega) (by omega) (by simp; omega) ?_
                intro v2 wa hown hgrow hnil hat
                obtain ⟨p2, c2, rfl⟩ := ownsRow_shape hown
                have hfa := grownBy_fr hgrow
                have a0 := hfa.cell (p := ⟨nb, B, none⟩) hnbo q0
                have a0' := hfa.cell (p := ⟨bb, o + B * 2, none⟩) hnz q1
                have a1 := hfa.cell (p := ⟨bb, o + B * 2 + 1, none⟩) hnz q2
                have hgW : G w wr := HX.out.2.2.trans HG.out
                have hgwa : G w wa := ((hgW.trans hA).fr (fun q => w.heap.size ≤ q)).trans (hfa.mono (fun q e => (HOWN.out.lt q e).1)) (fun _ _ h => h) |>.g (fun _ h => h)
                have hnxa : NX wa nb nx := (HX.out.1.g (HG.out.trans hA)).fr hfa hnbo
                have hnb2 : ¬ (Value.slice p2 (r + 1) c2).ownBlock = some nb := fun e => by
                  obtain ⟨cur, e1⟩ := own_type hown e
                  have e2 : wa.heap[nb]? = some (.cells (nx.map (fun x => Value.int .i64 x)).toArray 3 (0, 0)) := hnxa
                  rw [e2] at e1
                  simp at e1
                have HO2 : Hid (wa.ownsRow w.heap.size 38 2 (.slice p2 (r + 1) c2) (r + 1) (icells (L ++ [(M, q)])) ∧ NX wa nb nx ∧ G w wa ∧ ¬ (Value.slice p2 (r + 1) c2).ownBlock = some nb) := Lib.hid ⟨by rw [HTK.out]; exact hown, hnxa, hgwa, hnb2⟩
                clear hown hgrow hnil hat hfa hnew q0 q1 q2 hA hs0 cN c0 c1 hgW hgwa hnxa hnb2
                show _ ∧ _
                refine ⟨(by first | exact ⟨a0, a0'⟩ | exact fun _ => ⟨a0, a0'⟩), ?_⟩
                refine hl_step 13 (by kernel_rfl) rfl ?_
                go_wp2_with fail
                show _ ∧ _
                refine ⟨(by first | exact fun h => absurd rfl h | trivial), ?_⟩
                refine hl_done (by kernel_rfl) ?_ _
                refine NoPanic.normal ?_
                have aN := a0
                clear a0 a0'
                go_upto_region 18 with fail
                refine region_hl (fun w' => G wa w') 13 14 (by kernel_rfl) rfl ?_
                simp only [List.replicate_succ, List.replicate_zero]
                have hs0 : (fun w' : World => G wa w') wa.drew := (G.refl wa).drew
                refine hl_take_np 0 (by kernel_rfl) (by kernel_rfl) rfl (by kernel_rfl) hs0 (v := ?_) ?_ ?_
                rotate_left
                · (rintro x hx; have k0 := hx.cell aN; have k1 := hx.cell a1; clear hx; go_simp; try rfl)
                simp only [Act.put, List.setIfInBounds_toArray, List.set_cons_zero, List.set_cons_succ]
                refine hl_take_np 1 (by kernel_rfl) (by kernel_rfl) rfl (by kernel_rfl) hs0 (v := ?_) ?_ ?_
                rotate_left
                · (rintro x hx; have k0 := hx.cell aN; have k1 := hx.cell a1; clear hx; go_simp; try rfl)
                simp only [Act.put, List.setIfInBounds_toArray, List.set_cons_zero, List.set_cons_succ]
                refine hl_take_np 2 (by kernel_rfl) (by kernel_rfl) rfl (by kernel_rfl) hs0 (v := ?_) ?_ ?_
                rotate_left
                · (rintro x hx; have k0 := hx.cell aN; have k1 := hx.cell a1; clear hx; go_simp; try rfl)
                simp only [Act.put, List.setIfInBounds_toArray, List.set_cons_zero, List.set_cons_succ]
                refine hl_take_np 3 (by kernel_rfl) (by kernel_rfl) rfl (by kernel_rfl) hs0 (v := ?_) ?_ ?_
                rotate_left
                · (rintro x hx; have k0 := hx.cell aN; have k1 := hx.cell a1; clear hx; go_simp; try rfl)
                simp only [Act.put, List.setIfInBounds_toArray, List.set_cons_zero, List.set_cons_succ]
                refine hl_take_np 4 (by kernel_rfl) (by kernel_rfl) rfl (by kernel_rfl) hs0 (v := ?_) ?_ ?_
                rotate_left
                · (rintro x hx; have k0 := hx.cell aN; have k1 := hx.cell a1; clear hx; go_simp; try rfl)
                simp only [Act.put, List.setIfInBounds_toArray, List.set_cons_zero, List.set_cons_succ]
                refine hl_take_np 5 (by kernel_rfl) (by kernel_rfl) rfl (by kernel_rfl) hs0 (v := ?_) ?_ ?_
                rotate_left
                · (rintro x hx; have k0 := hx.cell aN; have k1 := hx.cell a1; clear hx; go_simp; try rfl)
                simp only [Act.put, List.setIfInBounds_toArray, List.set_cons_zero, List.set_cons_succ]
                refine hl_take_np 6 (by kernel_rfl) (by kernel_rfl) rfl (by kernel_rfl) hs0 (v := ?_) ?_ ?_
                rotate_left
                · (rintro x hx; have k0 := hx.cell aN; have k1 := hx.cell a1; clear hx; go_simp; try rfl)
                simp only [Act.put, List.setIfInBounds_toArray, List.set_cons_zero, List.set_cons_succ]
                refine hl_take_np 7 (by kernel_rfl) (by kernel_rfl) rfl (by kernel_rfl) hs0 (v := ?_) ?_ ?_
                rotate_left
                · (rintro x hx; have k0 := hx.cell aN; have k1 := hx.cell a1; clear hx; go_simp; try rfl)
                simp only [Act.put, List.setIfInBounds_toArray, List.set_cons_zero, List.set_cons_succ]
                refine hl_take_np 8 (by kernel_rfl) (by kernel_rfl) rfl (by kernel_rfl) hs0 (v := ?_) ?_ ?_
                rotate_left
                · (rintro x hx; have k0 := hx.cell aN; have k1 := hx.cell a1; clear hx; go_simp; try rfl)
                simp only [Act.put, List.setIfInBounds_toArray, List.set_cons_zero, List.set_cons_succ]
                refine hl_take_np 9 (by kernel_rfl) (by kernel_rfl) rfl (by kernel_rfl) hs0 (v := ?_) ?_ ?_
                rotate_left
                · (rintro x hx; have k0 := hx.cell aN; have k1 := hx.cell a1; clear hx; go_simp; try rfl)
                simp only [Act.put, List.setIfInBounds_toArray, List.set_cons_zero, List.set_cons_succ]
                refine hl_take_np 10 (by kernel_rfl) (by kernel_rfl) rfl (by kernel_rfl) hs0 (v := ?_) ?_ ?_
                rotate_left
                · (rintro x hx; have k0 := hx.cell aN; have k1 := hx.cell a1; clear hx; go_simp; try rfl)
                simp only [Act.put, List.setIfInBounds_toArray, List.set_cons_zero, List.set_cons_succ]
                refine hl_take_np 11 (by kernel_rfl) (by kernel_rfl) rfl (by kernel_rfl) hs0 (v := ?_) ?_ ?_
                rotate_left
                · (rintro x hx; have k0 := hx.cell aN; have k1 := hx.cell a1; clear hx; go_simp; try rfl)
                simp only [Act.put, List.setIfInBounds_toArray, List.set_cons_zero, List.set_cons_succ]
                refine hl_take_np 12 (by kernel_rfl) (by kernel_rfl) rfl (by kernel_rfl) hs0 (v := ?_) ?_ ?_
                rotate_left
                · (rintro x hx; have k0 := hx.cell aN; have k1 := hx.cell a1; clear hx; go_simp; try rfl)
                simp only [Act.put, List.setIfInBounds_toArray, List.set_cons_zero, List.set_cons_succ]
                have cn1 := hs0.cell aN
                have fn1 : wa.drew.frozen? ⟨nb, B, none⟩ = false := (hs0.frozen (p := ⟨nb, B, none⟩) HO2.out.2.1.lt).trans HO2.out.2.1.frozen
                refine hl_step 13 (by kernel_rfl) rfl ?_
                go_wp2_with fail
                show _ ∧ _
                refine ⟨(by first | exact fun h => absurd rfl h | trivial), ?_⟩
                refine NoPanic.normal ?_
                have HEND : Hid ((wa.drew.setCell ⟨nb, B, none⟩ (.int .i64 (M + s))).ownsRow w.heap.size 38 2 (.slice p2 (r + 1) c2) (r + 1) (icells (L ++ [(M, q)])) ∧ NX (wa.drew.setCell ⟨nb, B, none⟩ (.int .i64 (M + s))) nb (nx.set B (M + s)) ∧ G w (wa.drew.setCell ⟨nb, B, none⟩ (.int .i64 (M + s)))) := Lib.hid (by
                  obtain ⟨g1, g2, g3, g4⟩ := HO2.out
                  have hset : Fr (fun q => q = nb) wa.drew (wa.drew.setCell ⟨nb, B, none⟩ (.int .i64 (M + s))) := (Fr.refl (fun q => q = nb) wa.drew).setCell (p := ⟨nb, B, none⟩) (.inl rfl) _
                  exact ⟨hset.ownsRow (hs0.ownsRow g1) (fun g hg e => by rw [e] at hg; exact g4 hg), (g2.g hs0).set B (M + s), (g3.trans hs0).setCell (by exact hnbw) _⟩)
                have HRL3 : Hid (r + 1 = (L ++ [(M, q)]).length) := Lib.hid (by rw [List.length_append, ← HRL2.out]; rfl)
                clear cn1 fn1 aN a1 hs0
                go_wp2_with fail
                go_roundg (N - (r + 1))
                case rel => exact ⟨M, B + 1, nx.set B (M + s), L ++ [(M, q)], r + 1, by omega, rfl, HRL3.out, HEND.out.1, Lib.hid ⟨HEND.out.2.1, HNI2.out, HEND.out.2.2⟩, HCL⟩
                all_goals omega
          · have hrN2 : r = N := by omega
            have hLe : L = closesD a b l := by
              obtain ⟨z, hz⟩ : L <+: closesD a b l := ⟨_, HC.out⟩
              have h2 := congrArg List.length hz
              rw [List.length_append] at h2
              have h3 := HN.out
              have h4 := HRL2.out
              have hzl : z = [] := List.length_eq_zero_iff.1 (by omega)
              rw [hzl, List.append_nil] at hz
              exact hz
            have HF : Hid (wr.ownsRow w.heap.size 38 2 (.slice op r oc) (closesW a b l).length (icells (closesW a b l)) ∧ G w wr) := Lib.hid (by
              rw [HCW.out, ← hLe, ← HRL2.out]
              exact ⟨HOWN.out, HX.out.2.2⟩)
            clear hrN2 hLe
            go_wp2_with fail
            go_ret
            exact ⟨_, rfl, HF.out.1, HF.out.2⟩
  · have hcw : closesW a b l = [] := by unfold closesW; rw [HCV.out, if_neg he]
    have hed : decide (e = 0) = false := by simpa using he
    have HF : Hid (w1.ownsRow w.heap.size 38 2 (.slice none 0 0) (closesW a b l).length (icells (closesW a b l)) ∧ G w w1) := Lib.hid (by
      rw [hcw]
      exact ⟨World.ownsRow_nil _ _ _ _, hg1⟩)
    clear hcw hg1 hmk
    go_wp2_with fail
    go_ret
    exact ⟨_, rfl, HF.out.1, HF.out.2⟩
end Go.Proofs.Ythhmmjpgefinmaa
