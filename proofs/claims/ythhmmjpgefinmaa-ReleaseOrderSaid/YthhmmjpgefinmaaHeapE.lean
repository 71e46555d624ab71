/- laid together: HeapE -/
import Derived.Test.YthhmmjpgefinmaaHeapD
import Derived.Lib.SliceRun
/- the first one; one is taken; a copy -/
namespace Go.Proofs.Ythhmmjpgefinmaa
set_option linter.unusedVariables false
set_option linter.unusedSimpArgs false
open Go.RowKit Go.Shelf
attribute [local go_sem] Oper.semAt_some

theorem len_any (S : Nat → Prop) (B : Nat) (v : Value) (hs : List Item) (w : World) (h : HeapAt S w B v hs) : Calls Try.prog 91 #[.pointer (some ⟨B, 0, none⟩)] w fun e w' => e = .returned (.int .i64 hs.length) ∧ w = w' := by
  obtain ⟨p, c, hv⟩ := ownsRow_shape h.own
  subst hv
  obtain ⟨cb0, cb1, -, -⟩ := box2 h.box
  have HM := Lib.hid (made_any cb1)
  clear h
  go_enter Try.func91, Try.ntmps91
  go_wp2_with fail
  refine HM.out.mono ?_
  rintro e w' ⟨rfl, rfl⟩
  go_wp2_with fail
  go_ret
  exact ⟨rfl, rfl⟩
theorem set2 {W : World} {b : Nat} {p q x y : Value} {t : TypeId} (h : W.heap[b]? = some (.cells #[p, q] t (0, 0))) : ((W.setCell ⟨b, 0, none⟩ x).setCell ⟨b, 1, none⟩ y).heap[b]? = some (.cells #[x, y] t (0, 0)) := by
  have := heap_setCell_at (W.setCell ⟨b, 0, none⟩ x) b 1 y _ t _ (heap_setCell_at W b 0 x _ t _ h)
  simpa using this
def isB (hs : List Item) : Bool := !hs.isEmpty
theorem first_any (S : Nat → Prop) (B : Nat) (v : Value) (hs : List Item) (w : World) (h : HeapAt S w B v hs) : Calls Try.prog 84 #[.pointer (some ⟨B, 0, none⟩)] w fun e w' => e = .returned (.tuple #[iv (at' hs 0), .bool (isB hs)]) ∧ G w w' := by
  have HL := Lib.hid (len_any S B v hs (w.alloc (.cells #[.int .i64 0, .int .i64 0] 94)) (h.g ((G.refl w).alloc _)))
  have hBl := h.lt B h.inB
  cases hs with
  | nil =>
    clear h
    go_enter Try.func84, Try.ntmps84
    go_wp2_with fail
    refine HL.out.mono ?_
    rintro e w' ⟨rfl, rfl⟩
    go_wp2_with fail
    refine bodyPost_ret (v := .tuple #[.agg #[.int .i64 0, .int .i64 0], .bool false]) ?_ rfl ⟨rfl, (G.refl w).alloc _⟩
    have c0 := cell_alloc_at w [.int .i64 0, .int .i64 0] 94 (0, 0) 0 _ rfl
    have c1 := cell_alloc_at w [.int .i64 0, .int .i64 0] 94 (0, 0) 1 _ rfl
    simp only [Nat.zero_add] at c0 c1
    simp [results, Try.results84, go_sem, c0, c1]
  | cons x hs =>
    obtain ⟨p, c, hv⟩ := ownsRow_shape h.own
    subst hv
    obtain ⟨g, hp, d0, d1⟩ := own_at h.own (k := 0) (by simp)
    subst hp
    obtain ⟨cb0, cb1, -, -⟩ := box2 h.box
    have hgl := h.lt g (h.inV g rfl).1
    obtain ⟨x0, x1⟩ := x
    simp only [at', List.getD_cons_zero, Nat.zero_mul, Nat.zero_add] at d0 d1
    have hg1 : G w (w.alloc (.cells #[.int .i64 0, .int .i64 0] 94)) := (G.refl w).alloc _
    have hz0 : (((hs.length : Int) + 1) == 0) = false := by simp; omega
    have hz1 : (0 : Int) < (hs.length : Int) + 1 := by omega
    simp only [List.length_cons] at cb0 HL
    clear h
    go_enter Try.func84, Try.ntmps84
    go_wp2_with fail
    refine HL.out.mono ?_
    rintro e w' ⟨rfl, rfl⟩
    go_wp2_with fail
    refine bodyPost_ret (v := .tuple #[.agg #[.int .i64 x0, .int .i64 x1], .bool true]) ?_ rfl ⟨rfl, (G.refl w).alloc _⟩
    have c0 := cell_alloc_at w [.int .i64 x0, .int .i64 x1] 94 (0, 0) 0 _ rfl
    have c1 := cell_alloc_at w [.int .i64 x0, .int .i64 x1] 94 (0, 0) 1 _ rfl
    simp only [Nat.zero_add] at c0 c1
    simp [results, Try.results84, go_sem, c0, c1]
/-- the first one taken out -/
def popL (hs : List Item) : List Item := if hs = [] then [] else sink ((hs.set 0 (at' hs (hs.length - 1))).take (hs.length - 1)) 0
set_option maxHeartbeats 1000000 in
theorem pop_any (S : Nat → Prop) (B : Nat) (v : Value) (hs : List Item) (w : World) (h : HeapAt S w B v hs) (hn : hs.length ≤ 1000000) :
    Calls Try.prog 85 #[.pointer (some ⟨B, 0, none⟩)] w fun e w' => e = .returned (.tuple #[iv (at' hs 0), .bool (isB hs)]) ∧ ∃ v', HeapAt S w' B v' (popL hs) ∧ Fr S w w' := by
  have HF := Lib.hid (first_any S B v hs (w.alloc (.cells #[.int .i64 0, .int .i64 0] 94)) (h.g ((G.refl w).alloc _)))
  have HAT := Lib.hid h
  have hw1 : G w (w.alloc (.cells #[.int .i64 0, .int .i64 0] 94)) := (G.refl w).alloc _
  have hc0 := cell_alloc_at w [.int .i64 0, .int .i64 0] 94 (0, 0) 0 _ rfl
  by_cases hemp : hs = []
  · subst hemp
    have hb := alloc_new w (.cells #[.int .i64 0, .int .i64 0] 94)
    simp only [isB, List.isEmpty_nil, Bool.not_true, at', List.getD_nil, iv] at HF ⊢
    clear h hc0
    go_enter Try.func85, Try.ntmps85
    go_wp2_with fail
    refine HF.out.mono ?_
    rintro e w2 ⟨rfl, hg2⟩
    have hgw := hw1.trans hg2
    have hb2 := (hg2.block (k := w.heap.size) (by simp)).trans hb
    have hl2 : w.heap.size < w2.heap.size := by have := hg2.size; simp at this; omega
    obtain ⟨c0, c1, f0, f1⟩ := box2 hb2
    clear hb hw1 hg2
    go_wp2_with fail
    have hfin : G w (((w2.setCell ⟨w.heap.size, 0, none⟩ (.int .i64 0)).setCell ⟨w.heap.size, 1, none⟩ (.int .i64 0)).alloc (.cells #[.int .i64 0, .int .i64 0] 94)) := ((hgw.setCell (by simp) _).setCell (by simp) _).alloc _
    refine bodyPost_ret (v := .tuple #[.agg #[.int .i64 0, .int .i64 0], .bool false]) ?_ rfl ⟨rfl, v, by unfold popL; rw [if_pos rfl]; exact HAT.out.g hfin, hfin.fr _⟩
    have q := (((G.refl ((w2.setCell ⟨w.heap.size, 0, none⟩ (.int .i64 0)).setCell ⟨w.heap.size, 1, none⟩ (.int .i64 0))).alloc (.cells #[.int .i64 0, .int .i64 0] 94)).block (by simpa using hl2)).trans (set2 (x := .int .i64 0) (y := .int .i64 0) hb2)
    obtain ⟨q0, q1, -, -⟩ := box2 q
    simp [results, Try.results85, go_sem, q0, q1]
  · obtain ⟨n, hnn⟩ : ∃ n, n + 1 = hs.length := ⟨hs.length - 1, by have := List.length_pos_iff.2 hemp; omega⟩
    have his : isB hs = true := by unfold isB; cases hs with | nil => exact absurd rfl hemp | cons a l => rfl
    rw [his] at HF ⊢
    obtain ⟨p, c, hv⟩ := ownsRow_shape h.own
    subst hv
    obtain ⟨g, hp, d0, d1⟩ := own_at h.own (k := 0) (by omega)
    subst hp
    obtain ⟨g', hp, e0, e1⟩ := own_at h.own (k := n) (by omega)
    cases hp
    obtain ⟨cb0, cb1, fb0, -⟩ := box2 h.box
    have fg0 : w.frozen? ⟨g, 0, none⟩ = false := hown_froz h.own
    have fg1 : w.frozen? ⟨g, 1, none⟩ = false := hown_froz h.own
    have hgl := h.lt g (h.inV g rfl).1
    have hBl := h.lt B h.inB
    have hgB := (h.inV g rfl).2
    have hBg : B ≠ g := Ne.symm hgB
    rw [← hnn] at cb0
    have hcap : n + 1 ≤ c := by
      rcases h.own.2 with ⟨h, -⟩ | ⟨g', cap, cur, he, _, _, hc, _⟩
      · cases h
      · cases he; omega
    have HNN := Lib.hid hnn
    have hn6 : n ≤ 1000000 := by omega
    have hn7 : (n : Int) < (n : Int) + 1 := by omega
    generalize hx0 : at' hs 0 = x at HF d0 d1 ⊢
    generalize hxl : at' hs n = xl at e0 e1
    have HXL := Lib.hid hxl
    have hb := alloc_new w (.cells #[.int .i64 0, .int .i64 0] 94)
    clear hx0 hxl h his
    obtain ⟨x0, x1⟩ := x
    obtain ⟨l0, l1⟩ := xl
    simp only [iv, Nat.zero_mul, Nat.zero_add] at HF d0 d1 e0 e1 ⊢
    clear hc0 cb1 hnn hemp
    go_enter Try.func85, Try.ntmps85
    go_wp2_with fail
    refine HF.out.mono ?_
    rintro e w2 ⟨rfl, hg2⟩
    have hgw := hw1.trans hg2
    have hb2 := (hg2.block (k := w.heap.size) (by simp)).trans hb
    have hl2 : w.heap.size < w2.heap.size := by have := hg2.size; simp at this; omega
    have hw3 : G w (w2.alloc (.cells #[.int .i64 x0, .int .i64 x1] 94)) := hgw.alloc _
    have cb0 := hw3.cell cb0
    have e0 := hw3.cell e0
    have e1 := hw3.cell e1
    have fg0 := (hw3.frozen (p := ⟨g, 0, none⟩) hgl).trans fg0
    have fg1 := (hw3.frozen (p := ⟨g, 1, none⟩) hgl).trans fg1
    have fb0 := (hw3.frozen (p := ⟨B, 0, none⟩) hBl).trans fb0
    have hn1 : ((n : Int) + 1 - 1) = (n : Int) := by omega
    have d0 := hw3.cell d0
    have d1 := hw3.cell d1
    clear hb hw1 hg2
    go_upto_region 4 with fail
    have hW3 : Hid (HeapAt S (w2.alloc (.cells #[.int .i64 x0, .int .i64 x1] 94)) B (.slice (some ⟨g, 0, none⟩) hs.length c) hs) := Lib.hid (HAT.out.g hw3)
    have hX3 := Lib.hid (alloc_new w2 (.cells #[.int .i64 x0, .int .i64 x1] 94))
    have hR3 := Lib.hid (((G.refl w2).alloc (.cells #[.int .i64 x0, .int .i64 x1] 94)).block hl2 |>.trans hb2)
    have hz3 : (w2.alloc (.cells #[.int .i64 x0, .int .i64 x1] 94)).heap.size = w2.heap.size + 1 := by simp
    have hz4 := Nat.le_of_eq hz3.symm
    clear hb2 hgw hz3
    generalize (w2.alloc (.cells #[.int .i64 x0, .int .i64 x1] 94)) = W3 at *
    obtain ⟨X, hX⟩ : ∃ X, X = w2.heap.size := ⟨_, rfl⟩
    rw [← hX] at hX3 hz4 hl2 ⊢
    clear hX
    refine region_hl (fun w' => G W3 w') 12 13 (by kernel_rfl) rfl ?_
    simp only [List.replicate_succ, List.replicate_zero]
    have hs0 : (fun w' => G W3 w') W3.drew := (G.refl W3).drew
    refine hl_take_np 0 (by kernel_rfl) (by kernel_rfl) rfl (by kernel_rfl) hs0 (v := ?_) ?_ ?_
    rotate_left
    · (rintro x hx; have k0 := hx.cell cb0; have k1 := hx.cell e0; have k2 := hx.cell e1; clear hx; go_simp; try rfl)
    simp only [Act.put, List.setIfInBounds_toArray, List.set_cons_zero, List.set_cons_succ]
    refine hl_take_np 1 (by kernel_rfl) (by kernel_rfl) rfl (by kernel_rfl) hs0 (v := ?_) ?_ ?_
    rotate_left
    · (rintro x hx; have k0 := hx.cell cb0; have k1 := hx.cell e0; have k2 := hx.cell e1; clear hx; go_simp; try rfl)
    simp only [Act.put, List.setIfInBounds_toArray, List.set_cons_zero, List.set_cons_succ]
    refine hl_take_np 2 (by kernel_rfl) (by kernel_rfl) rfl (by kernel_rfl) hs0 (v := ?_) ?_ ?_
    rotate_left
    · (rintro x hx; have k0 := hx.cell cb0; have k1 := hx.cell e0; have k2 := hx.cell e1; clear hx; go_simp; try rfl)
    simp only [Act.put, List.setIfInBounds_toArray, List.set_cons_zero, List.set_cons_succ]
    refine hl_take_np 3 (by kernel_rfl) (by kernel_rfl) rfl (by kernel_rfl) hs0 (v := ?_) ?_ ?_
    rotate_left
    · (rintro x hx; have k0 := hx.cell cb0; have k1 := hx.cell e0; have k2 := hx.cell e1; clear hx; go_simp; try rfl)
    simp only [Act.put, List.setIfInBounds_toArray, List.set_cons_zero, List.set_cons_succ]
    refine hl_take_np 4 (by kernel_rfl) (by kernel_rfl) rfl (by kernel_rfl) hs0 (v := ?_) ?_ ?_
    rotate_left
    · (rintro x hx; have k0 := hx.cell cb0; have k1 := hx.cell e0; have k2 := hx.cell e1; clear hx; go_simp; try rfl)
    simp only [Act.put, List.setIfInBounds_toArray, List.set_cons_zero, List.set_cons_succ]
    refine hl_take_np 5 (by kernel_rfl) (by kernel_rfl) rfl (by kernel_rfl) hs0 (v := ?_) ?_ ?_
    rotate_left
    · (rintro x hx; have k0 := hx.cell cb0; have k1 := hx.cell e0; have k2 := hx.cell e1; clear hx; go_simp; try rfl)
    simp only [Act.put, List.setIfInBounds_toArray, List.set_cons_zero, List.set_cons_succ]
    refine hl_take_np 6 (by kernel_rfl) (by kernel_rfl) rfl (by kernel_rfl) hs0 (v := ?_) ?_ ?_
    rotate_left
    · (rintro x hx; have k0 := hx.cell cb0; have k1 := hx.cell e0; have k2 := hx.cell e1; clear hx; go_simp; try rfl)
    simp only [Act.put, List.setIfInBounds_toArray, List.set_cons_zero, List.set_cons_succ]
    refine hl_take_np 7 (by kernel_rfl) (by kernel_rfl) rfl (by kernel_rfl) hs0 (v := ?_) ?_ ?_
    rotate_left
    · (rintro x hx; have k0 := hx.cell cb0; have k1 := hx.cell e0; have k2 := hx.cell e1; clear hx; go_simp; try rfl)
    simp only [Act.put, List.setIfInBounds_toArray, List.set_cons_zero, List.set_cons_succ]
    refine hl_take_np 8 (by kernel_rfl) (by kernel_rfl) rfl (by kernel_rfl) hs0 (v := ?_) ?_ ?_
    rotate_left
    · (rintro x hx; have k0 := hx.cell cb0; have k1 := hx.cell e0; have k2 := hx.cell e1; clear hx; go_simp; try rfl)
    simp only [Act.put, List.setIfInBounds_toArray, List.set_cons_zero, List.set_cons_succ]
    refine hl_take_np 9 (by kernel_rfl) (by kernel_rfl) rfl (by kernel_rfl) hs0 (v := ?_) ?_ ?_
    rotate_left
    · (rintro x hx; have k0 := hx.cell cb0; have k1 := hx.cell e0; have k2 := hx.cell e1; clear hx; go_simp; try rfl)
    simp only [Act.put, List.setIfInBounds_toArray, List.set_cons_zero, List.set_cons_succ]
    refine hl_take_np 10 (by kernel_rfl) (by kernel_rfl) rfl (by kernel_rfl) hs0 (v := ?_) ?_ ?_
    rotate_left
    · (rintro x hx; have k0 := hx.cell cb0; have k1 := hx.cell e0; have k2 := hx.cell e1; clear hx; go_simp; try rfl)
    simp only [Act.put, List.setIfInBounds_toArray, List.set_cons_zero, List.set_cons_succ]
    refine hl_take_np 11 (by kernel_rfl) (by kernel_rfl) rfl (by kernel_rfl) hs0 (v := ?_) ?_ ?_
    rotate_left
    · (rintro x hx; have k0 := hx.cell cb0; have k1 := hx.cell e0; have k2 := hx.cell e1; clear hx; go_simp; try rfl)
    simp only [Act.put, List.setIfInBounds_toArray, List.set_cons_zero, List.set_cons_succ]
    refine hl_step 12 (by kernel_rfl) rfl ?_
    go_wp2_with fail
    show _ ∧ _
    refine ⟨(by first | exact fun h => absurd rfl h | trivial), ?_⟩
    refine NoPanic.normal ?_
    go_wp2_with fail
    have hkl : ((hs.set 0 (l0, l1)).take n).length = n := by rw [List.length_take, List.length_set, ← HNN.out]; omega
    have hst : Fr S W3 ((((W3.setCell ⟨g, 0, none⟩ (.int .i64 l0)).setCell ⟨g, 1, none⟩ (.int .i64 l1)).setCell ⟨B, 0, none⟩ (.slice (some ⟨g, 0, none⟩) n c)).drew) := ((((Fr.refl S W3).setCell (p := ⟨g, 0, none⟩) (.inl (hW3.out.inV g rfl).1) _).setCell (p := ⟨g, 1, none⟩) (.inl (hW3.out.inV g rfl).1) _).setCell (p := ⟨B, 0, none⟩) (.inl hW3.out.inB) _).drew
    have hat4 : HeapAt S ((((W3.setCell ⟨g, 0, none⟩ (.int .i64 l0)).setCell ⟨g, 1, none⟩ (.int .i64 l1)).setCell ⟨B, 0, none⟩ (.slice (some ⟨g, 0, none⟩) n c)).drew) B (.slice (some ⟨g, 0, none⟩) n c) ((hs.set 0 (l0, l1)).take n) := by
      refine ⟨?_, ?_, hW3.out.inB, fun q hq => hW3.out.inV q hq, fun k hk => Nat.lt_of_lt_of_le (hW3.out.lt k hk) hst.size⟩
      · have hb := hW3.out.box
        rw [← Below.heap_setCell W3 ⟨g, 0, none⟩ (.int .i64 l0) B hBg, ← Below.heap_setCell _ ⟨g, 1, none⟩ (.int .i64 l1) B hBg] at hb
        exact heap_setCell_at _ B 0 (.slice (some ⟨g, 0, none⟩) n c) _ _ _ hb
      · rw [hkl, ← icells_take, icells_set]
        have h1 := hown_set (j := 1) (.int .i64 l1) (hown_set (j := 0) (.int .i64 l0) (show W3.ownsRow 0 94 2 (.slice (some ⟨g, 0, none⟩) hs.length c) hs.length (icells hs) from hW3.out.own))
        have h2 := own_take h1 (n' := n) (by have := HNN.out; omega)
        exact ((Fr.refl (fun q => q = B) _).setCell (p := ⟨B, 0, none⟩) (.inl rfl) _).drew.ownsRow h2 (fun q hq e => hgB ((Option.some.inj hq).trans e))
    have HSK := Lib.hid (sink_any S B _ _ _ hat4 (by omega))
    have hpop : popL hs = sink ((hs.set 0 (l0, l1)).take n) 0 := by
      unfold popL
      rw [if_neg (by intro e; have := HNN.out; rw [e] at this; simp at this), ← HNN.out, Nat.add_sub_cancel, HXL.out]
    have HPOP := Lib.hid hpop
    have HX4 := Lib.hid ((hst.block X (by omega) (fun h => by have := HAT.out.lt X h; omega)).trans hX3.out)
    have HR4 := Lib.hid ((hst.block w.heap.size (by omega) (fun h => by have := HAT.out.lt _ h; omega)).trans hR3.out)
    have hsz4 := hst.size
    have HF4 := Lib.hid ((hw3.fr S).trans hst (fun _ _ h => h))
    clear hat4 hst hpop hkl cb0 e0 e1 d0 d1 fg0 fg1 fb0 hs0
    generalize ((((W3.setCell ⟨g, 0, none⟩ (.int .i64 l0)).setCell ⟨g, 1, none⟩ (.int .i64 l1)).setCell ⟨B, 0, none⟩ (.slice (some ⟨g, 0, none⟩) n c)).drew) = W4 at *
    refine HSK.out.mono ?_
    rintro e w5 ⟨⟨uu, rfl⟩, hat5, hf5⟩
    have HAT5 := Lib.hid hat5
    have HF5 := Lib.hid (HF4.out.trans hf5 (fun _ _ h => h))
    obtain ⟨cx0, cx1, -, -⟩ := box2 ((hf5.block X (by omega) (fun h => by have := HAT.out.lt X h; omega)).trans HX4.out)
    have hbr := (hf5.block w.heap.size (by omega) (fun h => by have := HAT.out.lt _ h; omega)).trans HR4.out
    obtain ⟨cr0, cr1, fr0, fr1⟩ := box2 hbr
    clear hat5 hf5
    go_wp2_with fail
    have hfin : Fr (fun q => q = w.heap.size) w5 ((w5.setCell ⟨w.heap.size, 0, none⟩ (.int .i64 x0)).setCell ⟨w.heap.size, 1, none⟩ (.int .i64 x1)) := ((Fr.refl (fun q => q = w.heap.size) w5).setCell (p := ⟨w.heap.size, 0, none⟩) (.inl rfl) _).setCell (p := ⟨w.heap.size, 1, none⟩) (.inl rfl) _
    refine bodyPost_ret (v := .tuple #[.agg #[.int .i64 x0, .int .i64 x1], .bool true]) ?_ rfl ⟨rfl, .slice (some ⟨g, 0, none⟩) n c, by rw [HPOP.out]; exact HAT5.out.fr hfin (fun k hk e => by have := HAT.out.lt k hk; omega), HF5.out.trans hfin (fun i hi e => by omega)⟩
    obtain ⟨q0, q1, -, -⟩ := box2 (set2 (x := .int .i64 x0) (y := .int .i64 x1) hbr)
    simp [results, Try.results85, go_sem, q0, q1]
end Go.Proofs.Ythhmmjpgefinmaa
