/- laid together: HeapB -/
import Derived.Test.YthhmmjpgefinmaaHeapA
/- a heap in memory; an item rises -/
namespace Go.Proofs.Ythhmmjpgefinmaa
set_option linter.unusedVariables false
set_option linter.unusedSimpArgs false
open Go.RowKit Go.Shelf
attribute [local go_sem] Oper.semAt_some

def icells : List Item → List Value
  | [] => []
  | x :: l => .int .i64 x.1 :: .int .i64 x.2 :: icells l
theorem icells_len : ∀ l : List Item, (icells l).length = l.length * 2
  | [] => rfl
  | x :: l => by simp only [icells, List.length_cons, icells_len l]; omega
theorem icells_get : ∀ {l : List Item} {k : Nat} {x : Item}, l[k]? = some x → (icells l)[k * 2]? = some (.int .i64 x.1) ∧ (icells l)[k * 2 + 1]? = some (.int .i64 x.2)
  | y :: l, 0, x, h => by cases h; exact ⟨rfl, rfl⟩
  | y :: l, k + 1, x, h => by
    obtain ⟨a, b⟩ := icells_get (l := l) (k := k) (x := x) (by simpa using h)
    rw [show (k + 1) * 2 = k * 2 + 2 by omega]
    exact ⟨by simpa [icells] using a, by simpa [icells] using b⟩
theorem icells_app : ∀ l m : List Item, icells (l ++ m) = icells l ++ icells m
  | [], m => rfl
  | x :: l, m => by simp only [icells, List.cons_append, icells_app l m]
theorem icells_set : ∀ (l : List Item) (k : Nat) (x : Item), icells (l.set k x) = ((icells l).set (k * 2) (.int .i64 x.1)).set (k * 2 + 1) (.int .i64 x.2)
  | [], k, x => by simp [icells]
  | y :: l, 0, x => by simp [icells]
  | y :: l, k + 1, x => by
    rw [show (k + 1) * 2 = k * 2 + 2 by omega, show k * 2 + 2 + 1 = (k * 2 + 1) + 2 by omega]
    simp only [List.set_cons_succ, icells, icells_set l k x]
theorem icells_take : ∀ (l : List Item) (n : Nat), (icells l).take (n * 2) = icells (l.take n)
  | [], n => by simp [icells]
  | y :: l, 0 => by simp [icells]
  | y :: l, n + 1 => by
    rw [show (n + 1) * 2 = n * 2 + 2 by omega]
    simp only [icells, List.take_succ_cons, icells_take l n]
theorem icells_one : ∀ (l : List Item), ∀ u ∈ icells l, u.oneCell' = true
  | [], u, h => by cases h
  | x :: l, u, h => by
    simp only [icells, List.mem_cons] at h
    rcases h with rfl | rfl | h
    · rfl
    · rfl
    · exact icells_one l u h
theorem hown_set {W : World} {base g n c size j : Nat} {e : TypeId} {xs : List Value} (u : Value) (h : W.ownsRow base e size (.slice (some ⟨g, 0, none⟩) n c) n xs) : (W.setCell ⟨g, j, none⟩ u).ownsRow base e size (.slice (some ⟨g, 0, none⟩) n c) n (xs.set j u) := by
  obtain ⟨h1, h2⟩ := h
  refine ⟨by rw [List.length_set]; exact h1, ?_⟩
  rcases h2 with ⟨h, -⟩ | ⟨g', cap, cur, he, hb, hh, hc, hm, hs, ht⟩
  · cases h
  · cases he
    refine .inr ⟨g, c, cur.setIfInBounds j u, rfl, hb, heap_setCell_at W g j u cur e (0, 0) hh, hc, hm, by simpa using hs, ?_⟩
    rw [Array.toList_setIfInBounds, List.take_set, ht]
theorem own_take {W : World} {base n c size n' : Nat} {e : TypeId} {p : Option Addr} {xs : List Value} (h : W.ownsRow base e size (.slice p n c) n xs) (hn : n' ≤ n) : W.ownsRow base e size (.slice p n' c) n' (xs.take (n' * size)) := by
  obtain ⟨h1, h2⟩ := h
  have hm : n' * size ≤ n * size := Nat.mul_le_mul_right _ hn
  refine ⟨by rw [List.length_take]; omega, ?_⟩
  rcases h2 with ⟨h, h0⟩ | ⟨g', cap, cur, he, hb, hh, hc, hm', hs, ht⟩
  · cases h
    exact .inl ⟨by rw [show n' = 0 by omega], by omega⟩
  · cases he
    exact .inr ⟨g', c, cur, rfl, hb, hh, by omega, hm', hs, by rw [← ht, List.take_take, Nat.min_eq_left hm]⟩
theorem hown_froz {W : World} {base g n n' c size j : Nat} {e : TypeId} {xs : List Value} (h : W.ownsRow base e size (.slice (some ⟨g, 0, none⟩) n c) n' xs) : W.frozen? ⟨g, j, none⟩ = false := by
  rcases h.2 with ⟨h, -⟩ | ⟨g', cap, cur, he, hb, hh, -⟩
  · cases h
  · cases he; simp [World.frozen?, hh]
theorem own_at {W : World} {base n n' c : Nat} {e : TypeId} {p : Option Addr} {hs : List Item} (h : W.ownsRow base e 2 (.slice p n c) n' (icells hs)) {k : Nat} (hk : k < hs.length) : ∃ g, p = some ⟨g, 0, none⟩ ∧
    W.cell? ⟨g, k * 2, none⟩ = some (.int .i64 (at' hs k).1) ∧ W.cell? ⟨g, k * 2 + 1, none⟩ = some (.int .i64 (at' hs k).2) := by
  rcases h.2 with ⟨he, h0⟩ | ⟨g, cap, cur, he, _⟩
  · have := h.1; rw [icells_len, h0] at this; omega
  · cases he
    obtain ⟨a, b⟩ := icells_get (l := hs) (k := k) (x := at' hs k) (by simp [at', List.getD_eq_getElem?_getD, hk])
    have c0 := h.cells (g := g) rfl _ _ a
    have c1 := h.cells (g := g) rfl _ _ b
    rw [addr_add, Nat.zero_add] at c0 c1
    exact ⟨g, rfl, c0, c1⟩

/-- the heap at B; its blocks are in S -/
structure HeapAt (S : Nat → Prop) (W : World) (B : Nat) (v : Value) (hs : List Item) : Prop where
  box : W.heap[B]? = some (.cells #[v, .bool true] 108 (0, 0))
  own : W.ownsRow 0 94 2 v hs.length (icells hs)
  inB : S B
  inV : ∀ g, v.ownBlock = some g → S g ∧ g ≠ B
  lt : ∀ k, S k → k < W.heap.size
theorem HeapAt.fr {S T : Nat → Prop} {W W' : World} {B : Nat} {v : Value} {hs : List Item} (h : HeapAt S W B v hs) (hf : Fr T W W') (hd : ∀ k, S k → ¬ T k) : HeapAt S W' B v hs :=
  ⟨(hf.block B (h.lt B h.inB) (hd B h.inB)).trans h.box, hf.ownsRow h.own (fun g hg => hd g (h.inV g hg).1), h.inB, h.inV, fun k hk => Nat.lt_of_lt_of_le (h.lt k hk) hf.size⟩
theorem HeapAt.g {S : Nat → Prop} {W W' : World} {B : Nat} {v : Value} {hs : List Item} (h : HeapAt S W B v hs) (hg : G W W') : HeapAt S W' B v hs := h.fr (hg.fr (fun _ => False)) (fun _ _ x => x)
theorem box2 {W : World} {B : Nat} {a b : Value} {t : TypeId} (h : W.heap[B]? = some (.cells #[a, b] t (0, 0))) : W.cell? ⟨B, 0, none⟩ = some a ∧ W.cell? ⟨B, 1, none⟩ = some b ∧ W.frozen? ⟨B, 0, none⟩ = false ∧ W.frozen? ⟨B, 1, none⟩ = false := by
  simp [World.cell?, World.frozen?, h]
theorem made_any {W : World} {B : Nat} (hb : W.cell? ⟨B, 1, none⟩ = some (.bool true)) : Calls Try.prog 63 #[.pointer (some ⟨B, 0, none⟩)] W fun e w' => e = .returned (.bool true) ∧ W = w' := by
  go_enter Try.func63, Try.ntmps63
  go_wp2
  go_ret
  exact ⟨rfl, rfl⟩
/-- two items that change places -/
theorem HeapAt.swap {S : Nat → Prop} {W : World} {B g n c i j : Nat} {hs : List Item} (h : HeapAt S W B (.slice (some ⟨g, 0, none⟩) n c) hs) (hn : n = hs.length) :
    HeapAt S ((((W.setCell ⟨g, i * 2, none⟩ (.int .i64 (at' hs j).1)).setCell ⟨g, i * 2 + 1, none⟩ (.int .i64 (at' hs j).2)).setCell ⟨g, j * 2, none⟩ (.int .i64 (at' hs i).1)).setCell ⟨g, j * 2 + 1, none⟩ (.int .i64 (at' hs i).2)) B (.slice (some ⟨g, 0, none⟩) n c) (swp hs i j) := by
  subst hn
  have hne := (h.inV g rfl).2
  refine ⟨?_, ?_, h.inB, h.inV, fun k hk => by simpa using h.lt k hk⟩
  · rw [Below.heap_setCell _ _ _ _ (Ne.symm hne), Below.heap_setCell _ _ _ _ (Ne.symm hne), Below.heap_setCell _ _ _ _ (Ne.symm hne), Below.heap_setCell _ _ _ _ (Ne.symm hne)]
    exact h.box
  · have := hown_set (j := j * 2 + 1) (.int .i64 (at' hs i).2) (hown_set (j := j * 2) (.int .i64 (at' hs i).1) (hown_set (j := i * 2 + 1) (.int .i64 (at' hs j).2) (hown_set (j := i * 2) (.int .i64 (at' hs j).1) h.own)))
    rw [swp_len]
    unfold swp
    rw [icells_set, icells_set]
    exact this
theorem Fr.set4 {S : Nat → Prop} {W : World} {g a b c d : Nat} {u v x y : Value} (hg : S g) : Fr S W ((((W.setCell ⟨g, a, none⟩ u).setCell ⟨g, b, none⟩ v).setCell ⟨g, c, none⟩ x).setCell ⟨g, d, none⟩ y) :=
  ((((Fr.refl S W).setCell (p := ⟨g, a, none⟩) (.inl hg) _).setCell (p := ⟨g, b, none⟩) (.inl hg) _).setCell (p := ⟨g, c, none⟩) (.inl hg) _).setCell (p := ⟨g, d, none⟩) (.inl hg) _

set_option maxHeartbeats 1000000 in
theorem rise_any (S : Nat → Prop) (B : Nat) (v : Value) (hs : List Item) (k : Nat) (w : World) (h : HeapAt S w B v hs) (hk : k < hs.length) (hn : hs.length ≤ 1000000) :
    Calls Try.prog 64 #[.pointer (some ⟨B, 0, none⟩), .int .i64 k] w fun e w' => (∃ u, e = .returned u) ∧ HeapAt S w' B v (rise hs k) ∧ Fr S w w' := by
  obtain ⟨p, c, hv⟩ := ownsRow_shape h.own
  subst hv
  obtain ⟨n, hnn⟩ : ∃ n, n = hs.length := ⟨_, rfl⟩
  rw [← hnn] at hk hn h ⊢
  have HN := Lib.hid hnn
  have H := Lib.hid h
  clear hnn h
  go_enter Try.func64, Try.ntmps64
  go_wp2_with fail
  go_loopw [1] (fun i wr => ∃ (k' : Nat) (ks : List Item), k' < n ∧ i = .int .i64 k' ∧ Hid (HeapAt S wr B (.slice p n c) ks ∧ ks.length = n ∧ rise ks k' = rise hs k) ∧ Fr S w wr) (fun i _ => (intOf i).toNat)
  case atStart => exact ⟨k, hs, hk, rfl, ⟨H.out, HN.out.symm, rfl⟩, Fr.refl _ _⟩
  case round =>
    obtain ⟨k', ks, hk', rfl, HI, hf⟩ := hrel
    by_cases h0 : k' = 0
    · subst h0
      have HR : Hid (rise hs k = ks) := Lib.hid (by rw [← HI.out.2.2, rise]; simp)
      go_wp2_with fail
      go_returns
      exact ⟨⟨_, rfl⟩, by rw [HR.out]; exact HI.out.1, hf⟩
    · obtain ⟨u, hu⟩ : ∃ u, u = (k' - 1) / 2 := ⟨_, rfl⟩
      have huI : ((k' : Int) - 1) / 2 = (u : Int) := by omega
      have hul : u < k' := by omega
      have hun : u < n := by omega
      have hk1 : (0 : Int) < (k' : Int) := by omega
      have HU := Lib.hid hu
      obtain ⟨cb, -, -, -⟩ := box2 HI.out.1.box
      obtain ⟨g, hp, ck0, ck1⟩ := own_at HI.out.1.own (k := k') (by rw [HI.out.2.1]; exact hk')
      subst hp
      obtain ⟨g', hp, cu0, cu1⟩ := own_at HI.out.1.own (k := u) (by rw [HI.out.2.1]; omega)
      cases hp
      clear hu
      generalize hxk : at' ks k' = xk at ck0 ck1
      generalize hxu : at' ks u = xu at cu0 cu1
      have HXK := Lib.hid hxk
      have HXU := Lib.hid hxu
      clear hxk hxu
      obtain ⟨xk0, xk1⟩ := xk
      obtain ⟨xu0, xu1⟩ := xu
      simp only at ck0 ck1 cu0 cu1
      go_upto_region 2 with fail
      refine region_hl (fun w' => G wr w') 99 16 (by kernel_rfl) rfl ?_
      simp only [List.replicate_succ, List.replicate_zero]
      have hs0 : (fun w' => G wr w') wr.drew := (G.refl wr).drew
      refine hl_take_np 0 (by kernel_rfl) (by kernel_rfl) rfl (by kernel_rfl) hs0 (v := ?_) ?_ ?_
      rotate_left
      · (rintro x hx; have k0 := hx.cell cb; have k1 := hx.cell ck0; have k2 := hx.cell ck1; have k3 := hx.cell cu0; have k4 := hx.cell cu1; clear hx; go_simp; try rfl)
      simp only [Act.put, List.setIfInBounds_toArray, List.set_cons_zero, List.set_cons_succ]
      refine hl_take_np 1 (by kernel_rfl) (by kernel_rfl) rfl (by kernel_rfl) hs0 (v := ?_) ?_ ?_
      rotate_left
      · (rintro x hx; have k0 := hx.cell cb; have k1 := hx.cell ck0; have k2 := hx.cell ck1; have k3 := hx.cell cu0; have k4 := hx.cell cu1; clear hx; go_simp; try rfl)
      simp only [Act.put, List.setIfInBounds_toArray, List.set_cons_zero, List.set_cons_succ]
      refine hl_take_np 2 (by kernel_rfl) (by kernel_rfl) rfl (by kernel_rfl) hs0 (v := ?_) ?_ ?_
      rotate_left
      · (rintro x hx; have k0 := hx.cell cb; have k1 := hx.cell ck0; have k2 := hx.cell ck1; have k3 := hx.cell cu0; have k4 := hx.cell cu1; clear hx; go_simp; try rfl)
      simp only [Act.put, List.setIfInBounds_toArray, List.set_cons_zero, List.set_cons_succ]
      refine hl_take_np 3 (by kernel_rfl) (by kernel_rfl) rfl (by kernel_rfl) hs0 (v := ?_) ?_ ?_
      rotate_left
      · (rintro x hx; have k0 := hx.cell cb; have k1 := hx.cell ck0; have k2 := hx.cell ck1; have k3 := hx.cell cu0; have k4 := hx.cell cu1; clear hx; go_simp; try rfl)
      simp only [Act.put, List.setIfInBounds_toArray, List.set_cons_zero, List.set_cons_succ]
      refine hl_take_np 4 (by kernel_rfl) (by kernel_rfl) rfl (by kernel_rfl) hs0 (v := ?_) ?_ ?_
      rotate_left
      · (rintro x hx; have k0 := hx.cell cb; have k1 := hx.cell ck0; have k2 := hx.cell ck1; have k3 := hx.cell cu0; have k4 := hx.cell cu1; clear hx; go_simp; try rfl)
      simp only [Act.put, List.setIfInBounds_toArray, List.set_cons_zero, List.set_cons_succ]
      refine hl_take_np 5 (by kernel_rfl) (by kernel_rfl) rfl (by kernel_rfl) hs0 (v := ?_) ?_ ?_
      rotate_left
      · (rintro x hx; have k0 := hx.cell cb; have k1 := hx.cell ck0; have k2 := hx.cell ck1; have k3 := hx.cell cu0; have k4 := hx.cell cu1; clear hx; go_simp; try rfl)
      simp only [Act.put, List.setIfInBounds_toArray, List.set_cons_zero, List.set_cons_succ]
      refine hl_take_np 6 (by kernel_rfl) (by kernel_rfl) rfl (by kernel_rfl) hs0 (v := ?_) ?_ ?_
      rotate_left
      · (rintro x hx; have k0 := hx.cell cb; have k1 := hx.cell ck0; have k2 := hx.cell ck1; have k3 := hx.cell cu0; have k4 := hx.cell cu1; clear hx; go_simp; try rfl)
      simp only [Act.put, List.setIfInBounds_toArray, List.set_cons_zero, List.set_cons_succ]
      refine hl_take_np 7 (by kernel_rfl) (by kernel_rfl) rfl (by kernel_rfl) hs0 (v := ?_) ?_ ?_
      rotate_left
      · (rintro x hx; have k0 := hx.cell cb; have k1 := hx.cell ck0; have k2 := hx.cell ck1; have k3 := hx.cell cu0; have k4 := hx.cell cu1; clear hx; go_simp; try rfl)
      simp only [Act.put, List.setIfInBounds_toArray, List.set_cons_zero, List.set_cons_succ]
      refine hl_take_np 8 (by kernel_rfl) (by kernel_rfl) rfl (by kernel_rfl) hs0 (v := ?_) ?_ ?_
      rotate_left
      · (rintro x hx; have k0 := hx.cell cb; have k1 := hx.cell ck0; have k2 := hx.cell ck1; have k3 := hx.cell cu0; have k4 := hx.cell cu1; clear hx; go_simp; try rfl)
      simp only [Act.put, List.setIfInBounds_toArray, List.set_cons_zero, List.set_cons_succ]
      refine hl_take_np 9 (by kernel_rfl) (by kernel_rfl) rfl (by kernel_rfl) hs0 (v := ?_) ?_ ?_
      rotate_left
      · (rintro x hx; have k0 := hx.cell cb; have k1 := hx.cell ck0; have k2 := hx.cell ck1; have k3 := hx.cell cu0; have k4 := hx.cell cu1; clear hx; go_simp; try rfl)
      simp only [Act.put, List.setIfInBounds_toArray, List.set_cons_zero, List.set_cons_succ]
      refine hl_take_np 10 (by kernel_rfl) (by kernel_rfl) rfl (by kernel_rfl) hs0 (v := ?_) ?_ ?_
      rotate_left
      · (rintro x hx; have k0 := hx.cell cb; have k1 := hx.cell ck0; have k2 := hx.cell ck1; have k3 := hx.cell cu0; have k4 := hx.cell cu1; clear hx; go_simp; try rfl)
      simp only [Act.put, List.setIfInBounds_toArray, List.set_cons_zero, List.set_cons_succ]
      refine hl_take_np 11 (by kernel_rfl) (by kernel_rfl) rfl (by kernel_rfl) hs0 (v := ?_) ?_ ?_
      rotate_left
      · (rintro x hx; have k0 := hx.cell cb; have k1 := hx.cell ck0; have k2 := hx.cell ck1; have k3 := hx.cell cu0; have k4 := hx.cell cu1; clear hx; go_simp; try rfl)
      simp only [Act.put, List.setIfInBounds_toArray, List.set_cons_zero, List.set_cons_succ]
      refine hl_take_np 12 (by kernel_rfl) (by kernel_rfl) rfl (by kernel_rfl) hs0 (v := ?_) ?_ ?_
      rotate_left
      · (rintro x hx; have k0 := hx.cell cb; have k1 := hx.cell ck0; have k2 := hx.cell ck1; have k3 := hx.cell cu0; have k4 := hx.cell cu1; clear hx; go_simp; try rfl)
      simp only [Act.put, List.setIfInBounds_toArray, List.set_cons_zero, List.set_cons_succ]
      refine hl_take_np 13 (by kernel_rfl) (by kernel_rfl) rfl (by kernel_rfl) hs0 (v := ?_) ?_ ?_
      rotate_left
      · (rintro x hx; have k0 := hx.cell cb; have k1 := hx.cell ck0; have k2 := hx.cell ck1; have k3 := hx.cell cu0; have k4 := hx.cell cu1; clear hx; go_simp; try rfl)
      simp only [Act.put, List.setIfInBounds_toArray, List.set_cons_zero, List.set_cons_succ]
      refine hl_stepW 14 (by kernel_rfl) rfl (by kernel_rfl) ?_
      intro K hK
      go_simp
      refine (order_any (xk0, xk1) (xu0, xu1) _).mono ?_
      rintro e w' ⟨rfl, hga⟩
      have hs1 : G wr w' := hs0.trans hga
      refine hK _ _ (fun _ => hs1) ?_
      clear hK
      simp only [Act.put, List.setIfInBounds_toArray, List.set_cons_zero, List.set_cons_succ]
      obtain ⟨r, hr⟩ : ∃ r, r = icmp (xk0, xk1) (xu0, xu1) := ⟨_, rfl⟩
      rw [← hr]
      have HRR := Lib.hid hr
      clear hr
      refine hl_take_np 15 (by kernel_rfl) (by kernel_rfl) rfl (by kernel_rfl) hs1 (v := ?_) ?_ ?_
      rotate_left
      · (rintro x hx; clear hx; go_simp; try rfl)
      simp only [Act.put, List.setIfInBounds_toArray, List.set_cons_zero, List.set_cons_succ]
      refine hl_done (by kernel_rfl) ?_ _
      refine NoPanic.normal ?_
      have HIq := Lib.hid (HI.out.1.g hs1)
      have hfq : Fr S w w' := hf.trans (hs1.fr S) (fun _ _ h => h)
      have hfr : ∀ j, w'.frozen? ⟨g, j, none⟩ = false := fun j => hown_froz HIq.out.own
      have cb := hs1.cell cb
      have ck0 := hs1.cell ck0
      have ck1 := hs1.cell ck1
      have cu0 := hs1.cell cu0
      have cu1 := hs1.cell cu1
      by_cases hr0 : 0 ≤ r
      · have HR : Hid (rise hs k = ks) := Lib.hid (by
          rw [← HI.out.2.2, rise, dif_neg h0, if_pos]
          rw [← HU.out]
          show 0 ≤ icmp (at' ks k') (at' ks u)
          rw [HXK.out, HXU.out, ← HRR.out]; exact hr0)
        clear hfr
        go_wp2_with fail
        go_returns
        exact ⟨⟨_, rfl⟩, by rw [HR.out]; exact HIq.out, hfq⟩
      · have hrd : decide (0 ≤ r) = false := by simpa using hr0
        have HR : Hid (rise (swp ks k' u) u = rise hs k) := Lib.hid (by
          rw [← HI.out.2.2, rise.eq_1 ks k', dif_neg h0, if_neg, ← HU.out]
          rw [← HU.out]
          show ¬ 0 ≤ icmp (at' ks k') (at' ks u)
          rw [HXK.out, HXU.out, ← HRR.out]; exact hr0)
        have f0 := hfr (k' * 2)
        have f1 := hfr (k' * 2 + 1)
        have f2 := hfr (u * 2)
        have f3 := hfr (u * 2 + 1)
        have hgB := (HIq.out.inV g rfl).2
        have hln := HI.out.2.1
        have HS := Lib.hid (HIq.out.swap (i := k') (j := u) hln.symm)
        rw [HXK.out, HXU.out] at HS
        have HFS := Lib.hid (hfq.trans (Fr.set4 (S := S) (W := w') (g := g) (a := k' * 2) (b := k' * 2 + 1) (c := u * 2) (d := u * 2 + 1) (u := .int .i64 xu0) (v := .int .i64 xu1) (x := .int .i64 xk0) (y := .int .i64 xk1) (HIq.out.inV g rfl).1) (fun _ _ h => h))
        have HLN : Hid ((swp ks k' u).length = n) := Lib.hid (by rw [swp_len]; exact hln)
        clear hfr hln hs0 hs1 hga hf hfq
        go_wp2_with fail
        go_region
        go_wp2_with fail
        go_roundw
        case rel => exact ⟨u, swp ks k' u, hun, rfl, (⟨HS.out.g (G.drew (G.refl _)), HLN.out, HR.out⟩ : HeapAt S _ B (.slice (some ⟨g, 0, none⟩) n c) (swp ks k' u) ∧ (swp ks k' u).length = n ∧ rise (swp ks k' u) u = rise hs k), HFS.out.drew⟩
        case measure => simp [intOf]; omega
end Go.Proofs.Ythhmmjpgefinmaa
