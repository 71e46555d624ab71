/- the document's heap: new, first, taken -/
import Derived.Test.YthdeehpnlcpbnaaHeapK
namespace Go.Proofs.Ythdeehpnlcpbnaa
set_option linter.unusedVariables false
set_option linter.unusedSimpArgs false
open Go.RowKit Go.Shelf
attribute [local go_sem] Oper.semAt_some

theorem rnew_any (xs : List Item) (u : Value) (w : World) (hu : Rdr w 2 u xs.length (icells xs)) (hn : xs.length ≤ 1000000) :
    Calls Try.prog 8 #[u] w fun e w' => e = .returned (.pointer (some ⟨w.heap.size, 0, none⟩)) ∧ (∃ v T, RefAt T w' w.heap.size v (inss [] xs) ∧ ∀ k, T k → w.heap.size ≤ k) ∧ G w w' := by
  obtain ⟨hul, up, uc, rfl, -⟩ := id hu
  have hat : RefAt (fun k => k = w.heap.size) (w.alloc (.cells #[.slice none 0 0] 53)) w.heap.size (.slice none 0 0) [] :=
    ⟨alloc_new _ _, Rdr.nil _ _ _ _, by rintro p n c h; cases h; exact Nat.le_refl _, rfl, fun h => absurd h (by simp), fun k hk => by subst hk; simp⟩
  have hd : 0 < xs.length → ∀ g, (Value.slice up xs.length uc).ownBlock = some g → g ≠ w.heap.size := fun h g hg e => by have := hu.lt h (by omega) g hg; omega
  have HP := Lib.hid (rpush_any _ _ _ [] xs (.slice up xs.length uc) _ hat (hu.alloc _) hd (by simpa using hn))
  clear hu hul hat hd
  go_enter Try.func8, Try.ntmps8
  go_wp2_with fail
  refine HP.out.mono ?_
  rintro e w2 ⟨⟨uu, rfl⟩, ⟨v', hat⟩, hf⟩
  have HF : Hid ((∃ v T, RefAt T w2 w.heap.size v (inss [] xs) ∧ ∀ k, T k → w.heap.size ≤ k) ∧ G w w2) := Lib.hid ⟨⟨v', _, hat, fun k hk => by
    rcases hk with h | h
    · omega
    · have := h.1; simp at this; omega⟩,
    ((((G.refl w).alloc (.cells #[.slice none 0 0] 53)).fr (fun k => k = w.heap.size)).trans hf (fun _ _ h => h)).g (fun i hi => by omega)⟩
  clear hat hf
  go_wp2_with fail
  go_ret
  exact ⟨rfl, HF.out⟩
theorem RefAt.head {T : Nat → Prop} {W : World} {R n c : Nat} {p : Option Addr} {x : Item} {L : List Item} (h : RefAt T W R (.slice p n c) (x :: L)) : ∃ b o, p = some ⟨b, o, none⟩ ∧ n = L.length + 1 ∧ n ≤ c ∧ W.cell? ⟨b, o, none⟩ = some (.int .i64 x.1) ∧ W.cell? ⟨b, o + 1, none⟩ = some (.int .i64 x.2) ∧ b < W.heap.size := by
  obtain ⟨hl, p', c', he, hc⟩ := id h.rdr
  cases he
  obtain ⟨b, o, rfl, h1, h2⟩ := rdr_item h.rdr (k := 0) (x := x) rfl
  simp only [Nat.zero_mul, Nat.add_zero] at h1 h2
  exact ⟨b, o, rfl, rfl, h.cap _ _ _ rfl, h1, h2, World.block_lt_of_cell? W _ h1⟩
theorem rfirst_any (T : Nat → Prop) (R : Nat) (v : Value) (L : List Item) (w : World) (h : RefAt T w R v L) (hn : L.length ≤ 1000000) : Calls Try.prog 21 #[.pointer (some ⟨R, 0, none⟩)] w fun e w' => e = .returned (.tuple #[iv (at' L 0), .bool (isB L)]) ∧ G w w' := by
  have hRl := h.lt R h.inR
  have cR := h.box.cell
  cases L with
  | nil =>
    obtain ⟨-, p, c, rfl, -⟩ := id h.rdr
    simp only [List.length_nil] at cR
    clear h
    go_enter Try.func21, Try.ntmps21
    go_wp2_with fail
    refine bodyPost_ret (v := .tuple #[.agg #[.int .i64 0, .int .i64 0], .bool false]) ?_ rfl ⟨rfl, (G.refl w).alloc _⟩
    have c0 := cell_alloc_at w [.int .i64 0, .int .i64 0] 43 (0, 0) 0 _ rfl
    have c1 := cell_alloc_at w [.int .i64 0, .int .i64 0] 43 (0, 0) 1 _ rfl
    simp only [Nat.zero_add] at c0 c1
    simp [results, Try.results21, go_sem, c0, c1]
  | cons x L =>
    obtain ⟨-, p, c, rfl, -⟩ := id h.rdr
    obtain ⟨b, o, rfl, -, hc, d0, d1, hb⟩ := h.head
    obtain ⟨x0, x1⟩ := x
    have hz0 : (((L.length : Int) + 1) == 0) = false := by simp; omega
    have hz1 : (0 : Int) < (L.length : Int) + 1 := by omega
    simp only [List.length_cons] at cR
    clear h
    go_enter Try.func21, Try.ntmps21
    go_wp2_with fail
    refine bodyPost_ret (v := .tuple #[.agg #[.int .i64 x0, .int .i64 x1], .bool true]) ?_ rfl ⟨rfl, (G.refl w).alloc _⟩
    have c0 := cell_alloc_at w [.int .i64 x0, .int .i64 x1] 43 (0, 0) 0 _ rfl
    have c1 := cell_alloc_at w [.int .i64 x0, .int .i64 x1] 43 (0, 0) 1 _ rfl
    simp only [Nat.zero_add] at c0 c1
    simp [results, Try.results21, go_sem, c0, c1]
/-- one item less -/
theorem RefAt.tail {T : Nat → Prop} {W : World} {R b o n c : Nat} {x : Item} {L : List Item} (h : RefAt T W R (.slice (some ⟨b, o, none⟩) n c) (x :: L)) :
    RefAt T (W.setCell ⟨R, 0, none⟩ (.slice (if c = 1 then some ⟨b, o, none⟩ else some ⟨b, o + 2, none⟩) L.length (c - 1))) R (.slice (if c = 1 then some ⟨b, o, none⟩ else some ⟨b, o + 2, none⟩) L.length (c - 1)) L := by
  obtain ⟨hl, p', c', he, -⟩ := id h.rdr
  cases he
  have hc := h.cap _ _ _ rfl
  have hd := rdr_drop (j := 1) h.rdr hc (by simp)
  simp only [List.length_cons, Nat.add_sub_cancel, List.drop_succ_cons, List.drop_zero, Option.map_some, addr_add, Nat.one_mul] at hd hc
  have hown : ∀ g, (Value.slice (if c = 1 then some ⟨b, o, none⟩ else some ⟨b, o + 2, none⟩) L.length (c - 1)).ownBlock = some g → g = b := fun g hg => by
    split at hg <;> exact (Option.some.inj hg).symm
  have hb := h.inV (by simp) b rfl
  have hst : Fr (fun q => q = R) W (W.setCell ⟨R, 0, none⟩ (.slice (if c = 1 then some ⟨b, o, none⟩ else some ⟨b, o + 2, none⟩) L.length (c - 1))) := (Fr.refl (fun q => q = R) W).setCell (p := ⟨R, 0, none⟩) (.inl rfl) _
  exact ⟨h.box.set _, hd.fr hst (fun g hg e => hb.2 (by rw [← hown g hg]; exact e)), by rintro p n c' he; cases he; omega, h.inR, fun _ g hg => by rw [hown g hg]; exact hb, fun k hk => by simpa using h.lt k hk⟩
theorem rpop_any (T : Nat → Prop) (R : Nat) (v : Value) (L : List Item) (w : World) (h : RefAt T w R v L) (hn : L.length ≤ 1000000) :
    Calls Try.prog 15 #[.pointer (some ⟨R, 0, none⟩)] w fun e w' => e = .returned (.tuple #[iv (at' L 0), .bool (isB L)]) ∧ (∃ v', RefAt T w' R v' L.tail) ∧ Fr (fun k => k = R) w w' := by
  have HF := Lib.hid (rfirst_any T R v L (w.alloc (.cells #[.int .i64 0, .int .i64 0] 43)) (h.g ((G.refl w).alloc _)) hn)
  have HAT := Lib.hid h
  have hw1 : G w (w.alloc (.cells #[.int .i64 0, .int .i64 0] 43)) := (G.refl w).alloc _
  have hb := alloc_new w (.cells #[.int .i64 0, .int .i64 0] 43)
  cases L with
  | nil =>
    simp only [isB, List.isEmpty_nil, Bool.not_true, at', List.getD_nil, iv, List.tail_nil] at HF ⊢
    clear h
    go_enter Try.func15, Try.ntmps15
    go_wp2_with fail
    refine HF.out.mono ?_
    rintro e w2 ⟨rfl, hg2⟩
    have hgw := hw1.trans hg2
    have hb2 := (hg2.block (k := w.heap.size) (by simp)).trans hb
    have hl2 : w.heap.size < w2.heap.size := by have := hg2.size; simp at this; omega
    obtain ⟨c0, c1, f0, f1⟩ := box2 hb2
    clear hb hw1 hg2
    go_wp2_with fail
    have hfin : G w (((w2.setCell ⟨w.heap.size, 0, none⟩ (.int .i64 0)).setCell ⟨w.heap.size, 1, none⟩ (.int .i64 0)).alloc (.cells #[.int .i64 0, .int .i64 0] 43)) := ((hgw.setCell (by simp) _).setCell (by simp) _).alloc _
    refine bodyPost_ret (v := .tuple #[.agg #[.int .i64 0, .int .i64 0], .bool false]) ?_ rfl ⟨rfl, ⟨v, HAT.out.g hfin⟩, hfin.fr _⟩
    have q := (((G.refl ((w2.setCell ⟨w.heap.size, 0, none⟩ (.int .i64 0)).setCell ⟨w.heap.size, 1, none⟩ (.int .i64 0))).alloc (.cells #[.int .i64 0, .int .i64 0] 43)).block (by simpa using hl2)).trans (set2 (x := .int .i64 0) (y := .int .i64 0) hb2)
    obtain ⟨q0, q1, -, -⟩ := box2 q
    simp [results, Try.results15, go_sem, q0, q1]
  | cons x L =>
    obtain ⟨-, p, c, rfl, -⟩ := id h.rdr
    obtain ⟨b, o, rfl, -, hc, d0, d1, hbl⟩ := h.head
    obtain ⟨x0, x1⟩ := x
    have hRl := h.lt R h.inR
    have cR := h.box.cell
    have fR := h.box.frozen
    simp only [isB, List.isEmpty_cons, Bool.not_false, at', List.getD_cons_zero, iv, List.tail_cons, List.length_cons] at HF cR hc ⊢
    clear h
    go_enter Try.func15, Try.ntmps15
    go_wp2_with fail
    refine HF.out.mono ?_
    rintro e w2 ⟨rfl, hg2⟩
    have hgw := hw1.trans hg2
    have hb2 := (hg2.block (k := w.heap.size) (by simp)).trans hb
    have hl2 : w.heap.size < w2.heap.size := by have := hg2.size; simp at this; omega
    have hw3 : G w (w2.alloc (.cells #[.int .i64 x0, .int .i64 x1] 43)) := hgw.alloc _
    have cR := hw3.cell cR
    have fR := (hw3.frozen (p := ⟨R, 0, none⟩) hRl).trans fR
    have hcI : (1 : Int) ≤ (L.length : Int) + 1 := by omega
    have hcI2 : (L.length : Int) + 1 ≤ (c : Int) := by omega
    have hX3 := Lib.hid (alloc_new w2 (.cells #[.int .i64 x0, .int .i64 x1] 43))
    have hR3 := Lib.hid (((G.refl w2).alloc (.cells #[.int .i64 x0, .int .i64 x1] 43)).block hl2 |>.trans hb2)
    obtain ⟨cx0, cx1, -, -⟩ := box2 hX3.out
    obtain ⟨cr0, cr1, fr0, fr1⟩ := box2 hR3.out
    have HW3 := Lib.hid (HAT.out.g hw3)
    have hRw : ¬ R = w.heap.size := by omega
    have hRx : ¬ R = w2.heap.size := by have := hgw.size; omega
    clear hb hw1 hg2 hgw d0 d1
    by_cases hc1 : c = 1
    · subst hc1
      have HTL := Lib.hid HW3.out.tail
      rw [if_pos rfl, Nat.sub_self] at HTL
      obtain rfl : L = [] := by cases L with | nil => rfl | cons a l => simp at hc
      simp only [List.length_nil] at HTL cR hcI hcI2
      clear HW3
      go_wp2_with fail
      have hT5 := set2 (x := .int .i64 x0) (y := .int .i64 x1) (W := (w2.alloc (.cells #[.int .i64 x0, .int .i64 x1] 43)).setCell ⟨R, 0, none⟩ (.slice (some ⟨b, o, none⟩) 0 0)) ((Below.heap_setCell _ ⟨R, 0, none⟩ _ w.heap.size (by simp; omega)).trans hR3.out)
      have hfin : Fr (fun q => q = w.heap.size) ((w2.alloc (.cells #[.int .i64 x0, .int .i64 x1] 43)).setCell ⟨R, 0, none⟩ (.slice (some ⟨b, o, none⟩) 0 0)) _ := ((Fr.refl (fun q => q = w.heap.size) _).setCell (p := ⟨w.heap.size, 0, none⟩) (.inl rfl) (.int .i64 x0)).setCell (p := ⟨w.heap.size, 1, none⟩) (.inl rfl) (.int .i64 x1)
      have hfw : Fr (fun k => k = R) w ((w2.alloc (.cells #[.int .i64 x0, .int .i64 x1] 43)).setCell ⟨R, 0, none⟩ (.slice (some ⟨b, o, none⟩) 0 0)) := (hw3.fr (fun k => k = R)).setCell (p := ⟨R, 0, none⟩) (.inl rfl) _
      refine bodyPost_ret (v := .tuple #[.agg #[.int .i64 x0, .int .i64 x1], .bool true]) ?_ rfl ⟨rfl, ⟨(.slice (some ⟨b, o, none⟩) 0 0), HTL.out.fr hfin (fun k hk e => by have := HAT.out.lt k hk; omega)⟩, Fr.trans (T := fun q => q = w.heap.size) hfw hfin (fun i hi (e : i = w.heap.size) => by omega)⟩
      obtain ⟨q0, q1, -, -⟩ := box2 hT5
      simp [results, Try.results15, go_sem, q0, q1]
    · have HTL := Lib.hid HW3.out.tail
      rw [if_neg hc1] at HTL
      clear HW3
      go_wp2_with fail
      have hT5 := set2 (x := .int .i64 x0) (y := .int .i64 x1) (W := (w2.alloc (.cells #[.int .i64 x0, .int .i64 x1] 43)).setCell ⟨R, 0, none⟩ (.slice (some ⟨b, o + 2, none⟩) L.length (c - 1))) ((Below.heap_setCell _ ⟨R, 0, none⟩ _ w.heap.size (by simp; omega)).trans hR3.out)
      have hfin : Fr (fun q => q = w.heap.size) ((w2.alloc (.cells #[.int .i64 x0, .int .i64 x1] 43)).setCell ⟨R, 0, none⟩ (.slice (some ⟨b, o + 2, none⟩) L.length (c - 1))) _ := ((Fr.refl (fun q => q = w.heap.size) _).setCell (p := ⟨w.heap.size, 0, none⟩) (.inl rfl) (.int .i64 x0)).setCell (p := ⟨w.heap.size, 1, none⟩) (.inl rfl) (.int .i64 x1)
      have hfw : Fr (fun k => k = R) w ((w2.alloc (.cells #[.int .i64 x0, .int .i64 x1] 43)).setCell ⟨R, 0, none⟩ (.slice (some ⟨b, o + 2, none⟩) L.length (c - 1))) := (hw3.fr (fun k => k = R)).setCell (p := ⟨R, 0, none⟩) (.inl rfl) _
      refine bodyPost_ret (v := .tuple #[.agg #[.int .i64 x0, .int .i64 x1], .bool true]) ?_ rfl ⟨rfl, ⟨(.slice (some ⟨b, o + 2, none⟩) L.length (c - 1)), HTL.out.fr hfin (fun k hk e => by have := HAT.out.lt k hk; omega)⟩, Fr.trans (T := fun q => q = w.heap.size) hfw hfin (fun i hi (e : i = w.heap.size) => by omega)⟩
      obtain ⟨q0, q1, -, -⟩ := box2 hT5
      simp [results, Try.results15, go_sem, q0, q1]
end Go.Proofs.Ythdeehpnlcpbnaa
