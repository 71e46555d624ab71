/- rows of values that are the call's own; numbers as rows -/
import Derived.Test.YthhjioehkgbphaaDiffF
import Derived.Lib.SliceRun
namespace Go.Proofs.Ythhjioehkgbphaa
set_option linter.unusedVariables false
set_option linter.unusedSimpArgs false
open Go.RowKit Go.Shelf
attribute [local go_sem] Oper.semAt_some

/-- v is a slice of rows, its own from base on; so is each row, apart from it -/
def OwnRV (base : Nat) (W : World) (v : Value) (ls : List (List Val)) : Prop :=
  ∃ rv : List Value, W.ownsRow base 22 1 v ls.length rv ∧ ∀ (i : Nat) (l : List Val), ls[i]? = some l → ∃ x, rv[i]? = some x ∧ RdrV W x l ∧ ∀ g, x.ownBlock = some g → base ≤ g ∧ g < W.heap.size ∧ v.ownBlock ≠ some g
theorem OwnRV.nil (base : Nat) (W : World) : OwnRV base W (.slice none 0 0) [] := ⟨[], World.ownsRow_nil _ _ _ _, by simp⟩
theorem OwnRV.rdr {base : Nat} {W : World} {v : Value} {ls : List (List Val)} (h : OwnRV base W v ls) : RdrRV W v ls := by
  obtain ⟨rv, h1, h2⟩ := h
  refine ⟨rv, rdr_of_owns h1, fun i l hl => ?_⟩
  obtain ⟨x, a, b, -⟩ := h2 i l hl
  exact ⟨x, a, b⟩
theorem OwnRV.fr {S : Nat → Prop} {base : Nat} {W W' : World} {v : Value} {ls : List (List Val)} (h : OwnRV base W v ls) (hf : Fr S W W') (hs : ∀ g, base ≤ g → g < W.heap.size → ¬ S g) : OwnRV base W' v ls := by
  obtain ⟨rv, h1, h2⟩ := h
  refine ⟨rv, hf.ownsRow h1 (fun g hg => hs g (h1.lt g hg).1 (h1.lt g hg).2), fun i l hl => ?_⟩
  obtain ⟨x, a, b, c⟩ := h2 i l hl
  exact ⟨x, a, Rdr.fr b hf (fun g hg => hs g (c g hg).1 (c g hg).2.1), fun g hg => ⟨(c g hg).1, Nat.lt_of_lt_of_le (c g hg).2.1 hf.size, (c g hg).2.2⟩⟩
theorem OwnRV.g {base : Nat} {W W' : World} {v : Value} {ls : List (List Val)} (h : OwnRV base W v ls) (hg : G W W') : OwnRV base W' v ls := h.fr (hg.fr (fun _ => False)) (fun _ _ _ x => x)
theorem OwnRV.app {base : Nat} {W W' : World} {v v' x : Value} {ls : List (List Val)} {l : List Val} {rv : List Value} {tmp : Obj} (h1 : W.ownsRow base 22 1 v ls.length rv)
    (h2 : ∀ (i : Nat) (l : List Val), ls[i]? = some l → ∃ x, rv[i]? = some x ∧ RdrV W x l ∧ ∀ g, x.ownBlock = some g → base ≤ g ∧ g < W.heap.size ∧ v.ownBlock ≠ some g)
    (hx : RdrV W x l) (hxo : ∀ g, x.ownBlock = some g → base ≤ g ∧ g < W.heap.size ∧ v.ownBlock ≠ some g)
    (hown : W'.ownsRow base 22 1 v' (ls.length + 1) (rv ++ [x])) (hgrow : (W.alloc tmp).grownBy W' v.ownBlock) (hgb : ∀ g, v'.ownBlock = some g → v.ownBlock = some g ∨ (W.alloc tmp).heap.size ≤ g) : OwnRV base W' v' (ls ++ [l]) := by
  have hf : Fr (fun q => v.ownBlock = some q) W W' := (((G.refl W).alloc tmp).fr _).trans (grownBy_fr hgrow) (fun _ _ h => h)
  have hl : rv.length = ls.length := by have := h1.1; omega
  have key : ∀ (y : Value) (m : List Val), RdrV W y m → (∀ g, y.ownBlock = some g → base ≤ g ∧ g < W.heap.size ∧ v.ownBlock ≠ some g) → RdrV W' y m ∧ ∀ g, y.ownBlock = some g → base ≤ g ∧ g < W'.heap.size ∧ v'.ownBlock ≠ some g := by
    intro y m hy ho
    refine ⟨Rdr.fr hy hf (fun g hg e => (ho g hg).2.2 e), fun g hg => ⟨(ho g hg).1, Nat.lt_of_lt_of_le (ho g hg).2.1 hf.size, fun e => ?_⟩⟩
    rcases hgb g e with h | h
    · exact (ho g hg).2.2 h
    · have := (ho g hg).2.1; simp at h; omega
  refine ⟨rv ++ [x], by rw [List.length_append]; exact hown, fun i m hm => ?_⟩
  by_cases hi : i < ls.length
  · rw [List.getElem?_append_left hi] at hm
    obtain ⟨y, a, b, c⟩ := h2 i m hm
    exact ⟨y, by rw [List.getElem?_append_left (by omega)]; exact a, key y m b c⟩
  · have hi2 : i = ls.length := by
      have := (List.getElem?_eq_some_iff.1 hm).1
      simp at this; omega
    subst hi2
    simp at hm
    subst hm
    exact ⟨x, by rw [← hl]; simp, key x l hx hxo⟩

/-- a number as a value -/
def nv (n : Int) : Val := (1, n, ⟨#[]⟩)
theorem num_any (n : Int) (w : World) : Calls Try.prog 25 #[.int .i64 n] w fun e w' => e = .returned (vv (nv n)) ∧ G w w' := by
  unfold vv nv
  go_enter Try.func25, Try.ntmps25
  go_wp2
  refine bodyPost_ret (v := .agg #[.int .i64 1, .int .i64 n, .string ⟨#[]⟩]) ?_ rfl ?_
  · have c0 := cell_alloc_at w [.int .i64 1, .int .i64 n, .string ⟨#[]⟩] 46 (0, 0) 0 _ rfl
    have c1 := cell_alloc_at w [.int .i64 1, .int .i64 n, .string ⟨#[]⟩] 46 (0, 0) 1 _ rfl
    have c2 := cell_alloc_at w [.int .i64 1, .int .i64 n, .string ⟨#[]⟩] 46 (0, 0) 2 _ rfl
    simp only [Nat.zero_add] at c0 c1 c2
    simp [results, Try.results25, go_sem, c0, c1, c2]
  · exact ⟨rfl, (G.refl w).alloc _⟩
theorem infoV : (Try.prog.info? 46).map (fun i => (i.zero, i.size, i.bytes)) = some (some (.agg #[.int .i64 0, .int .i64 0, .string ⟨#[]⟩]), 3, 32) := by kernel_rfl
theorem vcells_one : ∀ (l : List Val), ∀ u ∈ vcells l, u.oneCell' = true
  | [], u, h => by cases h
  | x :: l, u, h => by
    simp only [vcells, List.mem_cons] at h
    rcases h with rfl | rfl | rfl | h
    · rfl
    · rfl
    · rfl
    · exact vcells_one l u h
theorem clone_any (l : List Val) (v : Value) (w : World) (hv : RdrV w v l) (hn : l.length ≤ 4000000000000) :
    Calls Try.prog 23 #[v] w fun e w' => ∃ u, e = .returned u ∧ RdrV w' u l ∧ (∀ g, u.ownBlock = some g → w.heap.size ≤ g ∧ g < w'.heap.size) ∧ G w w' := by
  obtain ⟨p, c, rfl⟩ := hv.shape
  have HV := Lib.hid hv
  obtain ⟨i0, hi, hz0, hz1, hz2⟩ := info_parts infoV
  have heq := Lib.run_eql_slice_nil (P := Try.prog) w 22 46 p l.length c 0 0 Try.underlying22
  have HO := Lib.hid (vcells_one l)
  clear hv
  cases p with
  | none =>
    have hl : l = [] := by
      obtain ⟨h1, p, c, he, h2⟩ := HV.out
      cases l with
      | nil => rfl
      | cons x l =>
        obtain ⟨b, o, hp, -⟩ := h2 (by simp)
        rw [hp] at he; cases he
    subst hl
    simp only [Option.isNone_none, List.length_nil] at heq
    go_enter Try.func23, Try.ntmps23
    go_wp2_with fail
    go_ret
    exact ⟨.slice none 0 0, rfl, Rdr.nil _ _ _ _, fun g hg => (by cases hg), G.refl w⟩
  | some a =>
    simp only [Option.isNone_some] at heq
    go_enter Try.func23, Try.ntmps23
    go_wp2_with (at_builtin; refine wpList_appendR _ rfl _ _ 22 rfl w.heap.size 46 i0 (.agg #[.int .i64 0, .int .i64 0, .string ⟨#[]⟩]) 3 32 Try.underlying22 hi hz0 hz1 hz2 rfl (by decide) _ 0 [] rfl (World.ownsRow_made w #[] 0 (Nat.le_refl _) (Nat.zero_le _) rfl) (.slice (some a) l.length c) l.length (vcells l) rfl (Rdr.g HV.out ((G.refl w).alloc _)) HO.out (by unfold maxLen; omega) (by omega) (by simp) ?_; intro mp mc w1 hown1 hgrow1 hat1)
    simp only [Nat.zero_add, List.nil_append] at hown1 hat1 ⊢
    have hg1 : G w w1 := ((G.refl w).alloc _).grown hgrow1 (fun k h => by have := Option.some.inj h; simp at this; omega)
    go_wp2_with fail
    go_ret
    exact ⟨_, rfl, rdr_of_owns hown1, fun g hg => hown1.lt g hg, hg1⟩
theorem infoS : (Try.prog.info? 22).map (fun i => (i.zero, i.size, i.bytes)) = some (some (.slice none 0 0), 1, 24) := by kernel_rfl
/-- numbers as rows -/
def nrows (xs : List Int) : List (List Val) := xs.map fun n => [nv n]
theorem nrows_snoc {xs : List Int} {k : Nat} {x : Int} (h : xs[k]? = some x) : nrows (xs.take (k + 1)) = nrows (xs.take k) ++ [[nv x]] := by
  rw [List.take_add_one, h]; simp [nrows]
theorem rows_any (xs : List Int) (v : Value) (w : World) (hv : Rdr w 1 v xs.length (ints xs)) (hn : xs.length ≤ 1000) :
    Calls Try.prog 16 #[v] w fun e w' => ∃ u, e = .returned u ∧ OwnRV w.heap.size w' u (nrows xs) ∧ G w w' := by
  obtain ⟨p, c, rfl, -, hpc⟩ := hv.at
  obtain ⟨n, hnn⟩ : ∃ n, n = xs.length := ⟨_, rfl⟩
  rw [← hnn] at hn hpc
  simp only [← hnn]
  have HN := Lib.hid hnn
  have HC := Lib.hid hpc
  obtain ⟨i0, hi, hz0, hz1, hz2⟩ := info_parts infoS
  clear hnn hpc hv
  go_enter Try.func16, Try.ntmps16
  go_wp2_with fail
  go_loopw [3, 4] (fun out i wr => ∃ k : Nat, k ≤ n ∧ i = .int .i64 k ∧ OwnRV w.heap.size wr out (nrows (xs.take k)) ∧ G w wr) (fun _ i _ => n - (intOf i).toNat)
  case atStart => exact ⟨0, by omega, rfl, OwnRV.nil _ _, G.refl w⟩
  case round =>
    obtain ⟨k, hk, rfl, hout, hg⟩ := hrel
    by_cases hlt : k < n
    · obtain ⟨b, o, rfl, hcell⟩ := HC.out (by omega)
      obtain ⟨x, hx⟩ : ∃ x, xs[k]? = some x := ⟨xs[k]'(by have := HN.out; omega), List.getElem?_eq_getElem _⟩
      have c1 := hg.cell (hcell k _ (ints_get hx))
      have HX := Lib.hid (nrows_snoc hx)
      have hlen : (nrows (xs.take k)).length = k := by simp [nrows]; have := HN.out; omega
      have HOUT := Lib.hid hout
      obtain ⟨rv, hown, hrows⟩ := hout
      rw [hlen] at hown
      obtain ⟨op, oc, rfl⟩ := ownsRow_shape hown
      have HOWN := Lib.hid hown
      have HROWS := Lib.hid hrows
      have HLEN := Lib.hid hlen
      clear hx hcell hown hrows hlen
      go_wp2_with fail
      refine (num_any x wr).mono ?_
      rintro e w2 ⟨rfl, hg2⟩
      unfold vv nv
      have hgs := hg.size
      have hg2s := hg2.size
      go_wp2_with (at_builtin; refine wpList_append2 _ rfl _ _ 25 rfl w.heap.size 22 i0 (.slice none 0 0) 1 24 Try.underlying25 hi hz0 hz1 hz2 rfl (by decide) _ k rv rfl (((hg2.ownsRow HOWN.out).alloc _).alloc _) ⟨w2.heap.size + 1, 0, none⟩ 1 1 [.slice (some ⟨w2.heap.size, 0, none⟩) 1 1] rfl rfl (by simpa using cell_one_new (w2.alloc (.cells #[.int .i64 1, .int .i64 x, .string ⟨#[]⟩] 46)) _ _) (by simp [Value.oneCell']) (by unfold maxLen; omega) (by omega) (by simp; omega) ?_; intro v' w5 hown5 hgrow5 _ hat5; obtain ⟨g', cap', rfl⟩ := ownsRow_succ hown5)
      go_roundw
      case rel =>
        have hg3 : G wr (w2.alloc (.cells #[.int .i64 1, .int .i64 x, .string ⟨#[]⟩] 46)) := hg2.alloc _
        refine ⟨k + 1, by omega, by go_num, ?_, ((hg.trans hg3).alloc _).grown hgrow5 (fun q h => (HOWN.out.lt q h).1)⟩
        rw [HX.out]
        refine OwnRV.app (W := w2.alloc (.cells #[.int .i64 1, .int .i64 x, .string ⟨#[]⟩] 46)) (v := .slice op k oc) (x := .slice (some ⟨w2.heap.size, 0, none⟩) 1 1) (rv := rv) ?_ ?_ ?_ ?_ ?_ hgrow5 (fun g h => hat5 g h)
        · rw [HLEN.out]; exact hg3.ownsRow HOWN.out
        · intro i l hl
          obtain ⟨y, a, b, c⟩ := HROWS.out i l hl
          exact ⟨y, a, b.g hg3, fun g hg => ⟨(c g hg).1, Nat.lt_of_lt_of_le (c g hg).2.1 hg3.size, (c g hg).2.2⟩⟩
        · exact rdr_alloc w2 [.int .i64 1, .int .i64 x, .string ⟨#[]⟩] 46 (0, 0) 3 1 1 rfl
        · intro g hg'
          obtain rfl : g = w2.heap.size := (Option.some.inj hg').symm
          refine ⟨by omega, by simp, fun e => ?_⟩
          have := (HOWN.out.lt _ e).2
          omega
        · rw [HLEN.out]; exact hown5
      case measure => simp [intOf]; omega
    · obtain rfl : k = n := by omega
      rw [show xs.take k = xs from List.take_of_length_le (by have := HN.out; omega)] at hout
      have HOUT := Lib.hid hout
      clear hout
      go_wp2_with fail
      go_ret
      exact ⟨_, rfl, HOUT.out, hg⟩
end Go.Proofs.Ythhjioehkgbphaa
