/- sizes; rows that are not right -/
import Derived.Test.YthhjioehkgbphaaDiffN
namespace Go.Proofs.Ythhjioehkgbphaa
set_option linter.unusedVariables false
set_option linter.unusedSimpArgs false
open Go.RowKit Go.Shelf
attribute [local go_sem] Oper.semAt_some

/-- n is a size of these rows: where it is at most 400, so are they -/
def Sized (ls : List (List Val)) (r : Int) : Prop := 0 ≤ r ∧ r ≤ 20000000000000 ∧ (r ≤ 400 → ls.length ≤ 400 ∧ ∀ l ∈ ls, l.length ≤ 400)
theorem size_any (ls : List (List Val)) (v : Value) (w : World) (hv : RdrRV w v ls) (hl : ∀ l ∈ ls, l.length ≤ 4398046511104) (hn : ls.length ≤ 5864062014805) :
    Calls Try.prog 10 #[v] w fun e w' => ∃ r : Int, e = .returned (.int .i64 r) ∧ Sized ls r ∧ w = w' := by
  obtain ⟨p, c, rfl⟩ := hv.shape
  obtain ⟨n, hnn⟩ : ∃ n, n = ls.length := ⟨_, rfl⟩
  rw [← hnn] at hn
  simp only [← hnn]
  have HV := Lib.hid hv
  have HL := Lib.hid hl
  have HN := Lib.hid hnn
  clear hv hl hnn
  go_enter Try.func10, Try.ntmps10
  go_wp2_with fail
  go_loop [3, 4] (fun s i => ∃ (k : Nat) (r : Int), k ≤ n ∧ i = .int .i64 k ∧ s = .int .i64 r ∧ (n : Int) ≤ r ∧ r ≤ 10262108525909 ∧ Hid (∀ j l, j < k → ls[j]? = some l → (l.length : Int) ≤ r)) (fun _ i => n - (intOf i).toNat)
  case atStart => exact ⟨0, n, by omega, rfl, rfl, by omega, by omega, (fun j l h => absurd h (by omega) : ∀ j l, j < 0 → ls[j]? = some l → (l.length : Int) ≤ n)⟩
  case round =>
    obtain ⟨k, r, hk, rfl, rfl, hr1, hr2, HR⟩ := hrel
    by_cases hlt : k < n
    · by_cases hle : r ≤ 400
      · obtain ⟨b, o, l, q, d, rfl, hx, hcell, -⟩ := HV.out.row (i := k) (by have := HN.out; omega)
        have hll := HL.out l (List.mem_of_getElem? hx)
        have HX := Lib.hid hx
        clear hx
        go_wp2_with fail
        go_round
        case rel => exact ⟨k + 1, _, by omega, by go_num, rfl, by omega, by omega, (fun j l' hj hl' => by
          rcases (by omega : j < k ∨ j = k) with h | rfl
          · have := HR.out j l' h hl'; omega
          · rw [HX.out] at hl'; cases hl'; omega : ∀ j l', j < k + 1 → ls[j]? = some l' → (l'.length : Int) ≤ r + (l.length : Int))⟩
        case measure => simp [intOf]; omega
      · go_wp2_with fail
        go_ret
        exact ⟨_, rfl, ⟨by omega, by omega, fun h => absurd h (by omega)⟩, rfl⟩
    · have hle' : decide (k < n) = false := by simpa using hlt
      go_wp2_with fail
      go_ret
      refine ⟨_, rfl, ⟨by omega, by omega, fun h => ⟨by have := HN.out; omega, fun l hl => ?_⟩⟩, rfl⟩
      obtain ⟨j, hj⟩ := List.getElem?_of_mem hl
      have := HR.out j l (by have := (List.getElem?_eq_some_iff.1 hj).1; have := HN.out; omega) hj
      omega
theorem of_no (xs ys : List (List Val)) (va vb : Value) (w : World) (ha : RowsIn w va xs) (hb : RowsIn w vb ys) (hr : (rgt none xs && rgt none ys) = false) :
    Calls Try.prog 11 #[va, vb] w fun e w' => e = .returned (.tuple #[.slice none 0 0, .slice none 0 0, .int .i64 2]) ∧ G w w' := by
  obtain ⟨p, c, rfl, -⟩ := ha.shape
  obtain ⟨q, d, rfl, -⟩ := hb.shape
  have hright : ∀ (ls : List (List Val)) (v : Value) (W : World), RowsIn w v ls → G w W → Calls Try.prog 7 #[v] W fun e w' => e = .returned (.bool (rgt none ls)) ∧ G W w' := fun ls v W h hg =>
    dright_any ls v W (h.rdr.g hg) h.ok.text (fun l hl => Nat.le_trans (h.ok.wide l hl) (by omega)) (Nat.le_trans h.ok.many (by omega))
  have h1 := hright xs _ ((w.alloc (.cells #[.slice none 0 0] 25)).alloc (.cells #[.slice none 0 0] 25)) ha (((G.refl w).alloc _).alloc _)
  have H2 := Lib.hid (fun W hg => hright ys _ W hb hg : ∀ W, G w W → Calls Try.prog 7 #[.slice q ys.length d] W _)
  cases hrx : rgt none xs
  · rw [hrx] at h1
    have H1 := Lib.hid h1
    clear ha hb hr hright h1 hrx H2
    refine calls_of_marks Try.func11 rfl ?_
    simp only [Try.ntmps11, List.size_toArray, List.length_cons, List.length_nil, Nat.reduceAdd, Nat.reduceSub, Array.replicate_succ, Array.replicate_zero, List.push_toArray, List.append_toArray, List.nil_append, List.cons_append]
    go_wp2_with fail
    refine H1.out.mono ?_
    rintro e w1 ⟨rfl, hg1⟩
    have hb0 := hg1.boxed (boxed_at w [_, _] 0 25 (.slice none 0 0) rfl : Boxed ((w.alloc (.cells #[.slice none 0 0] 25)).alloc (.cells #[.slice none 0 0] 25)) (w.heap.size + 0) 25 (.slice none 0 0))
    have hb1 := hg1.boxed (boxed_at w [_, _] 1 25 (.slice none 0 0) rfl : Boxed ((w.alloc (.cells #[.slice none 0 0] 25)).alloc (.cells #[.slice none 0 0] 25)) (w.heap.size + 1) 25 (.slice none 0 0))
    have hgw : G w w1 := (((G.refl w).alloc _).alloc _).trans hg1
    simp only [Nat.add_zero] at hb0
    have c0 := hb0.cell
    have c1 := hb1.cell
    have f0 := hb0.frozen
    have f1 := hb1.frozen
    clear hg1
    go_wp2_with fail
    have x0 := boxed_other (B' := w.heap.size + 1) (v' := .slice none 0 0) (hb0.set (.slice none 0 0)) (by omega)
    have x1 := (boxed_other (B' := w.heap.size) (v' := .slice none 0 0) hb1 (by omega)).set (.slice none 0 0)
    refine leave_nil (v := .tuple #[.slice none 0 0, .slice none 0 0, .int .i64 2]) (by simp [results, Try.results11, go_sem, x0.cell, x1.cell]) ⟨rfl, (hgw.setCell (by simp) _).setCell (by simp) _⟩
  · rw [hrx] at h1
    have H1 := Lib.hid h1
    have hry : rgt none ys = false := by rw [hrx] at hr; simpa using hr
    rw [hry] at H2
    clear ha hb hr hright h1 hrx hry
    refine calls_of_marks Try.func11 rfl ?_
    simp only [Try.ntmps11, List.size_toArray, List.length_cons, List.length_nil, Nat.reduceAdd, Nat.reduceSub, Array.replicate_succ, Array.replicate_zero, List.push_toArray, List.append_toArray, List.nil_append, List.cons_append]
    go_wp2_with fail
    refine H1.out.mono ?_
    rintro e w0 ⟨rfl, hg0⟩
    have hgw0 : G w w0 := (((G.refl w).alloc _).alloc _).trans hg0
    go_wp2_with fail
    refine (H2.out w0 hgw0).mono ?_
    rintro e w1 ⟨rfl, hg1'⟩
    have hg1 := hg0.trans hg1'
    have hb0 := hg1.boxed (boxed_at w [_, _] 0 25 (.slice none 0 0) rfl : Boxed ((w.alloc (.cells #[.slice none 0 0] 25)).alloc (.cells #[.slice none 0 0] 25)) (w.heap.size + 0) 25 (.slice none 0 0))
    have hb1 := hg1.boxed (boxed_at w [_, _] 1 25 (.slice none 0 0) rfl : Boxed ((w.alloc (.cells #[.slice none 0 0] 25)).alloc (.cells #[.slice none 0 0] 25)) (w.heap.size + 1) 25 (.slice none 0 0))
    have hgw : G w w1 := (((G.refl w).alloc _).alloc _).trans hg1
    simp only [Nat.add_zero] at hb0
    have c0 := hb0.cell
    have c1 := hb1.cell
    have f0 := hb0.frozen
    have f1 := hb1.frozen
    clear hg1 hg0 hgw0 hg1'
    go_wp2_with fail
    have x0 := boxed_other (B' := w.heap.size + 1) (v' := .slice none 0 0) (hb0.set (.slice none 0 0)) (by omega)
    have x1 := (boxed_other (B' := w.heap.size) (v' := .slice none 0 0) hb1 (by omega)).set (.slice none 0 0)
    refine leave_nil (v := .tuple #[.slice none 0 0, .slice none 0 0, .int .i64 2]) (by simp [results, Try.results11, go_sem, x0.cell, x1.cell]) ⟨rfl, (hgw.setCell (by simp) _).setCell (by simp) _⟩
end Go.Proofs.Ythhjioehkgbphaa
