/- laid together: EdgeG -/
import Derived.Test.YthhmmjpgefinmaaEdgeF
import Derived.Laws.StructEq
/- edges: are two the same? -/
namespace Go.Proofs.Ythhmmjpgefinmaa
set_option linter.unusedVariables false
set_option linter.unusedSimpArgs false
open Go.RowKit Go.Shelf
attribute [local go_sem] Oper.semAt_some

theorem toList_iff (s x : ByteArray) : s.toList = x.toList ↔ s = x := by
  have := str_beq s x
  constructor
  · intro h; rw [h] at this; simpa using this
  · rintro rfl; rfl
theorem neq_prop (x0 : ByteArray) (x1 x2 : Int) (x3 y0 : ByteArray) (y1 y2 : Int) (y3 : ByteArray) (w : World) : (binOp BinOp.neq 105 (.agg #[.string x0, .int .i64 x1, .int .i64 x2, .string x3]) (.agg #[.string y0, .int .i64 y1, .int .i64 y2, .string y3])).run Try.prog w = .ok (.bool (!decide (((x0, x1, x2, x3) : Prp) = (y0, y1, y2, y3)))) w := by
  rw [run_neq_struct]
  simp [go_sem]
  simp only [toList_iff]
  by_cases h0 : x0 = y0 <;> by_cases h1 : x1 = y1 <;> by_cases h2 : x2 = y2 <;> by_cases h3 : x3 = y3 <;> simp [h0, h1, h2, h3]
theorem sameP_any (xs ys : List Prp) (va vb : Value) (w : World) (ha : Rdr w 4 va xs.length (pcells xs)) (hb : Rdr w 4 vb ys.length (pcells ys)) (hx : xs.length ≤ 4398046511104) (hy : ys.length ≤ 4398046511104) :
    Calls Try.prog 38 #[va, vb] w fun e w' => e = .returned (.bool (decide (xs = ys))) ∧ G w w' := by
  obtain ⟨-, p, c, rfl, hpc⟩ := id ha
  obtain ⟨-, q, d, rfl, hqd⟩ := id hb
  by_cases hl : xs.length = ys.length
  · obtain ⟨n, hnx⟩ : ∃ n, n = xs.length := ⟨_, rfl⟩
    have hny : n = ys.length := by omega
    rw [← hnx] at hpc ha hx ⊢
    rw [← hny] at hqd hb ⊢
    have HX := Lib.hid hnx
    have HY := Lib.hid hny
    have HP := Lib.hid hpc
    have HQ := Lib.hid hqd
    clear hnx hny hpc hqd ha hb hl hy
    go_enter Try.func38, Try.ntmps38
    go_wp2_with fail
    go_loopw [5] (fun i wr => ∃ k : Nat, k ≤ n ∧ i = .int .i64 k ∧ Hid (xs.take k = ys.take k) ∧ G w wr) (fun i _ => n - (intOf i).toNat)
    case atStart => exact ⟨0, by omega, rfl, (rfl : xs.take 0 = ys.take 0), G.refl _⟩
    case round =>
      obtain ⟨k, hk, rfl, HT, hg⟩ := hrel
      by_cases hlt : k < n
      · obtain ⟨x, hx1⟩ : ∃ x, xs[k]? = some x := ⟨xs[k]'(by have := HX.out; omega), List.getElem?_eq_getElem _⟩
        obtain ⟨y, hy1⟩ : ∃ y, ys[k]? = some y := ⟨ys[k]'(by have := HY.out; omega), List.getElem?_eq_getElem _⟩
        obtain ⟨b1, o1, rfl, h1⟩ := HP.out (by omega)
        obtain ⟨b2, o2, rfl, h2⟩ := HQ.out (by omega)
        obtain ⟨x0, x1, x2, x3⟩ := x
        obtain ⟨y0, y1, y2, y3⟩ := y
        obtain ⟨g0, g1, g2, g3⟩ := pcells_get hx1
        obtain ⟨e0, e1, e2, e3⟩ := pcells_get hy1
        have c0 := hg.cell (h1 _ _ g0)
        have c1 := hg.cell (h1 _ _ g1)
        have c2 := hg.cell (h1 _ _ g2)
        have c3 := hg.cell (h1 _ _ g3)
        have d0 := hg.cell (h2 _ _ e0)
        have d1 := hg.cell (h2 _ _ e1)
        have d2 := hg.cell (h2 _ _ e2)
        have d3 := hg.cell (h2 _ _ e3)
        simp only [← Nat.add_assoc] at c0 c1 c2 c3 d0 d1 d2 d3
        have HX1 := Lib.hid hx1
        have HY1 := Lib.hid hy1
        clear hx1 hy1 h1 h2 g0 g1 g2 g3 e0 e1 e2 e3
        by_cases hxy : ((x0, x1, x2, x3) : Prp) = (y0, y1, y2, y3)
        · have he : ∀ w : World, (binOp BinOp.neq 105 (.agg #[.string x0, .int .i64 x1, .int .i64 x2, .string x3]) (.agg #[.string y0, .int .i64 y1, .int .i64 y2, .string y3])).run Try.prog w = .ok (.bool false) w := fun w => by rw [neq_prop]; simp only [hxy, decide_true]; rfl
          go_wp2_with fail
          go_quiet (fail)
          go_wp2_with fail
          go_roundw
          case rel => exact ⟨k + 1, by omega, by go_num, take_step HT.out HX1.out HY1.out hxy, hg.drewN _⟩
          case measure => simp [intOf]; omega
        · have he : ∀ w : World, (binOp BinOp.neq 105 (.agg #[.string x0, .int .i64 x1, .int .i64 x2, .string x3]) (.agg #[.string y0, .int .i64 y1, .int .i64 y2, .string y3])).run Try.prog w = .ok (.bool true) w := fun w => by rw [neq_prop]; simp only [hxy, decide_false]; rfl
          have HV := Lib.hid (show decide (xs = ys) = false by simpa using take_ne_of_get HX1.out HY1.out hxy)
          go_wp2_with fail
          go_quiet (fail)
          go_wp2_with fail
          go_ret
          exact ⟨by rw [HV.out]; rfl, hg.drewN _⟩
      · have HV := Lib.hid (show decide (xs = ys) = true by simpa using take_all HT.out HX.out HY.out (by omega))
        go_wp2_with fail
        go_ret
        exact ⟨by rw [HV.out]; rfl, hg⟩
  · have HV := Lib.hid (show decide (xs = ys) = false by simp; rintro rfl; exact hl rfl)
    have hne : ((xs.length : Int) != (ys.length : Int)) = true := by simp; omega
    clear hpc hqd ha hb
    go_enter Try.func38, Try.ntmps38
    go_wp2_with fail
    go_ret
    exact ⟨by rw [HV.out]; rfl, G.refl _⟩

/-- are two edges the same, part by part? -/
def sameE (a b : Edg) : Bool := decide (a.f = b.f) && decide (a.t = b.t) && decide (a.l = b.l) && decide (a.tm = b.tm) && decide (a.ps = b.ps)
theorem sameE_any (A B : Edg) (w : World) (ha : EdgAt w A) (hb : EdgAt w B) : Calls Try.prog 22 #[ev A, ev B] w fun e w' => e = .returned (.bool (sameE A B)) ∧ G w w' := by
  obtain ⟨f, t, l, tm, v, ps⟩ := A
  obtain ⟨f2, t2, l2, tm2, v2, ps2⟩ := B
  have HS := Lib.hid (show sameE ⟨f, t, l, tm, v, ps⟩ ⟨f2, t2, l2, tm2, v2, ps2⟩ = (decide (f = f2) && decide (t = t2) && decide (l = l2) && decide (tm = tm2) && decide (ps = ps2)) from rfl)
  obtain ⟨W1, hW1⟩ : ∃ W1 : World, W1 = (w.alloc (.cells #[.string f, .string t, .string l, .int .i64 tm, v] 51)).alloc (.cells #[.string f2, .string t2, .string l2, .int .i64 tm2, v2] 51) := ⟨_, rfl⟩
  have hg1 : G w W1 := by rw [hW1]; exact ((G.refl w).alloc _).alloc _
  have HP := Lib.hid (sameP_any ps ps2 v v2 W1 (ha.g hg1).rdr (hb.g hg1).rdr ha.n hb.n)
  obtain ⟨-, vp, vc, hv, -⟩ := ha.rdr
  obtain ⟨-, wp, wc, hv2, -⟩ := hb.rdr
  simp only at hv hv2
  subst hv
  subst hv2
  rw [hW1] at HP hg1
  clear ha hb hW1
  unfold ev
  simp only
  by_cases h0 : f = f2
  · have e0 := str_eq h0
    by_cases h1 : t = t2
    · have e1 := str_eq h1
      by_cases h2 : l = l2
      · have e2 := str_eq h2
        by_cases h3 : tm = tm2
        · have H2 := Lib.hid (HS.out.trans (show _ = decide (ps = ps2) by simp [h0, h1, h2, h3]))
          clear HS h0 h1 h2
          subst h3
          go_enter Try.func22, Try.ntmps22
          go_wp2_with fail
          refine HP.out.mono ?_
          rintro e w2 ⟨rfl, hg2⟩
          go_wp2_with fail
          go_ret
          exact ⟨by rw [H2.out]; rfl, hg1.trans hg2⟩
        · have H2 := Lib.hid (HS.out.trans (show _ = false by simp [h3]))
          clear HS h0 h1 h2 HP
          go_enter Try.func22, Try.ntmps22
          go_wp2_with fail
          go_ret
          exact ⟨by rw [H2.out]; rfl, hg1⟩
      · have e2 := str_ne h2
        have H2 := Lib.hid (HS.out.trans (show _ = false by simp [h2]))
        clear HS h0 h1 h2 HP
        go_enter Try.func22, Try.ntmps22
        go_wp2_with fail
        go_ret
        exact ⟨by rw [H2.out]; rfl, hg1⟩
    · have e1 := str_ne h1
      have H2 := Lib.hid (HS.out.trans (show _ = false by simp [h1]))
      clear HS h0 h1 HP
      go_enter Try.func22, Try.ntmps22
      go_wp2_with fail
      go_ret
      exact ⟨by rw [H2.out]; rfl, hg1⟩
  · have e0 := str_ne h0
    have H2 := Lib.hid (HS.out.trans (show _ = false by simp [h0]))
    clear HS h0 HP
    go_enter Try.func22, Try.ntmps22
    go_wp2_with fail
    go_ret
    exact ⟨by rw [H2.out]; rfl, hg1⟩
end Go.Proofs.Ythhmmjpgefinmaa
