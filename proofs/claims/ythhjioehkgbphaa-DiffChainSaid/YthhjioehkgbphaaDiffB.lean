/- rows of values: how they compare, whether they are right -/
import Derived.Test.YthhjioehkgbphaaDiffA
namespace Go.Proofs.Ythhjioehkgbphaa
set_option linter.unusedVariables false
set_option linter.unusedSimpArgs false
open Go.RowKit Go.Shelf
attribute [local go_sem] Oper.semAt_some

def vcells : List Val → List Value
  | [] => []
  | x :: l => .int .i64 x.1 :: .int .i64 x.2.1 :: .string x.2.2 :: vcells l
theorem vcells_len : ∀ l : List Val, (vcells l).length = l.length * 3
  | [] => rfl
  | x :: l => by simp [vcells, vcells_len l]; omega
theorem vcells_get : ∀ {l : List Val} {k : Nat} {x : Val}, l[k]? = some x → (vcells l)[k * 3]? = some (.int .i64 x.1) ∧ (vcells l)[k * 3 + 1]? = some (.int .i64 x.2.1) ∧ (vcells l)[k * 3 + 2]? = some (.string x.2.2)
  | y :: l, 0, x, h => by
    cases h
    exact ⟨rfl, rfl, rfl⟩
  | y :: l, k + 1, x, h => by
    have h' : l[k]? = some x := by simpa using h
    obtain ⟨a, b, c⟩ := vcells_get h'
    have e : (k + 1) * 3 = k * 3 + 3 := by omega
    rw [e]
    exact ⟨by simpa [vcells] using a, by simpa [vcells] using b, by simpa [vcells] using c⟩
/-- the slice v has these values -/
def RdrV (W : World) (v : Value) (l : List Val) : Prop := Rdr W 3 v l.length (vcells l)
theorem RdrV.g {W W' : World} {v : Value} {l : List Val} (h : RdrV W v l) (hg : G W W') : RdrV W' v l := Rdr.g h hg
theorem RdrV.shape {W : World} {v : Value} {l : List Val} (h : RdrV W v l) : ∃ p c, v = .slice p l.length c := by
  obtain ⟨h1, p, c, rfl, h2⟩ := h
  exact ⟨p, c, rfl⟩
theorem RdrV.cells {W : World} {p : Option Addr} {n c : Nat} {l : List Val} (h : RdrV W (.slice p n c) l) {k : Nat} (hk : k < l.length) : ∃ b o x, p = some ⟨b, o, none⟩ ∧ l[k]? = some x ∧
    W.cell? ⟨b, o + k * 3, none⟩ = some (.int .i64 x.1) ∧ W.cell? ⟨b, o + k * 3 + 1, none⟩ = some (.int .i64 x.2.1) ∧ W.cell? ⟨b, o + k * 3 + 2, none⟩ = some (.string x.2.2) := by
  obtain ⟨h1, p, c, he, h2⟩ := h
  cases he
  obtain ⟨b, o, rfl, hc⟩ := h2 (by omega)
  obtain ⟨a, b', c'⟩ := vcells_get (List.getElem?_eq_getElem hk)
  refine ⟨b, o, l[k], rfl, List.getElem?_eq_getElem hk, hc _ _ a, ?_, ?_⟩
  · have := hc _ _ b'; rwa [show o + (k * 3 + 1) = o + k * 3 + 1 by omega] at this
  · have := hc _ _ c'; rwa [show o + (k * 3 + 2) = o + k * 3 + 2 by omega] at this

/-- how two rows stand -/
def rcmp : List Val → List Val → Int
  | [], [] => 0
  | [], _ :: _ => -1
  | _ :: _, [] => 1
  | a :: l, b :: m => if vcmp a b = 0 then rcmp l m else vcmp a b
theorem rcmp_drop {xs ys : List Val} {k : Nat} {x y : Val} (hx : xs[k]? = some x) (hy : ys[k]? = some y) : rcmp (xs.drop k) (ys.drop k) = if vcmp x y = 0 then rcmp (xs.drop (k + 1)) (ys.drop (k + 1)) else vcmp x y := by
  obtain ⟨h1, h2⟩ := List.getElem?_eq_some_iff.1 hx
  obtain ⟨h3, h4⟩ := List.getElem?_eq_some_iff.1 hy
  rw [List.drop_eq_getElem_cons h1, List.drop_eq_getElem_cons h3, h2, h4, rcmp]

set_option maxHeartbeats 400000 in
theorem cmpF_any (xs ys : List Val) (va vb : Value) (w : World) (ha : RdrV w va xs) (hb : RdrV w vb ys) (hx : xs.length ≤ 1099511627776) (hy : ys.length ≤ 1099511627776) :
    Calls Try.prog 20 #[va, vb, .func (.func 21) #[] #[]] w fun e w' => e = .returned (.int .i64 (rcmp xs ys)) ∧ G w w' := by
  obtain ⟨p, c, rfl⟩ := ha.shape
  obtain ⟨q, d, rfl⟩ := hb.shape
  obtain ⟨n, hn⟩ : ∃ n, n = xs.length := ⟨_, rfl⟩
  obtain ⟨m, hm⟩ : ∃ m, m = ys.length := ⟨_, rfl⟩
  rw [← hn] at hx
  rw [← hm] at hy
  simp only [← hn, ← hm]
  have HA := Lib.hid ha
  have HB := Lib.hid hb
  have HN := Lib.hid hn
  have HM := Lib.hid hm
  clear ha hb hn hm
  go_enter Try.func20, Try.ntmps20
  go_wp2_with fail
  go_loopw [13] (fun i wr => ∃ k : Nat, k ≤ n ∧ k ≤ m ∧ i = .int .i64 k ∧ Hid (rcmp xs ys = rcmp (xs.drop k) (ys.drop k)) ∧ G w wr) (fun i _ => n - (intOf i).toNat)
  case atStart => exact ⟨0, by omega, by omega, rfl, (rfl : rcmp xs ys = rcmp (xs.drop 0) (ys.drop 0)), G.refl w⟩
  case round =>
    obtain ⟨k, hk, hk2, rfl, HR, hg⟩ := hrel
    by_cases hlt : k < n
    · obtain ⟨b, o, x, rfl, hxx, c1, c2, c3⟩ := HA.out.cells (k := k) (by have := HN.out; omega)
      have k1 := hg.cell c1
      have k2 := hg.cell c2
      have k3 := hg.cell c3
      have HX := Lib.hid hxx
      clear c1 c2 c3 hxx
      by_cases hlt2 : k < m
      · obtain ⟨b', o', y, rfl, hyy, d1, d2, d3⟩ := HB.out.cells (k := k) (by have := HM.out; omega)
        have k4 := hg.cell d1
        have k5 := hg.cell d2
        have k6 := hg.cell d3
        have HY := Lib.hid hyy
        clear d1 d2 d3 hyy
        have l1 := World.block_lt_of_cell? wr _ k4
        have hcmp := vcmp_any x y ((wr.alloc (.cells #[.int .i64 x.1, .int .i64 x.2.1, .string x.2.2] 46)).alloc (.cells #[.int .i64 y.1, .int .i64 y.2.1, .string y.2.2] 46))
        unfold vv at hcmp
        have hmk : decide (m ≤ k) = false := by simp; omega
        by_cases h0 : vcmp x y = 0
        · have HR1 := Lib.hid (show rcmp xs ys = rcmp (xs.drop (k + 1)) (ys.drop (k + 1)) by rw [HR.out, rcmp_drop HX.out HY.out, if_pos h0])
          rw [h0] at hcmp
          have HC := Lib.hid hcmp
          clear hcmp h0
          go_wp2_with fail
          refine HC.out.mono ?_
          rintro e w2 ⟨rfl, hg2⟩
          have hg3 : G w w2 := ((hg.alloc _).alloc _).trans hg2
          clear hmk
          go_wp2_with fail
          go_roundw
          case rel => exact ⟨k + 1, by omega, by omega, by go_num, HR1, hg3⟩
          case measure => simp [intOf]; omega
        · have HR1 := Lib.hid (show rcmp xs ys = vcmp x y by rw [HR.out, rcmp_drop HX.out HY.out, if_neg h0])
          generalize vcmp x y = r at hcmp h0 HR1
          have HC := Lib.hid hcmp
          clear hcmp
          go_wp2_with fail
          refine HC.out.mono ?_
          rintro e w2 ⟨rfl, hg2⟩
          have hg3 : G w w2 := ((hg.alloc _).alloc _).trans hg2
          clear hmk
          go_wp2_with fail
          go_ret
          exact ⟨by rw [HR1.out]; rfl, hg3⟩
      · obtain rfl : k = m := by omega
        have HR1 := Lib.hid (show rcmp xs ys = 1 by
          obtain ⟨h1, h2⟩ := List.getElem?_eq_some_iff.1 HX.out
          rw [HR.out, List.drop_eq_getElem_cons h1, show ys.drop k = [] from List.drop_of_length_le (by have := HM.out; omega), rcmp])
        go_wp2_with fail
        go_ret
        exact ⟨by rw [HR1.out]; rfl, hg.alloc _⟩
    · obtain rfl : k = n := by omega
      by_cases hlt2 : k < m
      · have HR1 := Lib.hid (show rcmp xs ys = -1 by
          rw [HR.out, List.drop_of_length_le (by have := HN.out; omega), List.drop_eq_getElem_cons (show k < ys.length by have := HM.out; omega), rcmp])
        go_wp2_with fail
        go_ret
        exact ⟨by rw [HR1.out]; rfl, hg⟩
      · have HR1 := Lib.hid (show rcmp xs ys = 0 by
          rw [HR.out, List.drop_of_length_le (by have := HN.out; omega), List.drop_of_length_le (by have := HM.out; omega), rcmp])
        have hmk : decide (k < m) = false := by simp; omega
        go_wp2_with fail
        go_ret
        exact ⟨by rw [HR1.out]; rfl, hg⟩
end Go.Proofs.Ythhjioehkgbphaa
