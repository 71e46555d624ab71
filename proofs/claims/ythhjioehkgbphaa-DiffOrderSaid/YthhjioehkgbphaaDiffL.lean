/- of three rows: the walk of DiffOrder -/
import Derived.Test.YthhjioehkgbphaaDiffK
import Derived.Test.YthhjioehkgbphaaDiffP
namespace Go.Proofs.Ythhjioehkgbphaa
set_option linter.unusedVariables false
set_option linter.unusedSimpArgs false
open Go.RowKit Go.Shelf
attribute [local go_sem] Oper.semAt_some

theorem one_row {W : World} {v : Value} {l : List Val} (h : RdrV W v l) : RdrRV (W.alloc (.cells #[v] 22)) (.slice (some ⟨W.heap.size, 0, none⟩) 1 1) [l] := by
  refine ⟨[v], rdr_alloc W [v] 22 (0, 0) 1 1 1 rfl, fun i m hm => ?_⟩
  cases i with
  | zero => cases hm; exact ⟨v, rfl, h.g ((G.refl W).alloc _)⟩
  | succ i => simp at hm
theorem right_one (l : List Val) (v : Value) (W : World) (h : RdrV W v l) (ht : ∀ x ∈ l, x.2.2.size ≤ maxLen) (hl : l.length ≤ 1099511627776) : Calls Try.prog 7 #[.slice (some ⟨W.heap.size, 0, none⟩) 1 1] (W.alloc (.cells #[v] 22)) fun e w' => e = .returned (.bool (l.all valR)) ∧ G W w' := by
  refine (dright_any [l] _ _ (one_row h) (by simpa using ht) (by simpa using hl) (by simp)).mono ?_
  rintro e w' ⟨rfl, hg⟩
  exact ⟨by simp [rgt], ((G.refl W).alloc _).trans hg⟩
/-- what is asked of the four comparisons -/
theorem order_law (xs ys zs : List Val) : rcmp ys xs = - rcmp xs ys ∧ (rcmp xs ys = 0 ↔ xs = ys) ∧ (rcmp xs ys ≤ 0 → rcmp ys zs ≤ 0 → rcmp xs zs = min (rcmp xs ys) (rcmp ys zs)) ∧ (rcmp xs ys = -1 ∨ rcmp xs ys = 0 ∨ rcmp xs ys = 1) ∧ (rcmp ys zs = -1 ∨ rcmp ys zs = 0 ∨ rcmp ys zs = 1) := by
  have hg := good_row
  refine ⟨?_, hg.eq xs ys, ?_, ?_, ?_⟩
  · have := hg.anti xs ys; omega
  · have h1 := hg.tr xs ys zs
    have := hg.rng xs ys; have := hg.rng ys zs; have := hg.rng xs zs
    omega
  · have := hg.rng xs ys; omega
  · have := hg.rng ys zs; omega
set_option maxHeartbeats 1000000 in
set_option maxRecDepth 100000 in
theorem order_any (xs ys zs : List Val) (va vb vc : Value) (w : World) (ha : RdrV w va xs) (hb : RdrV w vb ys) (hc : RdrV w vc zs) (hx : xs.length ≤ 4398046511104) (hy : ys.length ≤ 4398046511104) (hz : zs.length ≤ 4398046511104)
    (tx : ∀ x ∈ xs, x.2.2.size ≤ maxLen) (ty : ∀ x ∈ ys, x.2.2.size ≤ maxLen) (tz : ∀ x ∈ zs, x.2.2.size ≤ maxLen) :
    Calls Try.prog 3 #[va, vb, vc] w fun e w' => e = .returned (.bool true) ∧ G w w' := by
  obtain ⟨ap, ac, rfl⟩ := ha.shape
  obtain ⟨bp, bc, rfl⟩ := hb.shape
  obtain ⟨cp, cc, rfl⟩ := hc.shape
  obtain ⟨a, han⟩ : ∃ a, a = xs.length := ⟨_, rfl⟩
  obtain ⟨b, hbn⟩ : ∃ a, a = ys.length := ⟨_, rfl⟩
  obtain ⟨c, hcn⟩ : ∃ a, a = zs.length := ⟨_, rfl⟩
  have HA := Lib.hid ha
  have HB := Lib.hid hb
  have HC := Lib.hid hc
  have HTX := Lib.hid tx
  have HTY := Lib.hid ty
  have HTZ := Lib.hid tz
  have HO := Lib.hid (order_law xs ys zs)
  rw [← han] at HA hx ⊢
  rw [← hbn] at HB hy ⊢
  rw [← hcn] at HC hz ⊢
  have HAN := Lib.hid han
  have HBN := Lib.hid hbn
  have HCN := Lib.hid hcn
  clear ha hb hc tx ty tz han hbn hcn
  go_enter Try.func3, Try.ntmps3
  go_wp2_with fail
  refine (awake_any w).mono ?_
  rintro e w1 ⟨rfl, hg1⟩
  by_cases hs : 400 < (a : Int) + (b : Int) + (c : Int)
  · go_wp2_with fail
    go_ret
    exact ⟨rfl, hg1⟩
  have hs' : decide (400 < (a : Int) + (b : Int) + (c : Int)) = false := by simpa using hs
  have h1 := right_one xs _ w1 (HA.out.g hg1) HTX.out (by rw [← HAN.out]; omega)
  cases hrx : xs.all valR
  · rw [hrx] at h1
    have H1 := Lib.hid h1
    clear h1 hrx
    go_wp2_with fail
    refine H1.out.mono ?_
    rintro e w2 ⟨rfl, hg2⟩
    have hg3 := hg1.trans hg2
    go_wp2_with fail
    go_ret
    exact ⟨rfl, hg3⟩
  rw [hrx] at h1
  have H1 := Lib.hid h1
  clear h1 hrx
  go_wp2_with fail
  refine H1.out.mono ?_
  rintro e w2 ⟨rfl, hg2⟩
  have hg3 := hg1.trans hg2
  clear H1 hg1 hg2
  have h1 := right_one ys _ w2 (HB.out.g hg3) HTY.out (by rw [← HBN.out]; omega)
  cases hrx : ys.all valR
  · rw [hrx] at h1
    have H1 := Lib.hid h1
    clear h1 hrx
    go_wp2_with fail
    refine H1.out.mono ?_
    rintro e w3 ⟨rfl, hg2⟩
    have hg4 := hg3.trans hg2
    go_wp2_with fail
    go_ret
    exact ⟨rfl, hg4⟩
  rw [hrx] at h1
  have H1 := Lib.hid h1
  clear h1 hrx
  go_wp2_with fail
  refine H1.out.mono ?_
  rintro e w3 ⟨rfl, hg2⟩
  have hg4 := hg3.trans hg2
  clear H1 hg3 hg2
  have h1 := right_one zs _ w3 (HC.out.g hg4) HTZ.out (by rw [← HCN.out]; omega)
  cases hrx : zs.all valR
  · rw [hrx] at h1
    have H1 := Lib.hid h1
    clear h1 hrx
    go_wp2_with fail
    refine H1.out.mono ?_
    rintro e w4 ⟨rfl, hg2⟩
    have hg5 := hg4.trans hg2
    go_wp2_with fail
    go_ret
    exact ⟨rfl, hg5⟩
  rw [hrx] at h1
  have H1 := Lib.hid h1
  clear h1 hrx
  go_wp2_with fail
  refine H1.out.mono ?_
  rintro e w4 ⟨rfl, hg2⟩
  have hg5 := hg4.trans hg2
  clear H1 hg4 hg2
  have bx : xs.length ≤ 1099511627776 := by rw [← HAN.out]; omega
  have by' : ys.length ≤ 1099511627776 := by rw [← HBN.out]; omega
  have bz : zs.length ≤ 1099511627776 := by rw [← HCN.out]; omega
  obtain ⟨o1, o2, o3, o4, o5⟩ := HO.out
  have K1 := Lib.hid (fun W hg => dcmp_any xs ys _ _ W (HA.out.g hg) (HB.out.g hg) bx by' : ∀ W, G w W → Calls Try.prog 8 #[.slice ap a ac, .slice bp b bc] W _)
  have K2 := Lib.hid (fun W hg => dcmp_any ys zs _ _ W (HB.out.g hg) (HC.out.g hg) by' bz : ∀ W, G w W → Calls Try.prog 8 #[.slice bp b bc, .slice cp c cc] W _)
  have K3 := Lib.hid (fun W hg => dcmp_any xs zs _ _ W (HA.out.g hg) (HC.out.g hg) bx bz : ∀ W, G w W → Calls Try.prog 8 #[.slice ap a ac, .slice cp c cc] W _)
  have K4 := Lib.hid (fun W hg => dcmp_any ys xs _ _ W (HB.out.g hg) (HA.out.g hg) by' bx : ∀ W, G w W → Calls Try.prog 8 #[.slice bp b bc, .slice ap a ac] W _)
  have K5 := Lib.hid (fun W hg => sameV_any xs ys _ _ W (HA.out.g hg) (HB.out.g hg) bx by' : ∀ W, G w W → Calls Try.prog 9 #[.slice ap a ac, .slice bp b bc] W _)
  rw [o1] at K4
  rw [show decide (xs = ys) = decide (rcmp xs ys = 0) from by rw [decide_eq_decide]; exact o2.symm] at K5
  generalize rcmp xs ys = x at K1 K4 K5 o3 o4
  generalize rcmp ys zs = y at K2 o3 o5
  generalize rcmp xs zs = z at K3 o3
  clear o1 o2 HO HA HB HC HTX HTY HTZ HAN HBN HCN bx by' bz hs hs'
  have o6 : x = 1 ∨ (x = -1 ∧ y = 1) ∨ (x = 0 ∧ y = 1) ∨ (x = -1 ∧ y = -1 ∧ z = -1) ∨ (x = z ∧ y = 0 ∧ z < 0 ∧ -1 ≤ z) ∨ (x = 0 ∧ y = z ∧ z < 0 ∧ -1 ≤ z) ∨ (x = 0 ∧ y = 0 ∧ z = 0) := by
    by_cases h1 : x ≤ 0
    · by_cases h2 : y ≤ 0
      · have := o3 h1 h2; omega
      · omega
    · omega
  clear o3 o4 o5
  rcases o6 with rfl | ⟨rfl, rfl⟩ | ⟨rfl, rfl⟩ | ⟨rfl, rfl, rfl⟩ | ⟨rfl, rfl, hz1, hz2⟩ | ⟨rfl, rfl, hz1, hz2⟩ | ⟨rfl, rfl, rfl⟩
  · try simp only [Int.reduceNeg, Int.neg_zero, Int.neg_neg] at K4
    first
    | rw [show decide ((-1 : Int) = 0) = false from rfl] at K5
    | rw [show decide ((0 : Int) = 0) = true from rfl] at K5
    | rw [show decide ((1 : Int) = 0) = false from rfl] at K5
    go_wp2_with fail
    refine (K1.out w4 hg5).mono ?_
    rintro e w5 ⟨rfl, hga⟩
    have hg6 := hg5.trans hga
    clear hg5 hga
    go_wp2_with fail
    refine (K2.out w5 hg6).mono ?_
    rintro e w6 ⟨rfl, hga⟩
    have hg7 := hg6.trans hga
    clear hg6 hga
    go_wp2_with fail
    refine (K3.out w6 hg7).mono ?_
    rintro e w7 ⟨rfl, hga⟩
    have hg8 := hg7.trans hga
    clear hg7 hga
    go_wp2_with fail
    refine (K4.out w7 hg8).mono ?_
    rintro e w8 ⟨rfl, hga⟩
    have hg9 := hg8.trans hga
    clear hg8 hga
    go_wp2_with fail
    refine (K5.out w8 hg9).mono ?_
    rintro e w9 ⟨rfl, hga⟩
    have hg10 := hg9.trans hga
    clear hg9 hga
    go_wp2_with fail
    go_ret
    exact ⟨rfl, hg10⟩
  · try simp only [Int.reduceNeg, Int.neg_zero, Int.neg_neg] at K4
    first
    | rw [show decide ((-1 : Int) = 0) = false from rfl] at K5
    | rw [show decide ((0 : Int) = 0) = true from rfl] at K5
    | rw [show decide ((1 : Int) = 0) = false from rfl] at K5
    go_wp2_with fail
    refine (K1.out w4 hg5).mono ?_
    rintro e w5 ⟨rfl, hga⟩
    have hg6 := hg5.trans hga
    clear hg5 hga
    go_wp2_with fail
    refine (K2.out w5 hg6).mono ?_
    rintro e w6 ⟨rfl, hga⟩
    have hg7 := hg6.trans hga
    clear hg6 hga
    go_wp2_with fail
    refine (K3.out w6 hg7).mono ?_
    rintro e w7 ⟨rfl, hga⟩
    have hg8 := hg7.trans hga
    clear hg7 hga
    go_wp2_with fail
    refine (K4.out w7 hg8).mono ?_
    rintro e w8 ⟨rfl, hga⟩
    have hg9 := hg8.trans hga
    clear hg8 hga
    go_wp2_with fail
    refine (K5.out w8 hg9).mono ?_
    rintro e w9 ⟨rfl, hga⟩
    have hg10 := hg9.trans hga
    clear hg9 hga
    go_wp2_with fail
    go_ret
    exact ⟨rfl, hg10⟩
  · try simp only [Int.reduceNeg, Int.neg_zero, Int.neg_neg] at K4
    first
    | rw [show decide ((-1 : Int) = 0) = false from rfl] at K5
    | rw [show decide ((0 : Int) = 0) = true from rfl] at K5
    | rw [show decide ((1 : Int) = 0) = false from rfl] at K5
    go_wp2_with fail
    refine (K1.out w4 hg5).mono ?_
    rintro e w5 ⟨rfl, hga⟩
    have hg6 := hg5.trans hga
    clear hg5 hga
    go_wp2_with fail
    refine (K2.out w5 hg6).mono ?_
    rintro e w6 ⟨rfl, hga⟩
    have hg7 := hg6.trans hga
    clear hg6 hga
    go_wp2_with fail
    refine (K3.out w6 hg7).mono ?_
    rintro e w7 ⟨rfl, hga⟩
    have hg8 := hg7.trans hga
    clear hg7 hga
    go_wp2_with fail
    refine (K4.out w7 hg8).mono ?_
    rintro e w8 ⟨rfl, hga⟩
    have hg9 := hg8.trans hga
    clear hg8 hga
    go_wp2_with fail
    refine (K5.out w8 hg9).mono ?_
    rintro e w9 ⟨rfl, hga⟩
    have hg10 := hg9.trans hga
    clear hg9 hga
    go_wp2_with fail
    go_ret
    exact ⟨rfl, hg10⟩
  · try simp only [Int.reduceNeg, Int.neg_zero, Int.neg_neg] at K4
    first
    | rw [show decide ((-1 : Int) = 0) = false from rfl] at K5
    | rw [show decide ((0 : Int) = 0) = true from rfl] at K5
    | rw [show decide ((1 : Int) = 0) = false from rfl] at K5
    go_wp2_with fail
    refine (K1.out w4 hg5).mono ?_
    rintro e w5 ⟨rfl, hga⟩
    have hg6 := hg5.trans hga
    clear hg5 hga
    go_wp2_with fail
    refine (K2.out w5 hg6).mono ?_
    rintro e w6 ⟨rfl, hga⟩
    have hg7 := hg6.trans hga
    clear hg6 hga
    go_wp2_with fail
    refine (K3.out w6 hg7).mono ?_
    rintro e w7 ⟨rfl, hga⟩
    have hg8 := hg7.trans hga
    clear hg7 hga
    go_wp2_with fail
    refine (K4.out w7 hg8).mono ?_
    rintro e w8 ⟨rfl, hga⟩
    have hg9 := hg8.trans hga
    clear hg8 hga
    go_wp2_with fail
    refine (K5.out w8 hg9).mono ?_
    rintro e w9 ⟨rfl, hga⟩
    have hg10 := hg9.trans hga
    clear hg9 hga
    go_wp2_with fail
    go_ret
    exact ⟨rfl, hg10⟩
  · try simp only [Int.reduceNeg, Int.neg_zero, Int.neg_neg] at K4
    have hz3 : (x == 0) = false := by simp; omega
    have hz4 : min x 0 = x := by omega
    have hz5 : x ≤ 1 := by omega
    rw [show decide (x = 0) = false from by simp; omega] at K5
    go_wp2_with fail
    refine (K1.out w4 hg5).mono ?_
    rintro e w5 ⟨rfl, hga⟩
    have hg6 := hg5.trans hga
    clear hg5 hga
    go_wp2_with fail
    refine (K2.out w5 hg6).mono ?_
    rintro e w6 ⟨rfl, hga⟩
    have hg7 := hg6.trans hga
    clear hg6 hga
    go_wp2_with fail
    refine (K3.out w6 hg7).mono ?_
    rintro e w7 ⟨rfl, hga⟩
    have hg8 := hg7.trans hga
    clear hg7 hga
    go_wp2_with fail
    refine (K4.out w7 hg8).mono ?_
    rintro e w8 ⟨rfl, hga⟩
    have hg9 := hg8.trans hga
    clear hg8 hga
    go_wp2_with fail
    refine (K5.out w8 hg9).mono ?_
    rintro e w9 ⟨rfl, hga⟩
    have hg10 := hg9.trans hga
    clear hg9 hga
    go_wp2_with fail
    go_ret
    exact ⟨rfl, hg10⟩
  · try simp only [Int.reduceNeg, Int.neg_zero, Int.neg_neg] at K4
    have hz3 : (y == 0) = false := by simp; omega
    have hz4 : min 0 y = y := by omega
    rw [show decide ((0 : Int) = 0) = true from rfl] at K5
    go_wp2_with fail
    refine (K1.out w4 hg5).mono ?_
    rintro e w5 ⟨rfl, hga⟩
    have hg6 := hg5.trans hga
    clear hg5 hga
    go_wp2_with fail
    refine (K2.out w5 hg6).mono ?_
    rintro e w6 ⟨rfl, hga⟩
    have hg7 := hg6.trans hga
    clear hg6 hga
    go_wp2_with fail
    refine (K3.out w6 hg7).mono ?_
    rintro e w7 ⟨rfl, hga⟩
    have hg8 := hg7.trans hga
    clear hg7 hga
    go_wp2_with fail
    refine (K4.out w7 hg8).mono ?_
    rintro e w8 ⟨rfl, hga⟩
    have hg9 := hg8.trans hga
    clear hg8 hga
    go_wp2_with fail
    refine (K5.out w8 hg9).mono ?_
    rintro e w9 ⟨rfl, hga⟩
    have hg10 := hg9.trans hga
    clear hg9 hga
    go_wp2_with fail
    go_ret
    exact ⟨rfl, hg10⟩
  · try simp only [Int.reduceNeg, Int.neg_zero, Int.neg_neg] at K4
    first
    | rw [show decide ((-1 : Int) = 0) = false from rfl] at K5
    | rw [show decide ((0 : Int) = 0) = true from rfl] at K5
    | rw [show decide ((1 : Int) = 0) = false from rfl] at K5
    go_wp2_with fail
    refine (K1.out w4 hg5).mono ?_
    rintro e w5 ⟨rfl, hga⟩
    have hg6 := hg5.trans hga
    clear hg5 hga
    go_wp2_with fail
    refine (K2.out w5 hg6).mono ?_
    rintro e w6 ⟨rfl, hga⟩
    have hg7 := hg6.trans hga
    clear hg6 hga
    go_wp2_with fail
    refine (K3.out w6 hg7).mono ?_
    rintro e w7 ⟨rfl, hga⟩
    have hg8 := hg7.trans hga
    clear hg7 hga
    go_wp2_with fail
    refine (K4.out w7 hg8).mono ?_
    rintro e w8 ⟨rfl, hga⟩
    have hg9 := hg8.trans hga
    clear hg8 hga
    go_wp2_with fail
    refine (K5.out w8 hg9).mono ?_
    rintro e w9 ⟨rfl, hga⟩
    have hg10 := hg9.trans hga
    clear hg9 hga
    go_wp2_with fail
    go_ret
    exact ⟨rfl, hg10⟩
end Go.Proofs.Ythhjioehkgbphaa
