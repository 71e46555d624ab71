/- rows of edges: two runs of edges change places -/
import Derived.Test.YtfdajignnnhnmaaSortM
namespace Go.Proofs.Ytfdajignnnhnmaa
set_option linter.unusedVariables false
set_option linter.unusedSimpArgs false
open Go.RowKit Go.Shelf
attribute [local go_sem] Oper.semAt_some

theorem eat_mid (P R : List Edg) (x : Edg) (i : Nat) (hi : i = P.length) : eat (P ++ x :: R) i = x := by
  subst hi
  exact eat_of (by rw [List.getElem?_append_right (Nat.le_refl _), Nat.sub_self]; rfl)
theorem swap_app (P Q R : List Edg) (x y : Edg) (i j : Nat) (hi : i = P.length) (hj : j = P.length + 1 + Q.length) : eswp (P ++ x :: (Q ++ y :: R)) i j = P ++ y :: (Q ++ x :: R) := by
  have e1 : eat (P ++ x :: (Q ++ y :: R)) i = x := eat_mid _ _ _ _ hi
  have e2 : eat (P ++ x :: (Q ++ y :: R)) j = y := by
    rw [show P ++ x :: (Q ++ y :: R) = (P ++ x :: Q) ++ y :: R by simp]
    exact eat_mid _ _ _ _ (by rw [hj]; simp; omega)
  unfold eswp
  rw [e1, e2]
  subst hi hj
  rw [List.set_append_right _ _ (Nat.le_refl _), Nat.sub_self, List.set_cons_zero, List.set_append_right _ _ (by omega)]
  rw [show P.length + 1 + Q.length - P.length = Q.length + 1 by omega, List.set_cons_succ, List.set_append_right _ _ (Nat.le_refl _), Nat.sub_self, List.set_cons_zero]
/-- two runs that have changed places for the first k -/
def runs (A X M Y B : List Edg) (k : Nat) : List Edg := A ++ ((Y.take k ++ X.drop k) ++ (M ++ ((X.take k ++ Y.drop k) ++ B)))
theorem runs_step {A X M Y B : List Edg} {k : Nat} (hk : k < X.length) (hxy : X.length = Y.length) : eswp (runs A X M Y B k) (A.length + k) (A.length + X.length + M.length + k) = runs A X M Y B (k + 1) := by
  have hx : X.drop k = X[k] :: X.drop (k + 1) := List.drop_eq_getElem_cons hk
  have hy : Y.drop k = Y[k]'(by omega) :: Y.drop (k + 1) := List.drop_eq_getElem_cons (by omega)
  have hx2 : X.take (k + 1) = X.take k ++ [X[k]] := (List.take_append_getElem hk).symm
  have hy2 : Y.take (k + 1) = Y.take k ++ [Y[k]'(by omega)] := (List.take_append_getElem (by omega)).symm
  generalize X[k] = x at *
  generalize Y[k]'(by omega) = y at *
  have l1 : (Y.take k).length = k := by rw [List.length_take]; omega
  have l2 : (X.take k).length = k := by rw [List.length_take]; omega
  have l3 : (X.drop (k + 1)).length = X.length - (k + 1) := List.length_drop
  have e := swap_app (A ++ Y.take k) (X.drop (k + 1) ++ (M ++ X.take k)) (Y.drop (k + 1) ++ B) x y (A.length + k) (A.length + X.length + M.length + k) (by rw [List.length_append, l1]) (by simp only [List.length_append, l1, l2, l3]; omega)
  unfold runs
  rw [hx, hy, hx2, hy2]
  simp only [List.append_assoc, List.cons_append, List.nil_append] at e ⊢
  exact e
theorem runs_all {A X M Y B : List Edg} (hxy : X.length = Y.length) : runs A X M Y B X.length = A ++ (Y ++ (M ++ (X ++ B))) := by
  unfold runs
  rw [List.take_of_length_le (by omega), List.drop_of_length_le (by omega), List.take_of_length_le (by omega), List.drop_of_length_le (by omega)]
  simp
theorem runs_none {A X M Y B : List Edg} : runs A X M Y B 0 = A ++ (X ++ (M ++ (Y ++ B))) := by simp [runs]
theorem runs_len {A X M Y B : List Edg} {k : Nat} (hk : k ≤ X.length) (hxy : X.length = Y.length) : (runs A X M Y B k).length = A.length + X.length + M.length + Y.length + B.length := by
  unfold runs
  simp only [List.length_append, List.length_take, List.length_drop]
  omega
set_option maxRecDepth 10000 in
set_option maxHeartbeats 4000000 in
theorem swapRange_any (A X M Y B : List Edg) (g n c a b m : Nat) (w : World) (h : In w g n c (A ++ (X ++ (M ++ (Y ++ B))))) (hxy : X.length = Y.length) (hm : m = X.length) (ha : a = A.length) (hb : b = A.length + X.length + M.length) (hn : n ≤ 1000000) :
    Calls Try.prog 90 #[.slice (some ⟨g, 0, none⟩) n c, .int .i64 a, .int .i64 b, .int .i64 m, CMPF] w fun e w' => (∃ u, e = .returned u) ∧ In w' g n c (A ++ (Y ++ (M ++ (X ++ B)))) ∧ Fr (fun q => q = g) w w' := by
  have HI0 := Lib.hid h
  have HXY := Lib.hid hxy
  have HMM := Lib.hid hm
  have HAA := Lib.hid ha
  have HBB := Lib.hid hb
  have hlen := h.len
  simp only [List.length_append] at hlen
  have h1 : b + m ≤ n := by omega
  have h2 : a + m ≤ b := by omega
  clear h hxy hm ha hb hlen
  go_enter Try.func90, Try.ntmps90
  go_wp2_with fail
  go_loopw [10] (fun iv wr => ∃ i : Nat, iv = .int .i64 i ∧ i ≤ m ∧ Hid (In wr g n c (runs A X M Y B i)) ∧ Fr (fun q => q = g) w wr) (fun iv _ => m - (intOf iv).toNat)
  case atStart => exact ⟨0, by go_num, by omega, Lib.hid (by rw [runs_none]; exact HI0.out), Fr.refl _ _⟩
  case round =>
    obtain ⟨i, rfl, hi, HI, hf⟩ := hrel
    by_cases hlt : i < m
    · have hltI : (i : Int) < (m : Int) := by omega
      obtain ⟨p, hp⟩ : ∃ p, p = a + i := ⟨_, rfl⟩
      obtain ⟨q, hq⟩ : ∃ q, q = b + i := ⟨_, rfl⟩
      have hpI : (a : Int) + (i : Int) = (p : Int) := by omega
      have hqI : (b : Int) + (i : Int) = (q : Int) := by omega
      have hpw : IntKind.i64.wrap (p : Int) = p := IntWalk.i64_in _ (by omega)
      have hqw : IntKind.i64.wrap (q : Int) = q := IntWalk.i64_in _ (by omega)
      have hpn : p < n := by omega
      have hqn : q < n := by omega
      obtain ⟨j0, j1, j2, j3, j4⟩ := HI.out.at hpn
      obtain ⟨u0, u1, u2, u3, u4⟩ := HI.out.at hqn
      obtain ⟨px, nx, cx, hxv⟩ := HI.out.eIs hpn
      obtain ⟨py, ny, cy, hyv⟩ := HI.out.eIs hqn
      have HS := Lib.hid (HI.out.swap hpn hqn)
      have HST := Lib.hid (show eswp (runs A X M Y B i) p q = runs A X M Y B (i + 1) by
        rw [hp, hq, HAA.out, HBB.out]; exact runs_step (by rw [← HMM.out]; exact hlt) HXY.out)
      rw [HST.out] at HS
      rw [hxv] at j4
      rw [hyv] at u4
      have HXV := Lib.hid hxv
      have HYV := Lib.hid hyv
      clear hp hq hxv hyv
      obtain ⟨x, hx⟩ : ∃ x, x = eat (runs A X M Y B i) p := ⟨_, rfl⟩
      obtain ⟨y, hy⟩ : ∃ y, y = eat (runs A X M Y B i) q := ⟨_, rfl⟩
      rw [← hx] at j0 j1 j2 j3 HXV HS
      rw [← hy] at u0 u1 u2 u3 HYV HS
      clear hx hy
      obtain ⟨xf, xt, xl, xm, xv, xp⟩ := x
      obtain ⟨yf, yt, yl, ym, yv, yp⟩ := y
      simp only at j0 j1 j2 j3 u0 u1 u2 u3 HXV HYV
      rw [HXV.out, HYV.out] at HS
      have f0 := HI.out.froz (p * 5)
      have f1 := HI.out.froz (p * 5 + 1)
      have f2 := HI.out.froz (p * 5 + 2)
      have f3 := HI.out.froz (p * 5 + 3)
      have f4 := HI.out.froz (p * 5 + 4)
      have g0 := HI.out.froz (q * 5)
      have g1 := HI.out.froz (q * 5 + 1)
      have g2 := HI.out.froz (q * 5 + 2)
      have g3 := HI.out.froz (q * 5 + 3)
      have g4 := HI.out.froz (q * 5 + 4)
      have HFS := Lib.hid (hf.trans (swap_fr wr g p q ⟨yf, yt, yl, ym, .slice py ny cy, yp⟩ ⟨xf, xt, xl, xm, .slice px nx cx, xp⟩) (fun _ _ h => h))
      clear hf
      go_wp2_with fail
      go_region
      go_wp2_with fail
      go_roundw
      case rel => exact ⟨i + 1, by go_num, by omega, Lib.hid (HS.out.g (G.drew (G.refl _))), HFS.out.drew⟩
      case measure => simp [intOf]; omega
    · have hltI : ¬ (i : Int) < (m : Int) := by omega
      have HE := Lib.hid (show runs A X M Y B i = A ++ (Y ++ (M ++ (X ++ B))) by rw [show i = X.length by rw [← HMM.out]; omega]; exact runs_all HXY.out)
      go_wp2_with fail
      go_returns
      exact ⟨⟨_, rfl⟩, by rw [← HE.out]; exact HI.out, hf⟩
theorem tda (L : List Edg) (k : Nat) (R : List Edg) : L ++ R = L.take k ++ (L.drop k ++ R) := by rw [← List.append_assoc, List.take_append_drop]
set_option maxRecDepth 10000 in
set_option maxHeartbeats 4000000 in
theorem rotate_any (A U V B : List Edg) (g n c a m b : Nat) (w : World) (h : In w g n c (A ++ (U ++ (V ++ B)))) (ha : a = A.length) (hm : m = A.length + U.length) (hb : b = A.length + U.length + V.length) (hU : 0 < U.length) (hV : 0 < V.length) (hn : n ≤ 1000000) :
    Calls Try.prog 89 #[.slice (some ⟨g, 0, none⟩) n c, .int .i64 a, .int .i64 m, .int .i64 b, CMPF] w fun e w' => (∃ u, e = .returned u) ∧ In w' g n c (A ++ (V ++ (U ++ B))) ∧ Fr (fun q => q = g) w w' := by
  have HI0 := Lib.hid h
  have hlen := h.len
  simp only [List.length_append] at hlen
  obtain ⟨T, hT⟩ : ∃ T, T = A ++ (V ++ (U ++ B)) := ⟨_, rfl⟩
  have HT := Lib.hid hT
  obtain ⟨i0, hi0⟩ : ∃ i0, i0 = U.length := ⟨_, rfl⟩
  obtain ⟨k0, hk0⟩ : ∃ k0, k0 = V.length := ⟨_, rfl⟩
  have e1 : (m : Int) - (a : Int) = (i0 : Int) := by omega
  have e2 : (b : Int) - (m : Int) = (k0 : Int) := by omega
  have HH := Lib.hid (show 0 < i0 ∧ 0 < k0 ∧ A.length + i0 = m ∧ i0 ≤ n ∧ k0 ≤ n ∧ m ≤ n ∧ i0 = U.length ∧ k0 = V.length by omega)
  have hmn : m ≤ n := by omega
  have hi0n : i0 ≤ n := by omega
  have hk0n : k0 ≤ n := by omega
  rw [← hT]
  clear h ha hm hb hU hV hlen hT hi0 hk0
  go_enter Try.func89, Try.ntmps89
  go_wp2_with fail
  clear e1 e2
  go_loopw [10, 11] (fun iv jv wr => ∃ (P X Y S : List Edg) (i j : Nat), iv = .int .i64 i ∧ jv = .int .i64 j ∧ 0 < i ∧ 0 < j ∧ i ≤ m ∧ j ≤ n ∧ Hid (P.length + i = m ∧ i = X.length ∧ j = Y.length ∧ In wr g n c (P ++ (X ++ (Y ++ S))) ∧ P ++ (Y ++ (X ++ S)) = T) ∧ Fr (fun q => q = g) w wr) (fun iv jv _ => (intOf iv).toNat + (intOf jv).toNat)
  case atStart =>
    obtain ⟨q1, q2, q3, q4, q5, q6, q7, q8⟩ := HH.out
    exact ⟨A, U, V, B, i0, k0, rfl, rfl, q1, q2, by omega, q5, Lib.hid ⟨q3, q7, q8, HI0.out, HT.out.symm⟩, Fr.refl _ _⟩
  case round =>
    obtain ⟨P, X, Y, S, i, j, rfl, rfl, hi0, hj0, him, hjn, HM, hf⟩ := hrel
    have hs1 : (m : Int) - (i : Int) = (P.length : Int) := by have := HM.out.1; omega
    obtain ⟨pl, hpl⟩ : ∃ k, k = P.length := ⟨_, rfl⟩
    rw [← hpl] at hs1
    have HPL := Lib.hid hpl
    have hlen := HM.out.2.2.2.1.len
    simp only [List.length_append] at hlen
    have HLEN := Lib.hid hlen
    clear hpl hlen
    by_cases hij : i = j
    · subst hij
      have HC := Lib.hid (swapRange_any P X [] Y S g n c pl m i wr (by have := HM.out.2.2.2.1; simpa using this) (by rw [← HM.out.2.1, ← HM.out.2.2.1]) HM.out.2.1 HPL.out (by have := HM.out.1; have := HM.out.2.1; simp; omega) hn)
      rw [show P ++ (Y ++ ([] ++ (X ++ S))) = T by simpa using HM.out.2.2.2.2] at HC
      go_wp2_with fail
      refine HC.out.mono ?_
      rintro e w2 ⟨⟨u, rfl⟩, hin, hf2⟩
      go_wp2_with fail
      go_returns
      exact ⟨⟨_, rfl⟩, hin, hf.trans hf2 (fun _ _ h => h)⟩
    · by_cases hgt : j < i
      · have hneI : ((i : Int) != (j : Int)) = true := by simp; omega
        have hgtI : (j : Int) < (i : Int) := by omega
        have l1 : (X.take j).length = j := by rw [List.length_take]; have := HM.out.2.1; omega
        have l2 : (X.drop j).length = i - j := by rw [List.length_drop]; have := HM.out.2.1; omega
        have HC := Lib.hid (swapRange_any P (X.take j) (X.drop j) Y S g n c pl m j wr (by have := HM.out.2.2.2.1; rw [tda X j (Y ++ S)] at this; exact this) (by rw [l1]; exact HM.out.2.2.1) l1.symm HPL.out (by rw [l1, l2]; have := HM.out.1; omega) hn)
        have HT2 := Lib.hid (show (P ++ Y) ++ (X.take j ++ (X.drop j ++ S)) = T by rw [← HM.out.2.2.2.2, tda X j S, List.append_assoc])
        obtain ⟨i2, hi2⟩ : ∃ k, k = i - j := ⟨_, rfl⟩
        have hi2I : (i : Int) - (j : Int) = (i2 : Int) := by omega
        have HL := Lib.hid (And.intro l1 (And.intro l2 hi2))
        clear l1 l2 hi2 hij
        go_wp2_with fail
        refine HC.out.mono ?_
        rintro e w2 ⟨⟨u, rfl⟩, hin, hf2⟩
        have HIN := Lib.hid hin
        clear hin
        go_wp2_with fail
        go_roundw
        case rel =>
          obtain ⟨l1, l2, hi2⟩ := HL.out
          refine ⟨P ++ Y, X.drop j, X.take j, S, i2, j, rfl, rfl, by omega, hj0, by omega, hjn, Lib.hid ⟨?_, ?_, l1.symm, ?_, HT2.out⟩, hf.trans hf2 (fun _ _ h => h)⟩
          · rw [List.length_append]; have := HM.out.1; have := HM.out.2.2.1; omega
          · rw [l2]; exact hi2
          · have := HIN.out; simpa using this
        case measure => simp [intOf]; have := HL.out.2.2; omega
      · have hneI : ((i : Int) != (j : Int)) = true := by simp; omega
        have hgtI : ¬ (j : Int) < (i : Int) := by omega
        have hlt : i < j := by omega
        obtain ⟨d, hd⟩ : ∃ d, d = j - i := ⟨_, rfl⟩
        have l1 : (Y.take d).length = d := by rw [List.length_take]; have := HM.out.2.2.1; omega
        have l2 : (Y.drop d).length = i := by rw [List.length_drop]; have := HM.out.2.2.1; omega
        obtain ⟨q, hq⟩ : ∃ q, q = m + d := ⟨_, rfl⟩
        have hq1 : (m : Int) + (j : Int) - (i : Int) = (q : Int) := by omega
        have hdI : (j : Int) - (i : Int) = (d : Int) := by omega
        have HC := Lib.hid (swapRange_any P X (Y.take d) (Y.drop d) S g n c pl q i wr (by have := HM.out.2.2.2.1; rw [tda Y d S] at this; exact this) (by rw [l2]; exact HM.out.2.1.symm) HM.out.2.1 HPL.out (by rw [l1]; have := HM.out.1; have := HM.out.2.1; omega) hn)
        have HT2 := Lib.hid (show P ++ (Y.take d ++ (Y.drop d ++ (X ++ S))) = T by rw [← HM.out.2.2.2.2, tda Y d (X ++ S)])
        have HL := Lib.hid (And.intro l1 (And.intro l2 hd))
        clear l1 l2 hd hq hij
        go_wp2_with fail
        refine HC.out.mono ?_
        rintro e w2 ⟨⟨u, rfl⟩, hin, hf2⟩
        have HIN := Lib.hid hin
        clear hin
        go_wp2_with fail
        go_roundw
        case rel =>
          obtain ⟨l1, l2, hd⟩ := HL.out
          refine ⟨P, Y.drop d, Y.take d, X ++ S, i, d, rfl, rfl, hi0, by omega, him, by omega, Lib.hid ⟨HM.out.1, l2.symm, l1.symm, HIN.out, HT2.out⟩, hf.trans hf2 (fun _ _ h => h)⟩
        case measure => simp [intOf]; have := HL.out.2.2; omega
end Go.Proofs.Ytfdajignnnhnmaa
