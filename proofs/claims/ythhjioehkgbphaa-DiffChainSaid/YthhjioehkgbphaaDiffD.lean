/- whether rows of values are right -/
import Derived.Test.YthhjioehkgbphaaDiffC
namespace Go.Proofs.Ythhjioehkgbphaa
set_option linter.unusedVariables false
set_option linter.unusedSimpArgs false
open Go.RowKit Go.Shelf
attribute [local go_sem] Oper.semAt_some

theorem odd_any (x : Val) (w : World) (hs : x.2.2.size ≤ maxLen) : Calls Try.prog 17 #[vv x] w fun e w' => e = .returned (.bool (!valR x)) ∧ G w w' := by
  have hc := valR_any x (w.alloc (.cells #[.int .i64 x.1, .int .i64 x.2.1, .string x.2.2] 46)) hs
  unfold vv at hc ⊢
  generalize valR x = r at hc ⊢
  have HC := Lib.hid hc
  clear hc
  go_enter Try.func17, Try.ntmps17
  go_wp2_with fail
  refine HC.out.mono ?_
  rintro e w2 ⟨rfl, hg2⟩
  go_wp2_with fail
  go_ret
  exact ⟨rfl, ((G.refl w).alloc _).trans hg2⟩
theorem idxF_any (l : List Val) (v : Value) (w : World) (hv : RdrV w v l) (hs : ∀ x ∈ l, x.2.2.size ≤ maxLen) (hn : l.length ≤ 1099511627776) :
    Calls Try.prog 27 #[v, .func (.func 17) #[] #[]] w fun e w' => ∃ r : Int, e = .returned (.int .i64 r) ∧ decide (0 ≤ r) = !l.all valR ∧ G w w' := by
  obtain ⟨p, c, rfl⟩ := hv.shape
  obtain ⟨n, hnn⟩ : ∃ n, n = l.length := ⟨_, rfl⟩
  rw [← hnn] at hn
  simp only [← hnn]
  have HV := Lib.hid hv
  have HS := Lib.hid hs
  have HN := Lib.hid hnn
  clear hv hs hnn
  go_enter Try.func27, Try.ntmps27
  go_wp2_with fail
  go_loopw [8] (fun i wr => ∃ k : Nat, k ≤ n ∧ i = .int .i64 k ∧ Hid ((l.take k).all valR = true) ∧ G w wr) (fun i _ => n - (intOf i).toNat)
  case atStart => exact ⟨0, by omega, rfl, (rfl : (l.take 0).all valR = true), G.refl w⟩
  case round =>
    obtain ⟨k, hk, rfl, HA, hg⟩ := hrel
    by_cases hlt : k < n
    · obtain ⟨b, o, x, rfl, hx, c1, c2, c3⟩ := HV.out.cells (k := k) (by have := HN.out; omega)
      have k1 := hg.cell c1
      have k2 := hg.cell c2
      have k3 := hg.cell c3
      have hc := odd_any x wr (HS.out x (List.mem_of_getElem? hx))
      have HT := Lib.hid (show (l.take (k + 1)).all valR = ((l.take k).all valR && valR x) by rw [List.take_add_one, hx]; simp)
      have HX := Lib.hid hx
      unfold vv at hc
      clear c1 c2 c3 hx
      cases hr : valR x
      · rw [hr] at hc
        have HC := Lib.hid hc
        have HR := Lib.hid (show decide ((0 : Int) ≤ (k : Int)) = !l.all valR by
          have : l.all valR = false := List.all_eq_false.2 ⟨x, List.mem_of_getElem? HX.out, by rw [hr]; decide⟩
          rw [this]; simp)
        clear hr hc
        go_wp2_with fail
        refine HC.out.mono ?_
        rintro e w2 ⟨rfl, hg2⟩
        go_wp2_with fail
        go_ret
        exact ⟨_, rfl, HR.out, hg.trans hg2⟩
      · rw [hr] at hc
        have HC := Lib.hid hc
        have HT2 := Lib.hid (show (l.take (k + 1)).all valR = true by rw [HT.out, HA.out, hr]; rfl)
        clear hr hc
        go_wp2_with fail
        refine HC.out.mono ?_
        rintro e w2 ⟨rfl, hg2⟩
        have hg3 := hg.trans hg2
        go_wp2_with fail
        go_roundw
        case rel => exact ⟨k + 1, by omega, by go_num, HT2, hg3⟩
        case measure => simp [intOf]; omega
    · have HR := Lib.hid (show decide ((0 : Int) ≤ -1) = !l.all valR by
        have := HA.out; rw [List.take_of_length_le (by have := HN.out; omega)] at this
        rw [this]; rfl)
      go_wp2_with fail
      go_ret
      exact ⟨_, rfl, HR.out, hg⟩
theorem contF_any (l : List Val) (v : Value) (w : World) (hv : RdrV w v l) (hs : ∀ x ∈ l, x.2.2.size ≤ maxLen) (hn : l.length ≤ 1099511627776) :
    Calls Try.prog 19 #[v, .func (.func 17) #[] #[]] w fun e w' => e = .returned (.bool (!l.all valR)) ∧ G w w' := by
  have HC := Lib.hid (idxF_any l v w hv hs hn)
  obtain ⟨p, c, rfl⟩ := hv.shape
  clear hv hs
  go_enter Try.func19, Try.ntmps19
  go_wp2_with fail
  refine HC.out.mono ?_
  rintro e w2 ⟨r, rfl, hr, hg2⟩
  have HR := Lib.hid hr
  clear hr
  go_wp2_with fail
  go_ret
  exact ⟨by rw [← HR.out]; rfl, hg2⟩
theorem dcmp_any (xs ys : List Val) (va vb : Value) (w : World) (ha : RdrV w va xs) (hb : RdrV w vb ys) (hx : xs.length ≤ 1099511627776) (hy : ys.length ≤ 1099511627776) :
    Calls Try.prog 8 #[va, vb] w fun e w' => e = .returned (.int .i64 (rcmp xs ys)) ∧ G w w' := by
  have HC := Lib.hid (cmpF_any xs ys va vb w ha hb hx hy)
  obtain ⟨p, c, rfl⟩ := ha.shape
  obtain ⟨q, d, rfl⟩ := hb.shape
  clear ha hb
  generalize rcmp xs ys = r at HC ⊢
  go_enter Try.func8, Try.ntmps8
  go_wp2_with fail
  refine HC.out.mono ?_
  rintro e w2 ⟨rfl, hg2⟩
  go_wp2_with fail
  go_ret
  exact ⟨rfl, hg2⟩

/-- the slice v has these rows -/
def RdrRV (W : World) (v : Value) (ls : List (List Val)) : Prop :=
  ∃ rv : List Value, Rdr W 1 v ls.length rv ∧ ∀ (i : Nat) (l : List Val), ls[i]? = some l → ∃ x, rv[i]? = some x ∧ RdrV W x l
theorem RdrRV.row {W : World} {p : Option Addr} {c n : Nat} {ls : List (List Val)} (h : RdrRV W (.slice p n c) ls) {i : Nat} (hi : i < ls.length) : ∃ b o l q d, p = some ⟨b, o, none⟩ ∧ ls[i]? = some l ∧
    W.cell? ⟨b, o + i, none⟩ = some (.slice q l.length d) ∧ RdrV W (.slice q l.length d) l := by
  obtain ⟨rv, hr, hx⟩ := h
  obtain ⟨p', c', he, hl, hc⟩ := hr.at
  cases he
  obtain ⟨b, o, rfl, hcell⟩ := hc (by omega)
  obtain ⟨x, hx1, hx2⟩ := hx i ls[i] (List.getElem?_eq_getElem hi)
  obtain ⟨q, d, rfl⟩ := hx2.shape
  exact ⟨b, o, ls[i], q, d, rfl, List.getElem?_eq_getElem hi, hcell i _ hx1, hx2⟩
theorem RdrRV.shape {W : World} {v : Value} {ls : List (List Val)} (h : RdrRV W v ls) : ∃ p c, v = .slice p ls.length c := by
  obtain ⟨rv, hr, hx⟩ := h
  obtain ⟨p, c, rfl, -⟩ := hr.at
  exact ⟨p, c, rfl⟩
theorem RdrRV.g {W W' : World} {v : Value} {ls : List (List Val)} (h : RdrRV W v ls) (hg : G W W') : RdrRV W' v ls := by
  obtain ⟨rv, hr, hx⟩ := h
  refine ⟨rv, hr.g hg, fun i l hl => ?_⟩
  obtain ⟨x, h1, h2⟩ := hx i l hl
  exact ⟨x, h1, h2.g hg⟩
/-- do rows rise behind one, of right values? -/
def rgt : Option (List Val) → List (List Val) → Bool
  | _, [] => true
  | p, x :: l => x.all valR && (match p with | none => true | some y => decide (rcmp y x < 0)) && rgt (some x) l
def prv (ls : List (List Val)) (k : Nat) : Option (List Val) := if k = 0 then none else ls[k - 1]?
theorem rgt_drop {ls : List (List Val)} {k : Nat} {x : List Val} (hx : ls[k]? = some x) : rgt (prv ls k) (ls.drop k) = (x.all valR && (match prv ls k with | none => true | some y => decide (rcmp y x < 0)) && rgt (prv ls (k + 1)) (ls.drop (k + 1))) := by
  obtain ⟨h1, h2⟩ := List.getElem?_eq_some_iff.1 hx
  have e : prv ls (k + 1) = some x := by simp [prv, hx]
  rw [List.drop_eq_getElem_cons h1, h2, e]
  cases prv ls k <;> rfl
set_option maxHeartbeats 400000 in
theorem dright_any (ls : List (List Val)) (v : Value) (w : World) (hv : RdrRV w v ls) (hs : ∀ l ∈ ls, ∀ x ∈ l, x.2.2.size ≤ maxLen) (hl : ∀ l ∈ ls, l.length ≤ 1099511627776) (hn : ls.length ≤ 1099511627776) :
    Calls Try.prog 7 #[v] w fun e w' => e = .returned (.bool (rgt none ls)) ∧ G w w' := by
  obtain ⟨p, c, rfl⟩ := hv.shape
  obtain ⟨n, hnn⟩ : ∃ n, n = ls.length := ⟨_, rfl⟩
  rw [← hnn] at hn
  simp only [← hnn]
  have HV := Lib.hid hv
  have HS := Lib.hid hs
  have HL := Lib.hid hl
  have HN := Lib.hid hnn
  clear hv hs hl hnn
  go_enter Try.func7, Try.ntmps7
  go_wp2_with fail
  go_loopw [8] (fun i wr => ∃ k : Nat, k ≤ n ∧ i = .int .i64 k ∧ Hid (rgt none ls = rgt (prv ls k) (ls.drop k)) ∧ G w wr) (fun i _ => n - (intOf i).toNat)
  case atStart => exact ⟨0, by omega, rfl, (rfl : rgt none ls = rgt (prv ls 0) (ls.drop 0)), G.refl w⟩
  case round =>
    obtain ⟨k, hk, rfl, HR, hg⟩ := hrel
    by_cases hlt : k < n
    · obtain ⟨b, o, l, q, d, rfl, hx, hcell, hrow⟩ := HV.out.row (i := k) (by have := HN.out; omega)
      have c1 := hg.cell hcell
      have hc := contF_any l _ wr (hrow.g hg) (HS.out l (List.mem_of_getElem? hx)) (HL.out l (List.mem_of_getElem? hx))
      have HD := Lib.hid (rgt_drop hx)
      have HROW := Lib.hid hrow
      have HLL := Lib.hid (HL.out l (List.mem_of_getElem? hx))
      clear hx hcell hrow
      cases ha : l.all valR
      · have HF := Lib.hid (show rgt none ls = false by rw [HR.out, HD.out, ha]; simp)
        rw [ha] at hc
        have HC := Lib.hid hc
        clear ha hc
        go_wp2_with fail
        refine HC.out.mono ?_
        rintro e w2 ⟨rfl, hg2⟩
        go_wp2_with fail
        go_ret
        exact ⟨by rw [HF.out]; rfl, hg.trans hg2⟩
      · rw [ha] at hc
        have HC := Lib.hid hc
        have HA := Lib.hid ha
        clear ha hc
        by_cases h0 : k = 0
        · subst h0
          simp only [Nat.add_zero] at c1
          have HF := Lib.hid (show rgt none ls = rgt (prv ls 1) (ls.drop 1) by rw [HR.out, HD.out, HA.out]; rfl)
          go_wp2_with fail
          refine HC.out.mono ?_
          rintro e w2 ⟨rfl, hg2⟩
          have hg3 := hg.trans hg2
          go_wp2_with fail
          go_roundw
          case rel => exact ⟨1, by omega, by go_num, HF, hg3⟩
          case measure => simp [intOf]; omega
        · obtain ⟨j, rfl⟩ : ∃ j, k = j + 1 := ⟨k - 1, by omega⟩
          obtain ⟨b', o', y, q', d', he, hy, hcell', hrow'⟩ := HV.out.row (i := j) (by have := HN.out; omega)
          cases he
          have HP := Lib.hid (show prv ls (j + 1) = some y by simp [prv, hy])
          have HLY := Lib.hid (HL.out y (List.mem_of_getElem? hy))
          have HCY := Lib.hid hcell'
          have HRY := Lib.hid hrow'
          clear hy hcell' hrow'
          have hj0 : (0 : Int) < (j : Int) + 1 := by omega
          go_wp2_with fail
          refine HC.out.mono ?_
          rintro e w2 ⟨rfl, hg2⟩
          have hg3 := hg.trans hg2
          have c2 := hg3.cell HCY.out
          have hcm := dcmp_any y l (.slice q' y.length d') (.slice q l.length d) w2 (HRY.out.g hg3) (HROW.out.g hg3) HLY.out HLL.out
          by_cases hr : rcmp y l < 0
          · have HF := Lib.hid (show rgt none ls = rgt (prv ls (j + 1 + 1)) (ls.drop (j + 1 + 1)) by rw [HR.out, HD.out, HA.out, HP.out]; simp [hr])
            generalize rcmp y l = r at hcm hr
            have HCM := Lib.hid hcm
            clear hcm
            go_wp2_with fail
            refine HCM.out.mono ?_
            rintro e w4 ⟨rfl, hg4⟩
            have hg5 := hg3.trans hg4
            go_wp2_with fail
            go_roundw
            case rel => exact ⟨j + 1 + 1, by omega, by go_num, HF, hg5⟩
            case measure => simp [intOf]; omega
          · have HF := Lib.hid (show rgt none ls = false by rw [HR.out, HD.out, HA.out, HP.out]; simp [hr])
            generalize rcmp y l = r at hcm hr
            have HCM := Lib.hid hcm
            clear hcm
            go_wp2_with fail
            refine HCM.out.mono ?_
            rintro e w4 ⟨rfl, hg4⟩
            go_wp2_with fail
            go_ret
            exact ⟨by rw [HF.out]; rfl, hg3.trans hg4⟩
    · have HF := Lib.hid (show rgt none ls = true by rw [HR.out, List.drop_of_length_le (by have := HN.out; omega)]; cases prv ls k <;> rfl)
      go_wp2_with fail
      go_ret
      exact ⟨by rw [HF.out]; rfl, hg⟩
end Go.Proofs.Ythhjioehkgbphaa
