/- the chapter's example -/
import Derived.Test.YthhjioehkgbphaaDiffJ
namespace Go.Proofs.Ythhjioehkgbphaa
set_option linter.unusedVariables false
set_option linter.unusedSimpArgs false
open Go.RowKit Go.Shelf
attribute [local go_sem] Oper.semAt_some

theorem OwnRV.cap {base : Nat} {W : World} {v : Value} {ls : List (List Val)} (h : OwnRV base W v ls) : ∀ p n c, v = .slice p n c → n ≤ c := by
  obtain ⟨rv, h1, -⟩ := h
  rintro p n c rfl
  rcases h1.2 with ⟨h, -⟩ | ⟨g, cap, cur, h, _, _, h2, _⟩
  · cases h; exact Nat.le_refl _
  · cases h; exact h2
theorem rowsOK_n (xs : List Int) (h : xs.length ≤ 1000000) : RowsOK (nrows xs) := by
  refine ⟨?_, ?_, by simpa [nrows] using h⟩
  · intro l hl x hx
    simp only [nrows, List.mem_map] at hl
    obtain ⟨n, -, rfl⟩ := hl
    simp only [List.mem_singleton] at hx
    subst hx
    exact Nat.zero_le _
  · intro l hl
    simp only [nrows, List.mem_map] at hl
    obtain ⟨n, -, rfl⟩ := hl
    simp
theorem awake_p : pls (mrgR (nrows [1, 2, 4]) (nrows [2, 3])) = nrows [3] ∧ mns (mrgR (nrows [1, 2, 4]) (nrows [2, 3])) = nrows [1, 4] ∧ rgt none (nrows [1, 2, 4]) = true ∧ rgt none (nrows [2, 3]) = true := by
  have e1 : rcmp [nv 1] [nv 2] = -1 := by decide +kernel
  have e2 : rcmp [nv 2] [nv 2] = 0 := by decide +kernel
  have e3 : rcmp [nv 4] [nv 3] = 1 := by decide +kernel
  have e : mrgR (nrows [1, 2, 4]) (nrows [2, 3]) = [([nv 1], true, false), ([nv 2], true, true), ([nv 3], false, true), ([nv 4], true, false)] := by
    simp [nrows, mrgR, e1, e2, e3]
  rw [e]
  refine ⟨by simp [pls, nrows], by simp [mns, nrows], by decide +kernel, by decide +kernel⟩
theorem awake_any (w : World) : Calls Try.prog 6 #[] w fun e w' => e = .returned (.bool true) ∧ G w w' := by
  have HP := Lib.hid awake_p
  go_enter Try.func6, Try.ntmps6
  go_wp2_with fail
  refine (rows_any [1, 2, 4] _ _ (rdr_alloc w (ints [1, 2, 4]) 3 (0, 0) 1 3 3 rfl) (by simp)).mono ?_
  rintro e w1 ⟨u, rfl, hu, hg⟩
  have hg1 : G w w1 := ((G.refl w).alloc _).trans hg
  have HU := Lib.hid hu
  obtain ⟨up, uc, rfl⟩ := hu.rdr.shape
  clear hu hg
  go_wp2_with fail
  refine (rows_any [2, 3] _ _ (rdr_alloc w1 (ints [2, 3]) 3 (0, 0) 1 2 2 rfl) (by simp)).mono ?_
  rintro e w2 ⟨v, rfl, hv, hg⟩
  have hg12 : G w1 w2 := ((G.refl w1).alloc _).trans hg
  have HV := Lib.hid hv
  obtain ⟨vp, vc, rfl⟩ := hv.rdr.shape
  have HU2 := Lib.hid (HU.out.rdr.g hg12)
  have hg2 := hg1.trans hg12
  clear hv hg hg1 hg12
  go_wp2_with fail
  refine (of_yes (nrows [1, 2, 4]) (nrows [2, 3]) _ _ _ HU2.out HV.out.rdr HU.out.cap HV.out.cap (rowsOK_n _ (by simp)) (rowsOK_n _ (by simp)) HP.out.2.2.1 HP.out.2.2.2).mono ?_
  rintro e w3 ⟨p, m, rfl, hp, hm, hg⟩
  rw [HP.out.1] at hp
  rw [HP.out.2.1] at hm
  have HPP := Lib.hid hp
  have HMM := Lib.hid hm
  obtain ⟨pp, pc, rfl⟩ := hp.rdr.shape
  obtain ⟨mp, mc, rfl⟩ := hm.rdr.shape
  have hg3 := hg2.trans hg
  clear hp hm hg hg2
  go_wp2_with fail
  refine (rows_any [3] _ _ (rdr_alloc w3 (ints [3]) 3 (0, 0) 1 1 1 rfl) (by simp)).mono ?_
  rintro e w4 ⟨a, rfl, ha, hg⟩
  have hg34 : G w3 w4 := ((G.refl w3).alloc _).trans hg
  have HA := Lib.hid ha
  obtain ⟨ap, ac, rfl⟩ := ha.rdr.shape
  clear ha hg
  go_wp2_with fail
  have hs1 := sameVR_any (nrows [3]) (nrows [3]) _ _ w4 (HPP.out.rdr.g hg34) HA.out.rdr (by simp [nrows]) (by simp [nrows]) (by simp [nrows])
  rw [decide_eq_true rfl] at hs1
  refine hs1.mono ?_
  rintro e w5 ⟨rfl, hg⟩
  have hg35 := hg34.trans hg
  clear hs1 hg hg34
  go_wp2_with fail
  refine (rows_any [1, 4] _ _ (rdr_alloc w5 (ints [1, 4]) 3 (0, 0) 1 2 2 rfl) (by simp)).mono ?_
  rintro e w6 ⟨b, rfl, hb, hg⟩
  have hg36 : G w3 w6 := hg35.trans (((G.refl w5).alloc _).trans hg)
  have HB := Lib.hid hb
  obtain ⟨bp, bc, rfl⟩ := hb.rdr.shape
  clear hb hg hg35
  go_wp2_with fail
  have hs2 := sameVR_any (nrows [1, 4]) (nrows [1, 4]) _ _ w6 (HMM.out.rdr.g hg36) HB.out.rdr (by simp [nrows]) (by simp [nrows]) (by simp [nrows])
  rw [decide_eq_true rfl] at hs2
  refine hs2.mono ?_
  rintro e w7 ⟨rfl, hg⟩
  have hg7 := (hg3.trans hg36).trans hg
  clear hs2 hg hg36 hg3
  go_wp2_with fail
  go_ret
  exact ⟨rfl, hg7⟩
end Go.Proofs.Ythhjioehkgbphaa
