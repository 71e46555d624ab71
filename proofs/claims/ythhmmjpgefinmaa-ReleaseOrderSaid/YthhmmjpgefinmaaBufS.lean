/- slices.BinarySearchFunc among edges -/
import Derived.Test.YthhmmjpgefinmaaSortM
namespace Go.Proofs.Ythhmmjpgefinmaa
set_option linter.unusedVariables false
set_option linter.unusedSimpArgs false
open Go.RowKit Go.Shelf
attribute [local go_sem] Oper.semAt_some

/-- where an edge stands, or would -/
structure Spot (L : List Edg) (E : Edg) (k : Nat) : Prop where
  le : k ≤ L.length
  lo : ∀ q, q < k → ecmp (eat L q) E < 0
  hi : ∀ q, k ≤ q → q < L.length → ¬ ecmp (eat L q) E < 0
theorem cellsAt5 {W : World} {p : Option Addr} {c n : Nat} {L : List Edg} (hv : Rdr W 5 (.slice p n c) n (ecs L)) {k : Nat} (hl : L.length = n) (hk : k < n) : ∃ b o, p = some ⟨b, o, none⟩ ∧ W.cell? ⟨b, o + k * 5, none⟩ = some (.string (eat L k).f) ∧ W.cell? ⟨b, o + k * 5 + 1, none⟩ = some (.string (eat L k).t) ∧ W.cell? ⟨b, o + k * 5 + 2, none⟩ = some (.string (eat L k).l) ∧ W.cell? ⟨b, o + k * 5 + 3, none⟩ = some (.int .i64 (eat L k).tm) ∧ W.cell? ⟨b, o + k * 5 + 4, none⟩ = some (eat L k).v := by
  obtain ⟨b, o, hp, hc⟩ := hv.one (by omega)
  obtain ⟨a0, a1, a2, a3, a4⟩ := ecs_get (eat_get (L := L) (k := k) (by omega))
  exact ⟨b, o, hp, hc _ _ a0, by rw [Nat.add_assoc]; exact hc _ _ a1, by rw [Nat.add_assoc]; exact hc _ _ a2, by rw [Nat.add_assoc]; exact hc _ _ a3, by rw [Nat.add_assoc]; exact hc _ _ a4⟩
set_option maxRecDepth 20000 in
set_option maxHeartbeats 8000000 in
theorem search_any (L : List Edg) (v : Value) (E : Edg) (w : World) (hv : Rdr w 5 v L.length (ecs L)) (hL : ∀ x ∈ L, IsE x) (hE : IsE E) (hn : L.length ≤ 1000000) (hs : ∀ p q, p ≤ q → q < L.length → ecmp (eat L q) E < 0 → ecmp (eat L p) E < 0) :
    Calls Try.prog 61 #[v, ev E, CMPF] w fun e w' => ∃ k : Nat, Spot L E k ∧ e = .returned (.tuple #[.int .i64 k, .bool (decide (k < L.length) && decide (ecmp (eat L k) E = 0))]) ∧ G w w' := by
  obtain ⟨-, p, c, rfl, -⟩ := id hv
  obtain ⟨n, hnn⟩ : ∃ n, n = L.length := ⟨_, rfl⟩
  rw [← hnn] at hv hn ⊢
  obtain ⟨ef, et, el, em, evv, eps⟩ := E
  obtain ⟨pe, ne, ce, hev⟩ := id hE
  simp only at hev
  subst hev
  obtain ⟨E, hEE⟩ : ∃ E : Edg, E = ⟨ef, et, el, em, .slice pe ne ce, eps⟩ := ⟨_, rfl⟩
  rw [← hEE] at hE hs ⊢
  have hEv : ev E = .agg #[.string ef, .string et, .string el, .int .i64 em, .slice pe ne ce] := by rw [hEE]; rfl
  rw [hEv]
  have HCMP : Hid (∀ k, k < n → ∀ X, ∃ px nx cx, (eat L k).v = .slice px nx cx ∧ Calls Try.prog 62 #[.agg #[.string (eat L k).f, .string (eat L k).t, .string (eat L k).l, .int .i64 (eat L k).tm, .slice px nx cx], .agg #[.string ef, .string et, .string el, .int .i64 em, .slice pe ne ce]] X fun e w' => e = .returned (.int .i64 (ecmp (eat L k) E)) ∧ G X w') := Lib.hid (fun k hk X => by
    obtain ⟨pa', na', ca', pb', nb', cb', h1, h2, h3⟩ := ecmpV_any (eat L k) E X (hL _ (List.mem_of_getElem? (eat_get (by omega)))) hE
    refine ⟨pa', na', ca', h1, ?_⟩
    rw [hEE] at h2 h3 ⊢
    simp only at h2
    cases h2
    exact h3)
  have HN := Lib.hid hnn
  have HS := Lib.hid hs
  have HV := Lib.hid hv
  have hgB : G w (w.alloc (.cells #[.string ef, .string et, .string el, .int .i64 em, .slice pe ne ce] 51)) := (G.refl w).alloc _
  have d0 := cell_alloc_at w [.string ef, .string et, .string el, .int .i64 em, .slice pe ne ce] 51 (0, 0) 0 _ rfl
  have d1 := cell_alloc_at w [.string ef, .string et, .string el, .int .i64 em, .slice pe ne ce] 51 (0, 0) 1 _ rfl
  have d2 := cell_alloc_at w [.string ef, .string et, .string el, .int .i64 em, .slice pe ne ce] 51 (0, 0) 2 _ rfl
  have d3 := cell_alloc_at w [.string ef, .string et, .string el, .int .i64 em, .slice pe ne ce] 51 (0, 0) 3 _ rfl
  have d4 := cell_alloc_at w [.string ef, .string et, .string el, .int .i64 em, .slice pe ne ce] 51 (0, 0) 4 _ rfl
  simp only [Nat.zero_add] at d0 d1 d2 d3 d4
  clear hv hs hnn hL hE hEv hEE
  go_enter Try.func61, Try.ntmps61
  go_upto_region 1 with fail
  generalize (w.alloc (.cells #[.string ef, .string et, .string el, .int .i64 em, .slice pe ne ce] 51)) = WB at hgB d0 d1 d2 d3 d4 ⊢
  go_wp2_with fail
  go_loopw [9, 10] (fun iv jv wr => ∃ i j : Nat, iv = .int .i64 i ∧ jv = .int .i64 j ∧ i ≤ j ∧ j ≤ n ∧ Hid ((∀ q, q < i → ecmp (eat L q) E < 0) ∧ (∀ q, j ≤ q → q < n → ¬ ecmp (eat L q) E < 0)) ∧ G WB wr) (fun iv jv _ => (intOf jv).toNat - (intOf iv).toNat)
  case atStart => exact ⟨0, n, rfl, rfl, by omega, by omega, Lib.hid ⟨fun q h => by omega, fun q h1 h2 => by omega⟩, G.refl _⟩
  case round =>
    obtain ⟨i, j, rfl, rfl, hij, hjn, HL, hgr⟩ := hrel
    have d0 := hgr.cell d0
    have d1 := hgr.cell d1
    have d2 := hgr.cell d2
    have d3 := hgr.cell d3
    have d4 := hgr.cell d4
    by_cases hlt : i < j
    · have hltI : (i : Int) < (j : Int) := by omega
      obtain ⟨hh, hhd⟩ : ∃ h, h = (i + j) / 2 := ⟨_, rfl⟩
      have hhI : ((i : Int) + (j : Int)) / 2 = (hh : Int) := by omega
      have hh1 : i ≤ hh := by omega
      have hh2 : hh < j := by omega
      have hhn : hh < n := by omega
      clear hhd
      obtain ⟨bb, oo, rfl, j0, j1, j2, j3, j4⟩ := cellsAt5 (HV.out.g (hgB.trans hgr)) HN.out.symm hhn
      obtain ⟨px, nx, cx, hxv, -⟩ := HCMP.out hh hhn wr
      have HCM2 : Hid (∀ X, Calls Try.prog 62 #[.agg #[.string (eat L hh).f, .string (eat L hh).t, .string (eat L hh).l, .int .i64 (eat L hh).tm, .slice px nx cx], .agg #[.string ef, .string et, .string el, .int .i64 em, .slice pe ne ce]] X fun e w' => e = .returned (.int .i64 (ecmp (eat L hh) E)) ∧ G X w') := Lib.hid (fun X => by
        obtain ⟨px', nx', cx', h1, h2⟩ := HCMP.out hh hhn X
        rw [hxv] at h1
        cases h1
        exact h2)
      rw [hxv] at j4
      clear hxv
      obtain ⟨r, hr⟩ : ∃ r, r = ecmp (eat L hh) E := ⟨_, rfl⟩
      rw [← hr] at HCM2
      have HR := Lib.hid hr
      clear hr
      generalize (eat L hh).f = xf at j0 HCM2
      generalize (eat L hh).t = xt at j1 HCM2
      generalize (eat L hh).l = xl at j2 HCM2
      generalize (eat L hh).tm = xm at j3 HCM2
      go_upto_region 5 with fail
      obtain ⟨WD, hWD⟩ : ∃ WD : World, WD = wr.drew := ⟨_, rfl⟩
      have hsD : G wr WD := by rw [hWD]; exact (G.refl wr).drew
      refine region_hlW (fun w' => G wr w') 99 8 (by kernel_rfl) rfl ?_
      intro Q0 HQ0
      simp only [List.replicate_succ, List.replicate_zero]
      rw [← hWD]
      clear hWD
      refine hl_take_np 0 (by kernel_rfl) (by kernel_rfl) rfl (by kernel_rfl) hsD (v := ?_) ?_ ?_
      rotate_left
      · (rintro x hx; have k_d0 := hx.cell d0; have k_d1 := hx.cell d1; have k_d2 := hx.cell d2; have k_d3 := hx.cell d3; have k_d4 := hx.cell d4; have k_j0 := hx.cell j0; have k_j1 := hx.cell j1; have k_j2 := hx.cell j2; have k_j3 := hx.cell j3; have k_j4 := hx.cell j4; clear hx; go_simp; try rfl)
      simp only [Act.put, List.setIfInBounds_toArray, List.set_cons_zero, List.set_cons_succ]
      refine hl_take_np 1 (by kernel_rfl) (by kernel_rfl) rfl (by kernel_rfl) hsD (v := ?_) ?_ ?_
      rotate_left
      · (rintro x hx; have k_d0 := hx.cell d0; have k_d1 := hx.cell d1; have k_d2 := hx.cell d2; have k_d3 := hx.cell d3; have k_d4 := hx.cell d4; have k_j0 := hx.cell j0; have k_j1 := hx.cell j1; have k_j2 := hx.cell j2; have k_j3 := hx.cell j3; have k_j4 := hx.cell j4; clear hx; go_simp; try rfl)
      simp only [Act.put, List.setIfInBounds_toArray, List.set_cons_zero, List.set_cons_succ]
      refine hl_take_np 2 (by kernel_rfl) (by kernel_rfl) rfl (by kernel_rfl) hsD (v := ?_) ?_ ?_
      rotate_left
      · (rintro x hx; have k_d0 := hx.cell d0; have k_d1 := hx.cell d1; have k_d2 := hx.cell d2; have k_d3 := hx.cell d3; have k_d4 := hx.cell d4; have k_j0 := hx.cell j0; have k_j1 := hx.cell j1; have k_j2 := hx.cell j2; have k_j3 := hx.cell j3; have k_j4 := hx.cell j4; clear hx; go_simp; try rfl)
      simp only [Act.put, List.setIfInBounds_toArray, List.set_cons_zero, List.set_cons_succ]
      refine hl_take_np 3 (by kernel_rfl) (by kernel_rfl) rfl (by kernel_rfl) hsD (v := ?_) ?_ ?_
      rotate_left
      · (rintro x hx; have k_d0 := hx.cell d0; have k_d1 := hx.cell d1; have k_d2 := hx.cell d2; have k_d3 := hx.cell d3; have k_d4 := hx.cell d4; have k_j0 := hx.cell j0; have k_j1 := hx.cell j1; have k_j2 := hx.cell j2; have k_j3 := hx.cell j3; have k_j4 := hx.cell j4; clear hx; go_simp; try rfl)
      simp only [Act.put, List.setIfInBounds_toArray, List.set_cons_zero, List.set_cons_succ]
      refine hl_take_np 4 (by kernel_rfl) (by kernel_rfl) rfl (by kernel_rfl) hsD (v := ?_) ?_ ?_
      rotate_left
      · (rintro x hx; have k_d0 := hx.cell d0; have k_d1 := hx.cell d1; have k_d2 := hx.cell d2; have k_d3 := hx.cell d3; have k_d4 := hx.cell d4; have k_j0 := hx.cell j0; have k_j1 := hx.cell j1; have k_j2 := hx.cell j2; have k_j3 := hx.cell j3; have k_j4 := hx.cell j4; clear hx; go_simp; try rfl)
      simp only [Act.put, List.setIfInBounds_toArray, List.set_cons_zero, List.set_cons_succ]
      refine hl_take_np 5 (by kernel_rfl) (by kernel_rfl) rfl (by kernel_rfl) hsD (v := ?_) ?_ ?_
      rotate_left
      · (rintro x hx; have k_d0 := hx.cell d0; have k_d1 := hx.cell d1; have k_d2 := hx.cell d2; have k_d3 := hx.cell d3; have k_d4 := hx.cell d4; have k_j0 := hx.cell j0; have k_j1 := hx.cell j1; have k_j2 := hx.cell j2; have k_j3 := hx.cell j3; have k_j4 := hx.cell j4; clear hx; go_simp; try rfl)
      simp only [Act.put, List.setIfInBounds_toArray, List.set_cons_zero, List.set_cons_succ]
      refine hl_stepW 6 (by kernel_rfl) rfl (by kernel_rfl) ?_
      intro K hK
      go_simp
      refine (HCM2.out WD).mono ?_
      rintro e W2 ⟨rfl, hga⟩
      have hs2 : G wr W2 := hsD.trans hga
      refine hK _ _ (fun _ => hs2) ?_
      clear hK K hga j0 j1 j2 j3 j4 HCM2 d0 d1 d2 d3 d4
      simp only [Act.put, List.setIfInBounds_toArray, List.set_cons_zero, List.set_cons_succ]
      by_cases hr0 : r < 0
      · have hrd : decide (r < 0) = true := by simpa using hr0
        refine hl_take_np 7 (by kernel_rfl) (by kernel_rfl) rfl (by kernel_rfl) hs2 (v := ?_) ?_ ?_
        rotate_left
        · (rintro x hx; clear hx; go_simp; try rfl)
        simp only [Act.put, List.setIfInBounds_toArray, List.set_cons_zero, List.set_cons_succ]
        refine hl_done (by kernel_rfl) ?_ _
        refine NoPanic.normal (HQ0.out _ _ ?_)
        clear HQ0
        have HL2 := Lib.hid (show (∀ q, q < hh + 1 → ecmp (eat L q) E < 0) ∧ (∀ q, j ≤ q → q < n → ¬ ecmp (eat L q) E < 0) from ⟨fun q h1 => HS.out q hh (by omega) (by have := HN.out; omega) (by rw [← HR.out]; exact hr0), HL.out.2⟩)
        have hf2 := hgr.trans hs2
        clear hsD hs2 hgr hrd
        go_wp2_with fail
        go_roundw
        case rel => exact ⟨hh + 1, j, by go_num, rfl, by omega, by omega, HL2, hf2⟩
        case measure => simp [intOf]; omega
      · have hrd : decide (r < 0) = false := by simpa using hr0
        refine hl_take_np 7 (by kernel_rfl) (by kernel_rfl) rfl (by kernel_rfl) hs2 (v := ?_) ?_ ?_
        rotate_left
        · (rintro x hx; clear hx; go_simp; try rfl)
        simp only [Act.put, List.setIfInBounds_toArray, List.set_cons_zero, List.set_cons_succ]
        refine hl_done (by kernel_rfl) ?_ _
        refine NoPanic.normal (HQ0.out _ _ ?_)
        clear HQ0
        have HL2 := Lib.hid (show (∀ q, q < i → ecmp (eat L q) E < 0) ∧ (∀ q, hh ≤ q → q < n → ¬ ecmp (eat L q) E < 0) from ⟨HL.out.1, fun q h1 h2 h3 => hr0 (by rw [HR.out]; exact HS.out hh q h1 (by have := HN.out; omega) h3)⟩)
        have hf2 := hgr.trans hs2
        clear hsD hs2 hgr hrd
        go_wp2_with fail
        go_roundw
        case rel => exact ⟨i, hh, rfl, rfl, by omega, by omega, HL2, hf2⟩
        case measure => simp [intOf]; omega
    · obtain rfl : i = j := by omega
      obtain ⟨WA, rfl⟩ : ∃ WA : World, WA = wr := ⟨_, rfl⟩
      have hgA := hgB.trans hgr
      have HSP := Lib.hid (show Spot L E i from ⟨by have := HN.out; omega, HL.out.1, fun q h1 h2 => HL.out.2 q h1 (by have := HN.out; omega)⟩)
      clear HL
      go_upto_region 8 with fail
      obtain ⟨WD, hWD⟩ : ∃ WD : World, WD = WA.drew := ⟨_, rfl⟩
      have hsD : G WA WD := by rw [hWD]; exact (G.refl WA).drew
      by_cases hin : i < n
      · have hinI : (i : Int) < (n : Int) := by omega
        have hdI : decide ((i : Int) < (n : Int)) = true := by simpa using hinI
        obtain ⟨bb, oo, rfl, j0, j1, j2, j3, j4⟩ := cellsAt5 (HV.out.g hgA) HN.out.symm hin
        obtain ⟨px, nx, cx, hxv, -⟩ := HCMP.out i hin WA
        have HCM2 : Hid (∀ X, Calls Try.prog 62 #[.agg #[.string (eat L i).f, .string (eat L i).t, .string (eat L i).l, .int .i64 (eat L i).tm, .slice px nx cx], .agg #[.string ef, .string et, .string el, .int .i64 em, .slice pe ne ce]] X fun e w' => e = .returned (.int .i64 (ecmp (eat L i) E)) ∧ G X w') := Lib.hid (fun X => by
          obtain ⟨px', nx', cx', h1, h2⟩ := HCMP.out i hin X
          rw [hxv] at h1
          cases h1
          exact h2)
        rw [hxv] at j4
        clear hxv
        obtain ⟨r, hr⟩ : ∃ r, r = ecmp (eat L i) E := ⟨_, rfl⟩
        rw [← hr] at HCM2
        have HR := Lib.hid hr
        clear hr
        generalize (eat L i).f = xf at j0 HCM2
        generalize (eat L i).t = xt at j1 HCM2
        generalize (eat L i).l = xl at j2 HCM2
        generalize (eat L i).tm = xm at j3 HCM2
        refine region_hlW (fun w' => G WA w') 99 16 (by kernel_rfl) rfl ?_
        intro Q0 HQ0
        simp only [List.replicate_succ, List.replicate_zero]
        rw [← hWD]
        clear hWD
        refine hl_take_np 0 (by kernel_rfl) (by kernel_rfl) rfl (by kernel_rfl) hsD (v := ?_) ?_ ?_
        rotate_left
        · (rintro x hx; have k_d0 := hx.cell d0; have k_d1 := hx.cell d1; have k_d2 := hx.cell d2; have k_d3 := hx.cell d3; have k_d4 := hx.cell d4; have k_j0 := hx.cell j0; have k_j1 := hx.cell j1; have k_j2 := hx.cell j2; have k_j3 := hx.cell j3; have k_j4 := hx.cell j4; clear hx; go_simp; try rfl)
        simp only [Act.put, List.setIfInBounds_toArray, List.set_cons_zero, List.set_cons_succ]
        refine hl_take_np 1 (by kernel_rfl) (by kernel_rfl) rfl (by kernel_rfl) hsD (v := ?_) ?_ ?_
        rotate_left
        · (rintro x hx; have k_d0 := hx.cell d0; have k_d1 := hx.cell d1; have k_d2 := hx.cell d2; have k_d3 := hx.cell d3; have k_d4 := hx.cell d4; have k_j0 := hx.cell j0; have k_j1 := hx.cell j1; have k_j2 := hx.cell j2; have k_j3 := hx.cell j3; have k_j4 := hx.cell j4; clear hx; go_simp; try rfl)
        simp only [Act.put, List.setIfInBounds_toArray, List.set_cons_zero, List.set_cons_succ]
        refine hl_take_np 2 (by kernel_rfl) (by kernel_rfl) rfl (by kernel_rfl) hsD (v := ?_) ?_ ?_
        rotate_left
        · (rintro x hx; have k_d0 := hx.cell d0; have k_d1 := hx.cell d1; have k_d2 := hx.cell d2; have k_d3 := hx.cell d3; have k_d4 := hx.cell d4; have k_j0 := hx.cell j0; have k_j1 := hx.cell j1; have k_j2 := hx.cell j2; have k_j3 := hx.cell j3; have k_j4 := hx.cell j4; clear hx; go_simp; try rfl)
        simp only [Act.put, List.setIfInBounds_toArray, List.set_cons_zero, List.set_cons_succ]
        refine hl_take_np 3 (by kernel_rfl) (by kernel_rfl) rfl (by kernel_rfl) hsD (v := ?_) ?_ ?_
        rotate_left
        · (rintro x hx; have k_d0 := hx.cell d0; have k_d1 := hx.cell d1; have k_d2 := hx.cell d2; have k_d3 := hx.cell d3; have k_d4 := hx.cell d4; have k_j0 := hx.cell j0; have k_j1 := hx.cell j1; have k_j2 := hx.cell j2; have k_j3 := hx.cell j3; have k_j4 := hx.cell j4; clear hx; go_simp; try rfl)
        simp only [Act.put, List.setIfInBounds_toArray, List.set_cons_zero, List.set_cons_succ]
        refine hl_take_np 4 (by kernel_rfl) (by kernel_rfl) rfl (by kernel_rfl) hsD (v := ?_) ?_ ?_
        rotate_left
        · (rintro x hx; have k_d0 := hx.cell d0; have k_d1 := hx.cell d1; have k_d2 := hx.cell d2; have k_d3 := hx.cell d3; have k_d4 := hx.cell d4; have k_j0 := hx.cell j0; have k_j1 := hx.cell j1; have k_j2 := hx.cell j2; have k_j3 := hx.cell j3; have k_j4 := hx.cell j4; clear hx; go_simp; try rfl)
        simp only [Act.put, List.setIfInBounds_toArray, List.set_cons_zero, List.set_cons_succ]
        refine hl_take_np 5 (by kernel_rfl) (by kernel_rfl) rfl (by kernel_rfl) hsD (v := ?_) ?_ ?_
        rotate_left
        · (rintro x hx; have k_d0 := hx.cell d0; have k_d1 := hx.cell d1; have k_d2 := hx.cell d2; have k_d3 := hx.cell d3; have k_d4 := hx.cell d4; have k_j0 := hx.cell j0; have k_j1 := hx.cell j1; have k_j2 := hx.cell j2; have k_j3 := hx.cell j3; have k_j4 := hx.cell j4; clear hx; go_simp; try rfl)
        simp only [Act.put, List.setIfInBounds_toArray, List.set_cons_zero, List.set_cons_succ]
        refine hl_take_np 6 (by kernel_rfl) (by kernel_rfl) rfl (by kernel_rfl) hsD (v := ?_) ?_ ?_
        rotate_left
        · (rintro x hx; have k_d0 := hx.cell d0; have k_d1 := hx.cell d1; have k_d2 := hx.cell d2; have k_d3 := hx.cell d3; have k_d4 := hx.cell d4; have k_j0 := hx.cell j0; have k_j1 := hx.cell j1; have k_j2 := hx.cell j2; have k_j3 := hx.cell j3; have k_j4 := hx.cell j4; clear hx; go_simp; try rfl)
        simp only [Act.put, List.setIfInBounds_toArray, List.set_cons_zero, List.set_cons_succ]
        refine hl_take_np 7 (by kernel_rfl) (by kernel_rfl) rfl (by kernel_rfl) hsD (v := ?_) ?_ ?_
        rotate_left
        · (rintro x hx; have k_d0 := hx.cell d0; have k_d1 := hx.cell d1; have k_d2 := hx.cell d2; have k_d3 := hx.cell d3; have k_d4 := hx.cell d4; have k_j0 := hx.cell j0; have k_j1 := hx.cell j1; have k_j2 := hx.cell j2; have k_j3 := hx.cell j3; have k_j4 := hx.cell j4; clear hx; go_simp; try rfl)
        simp only [Act.put, List.setIfInBounds_toArray, List.set_cons_zero, List.set_cons_succ]
        refine hl_take_np 8 (by kernel_rfl) (by kernel_rfl) rfl (by kernel_rfl) hsD (v := ?_) ?_ ?_
        rotate_left
        · (rintro x hx; have k_d0 := hx.cell d0; have k_d1 := hx.cell d1; have k_d2 := hx.cell d2; have k_d3 := hx.cell d3; have k_d4 := hx.cell d4; have k_j0 := hx.cell j0; have k_j1 := hx.cell j1; have k_j2 := hx.cell j2; have k_j3 := hx.cell j3; have k_j4 := hx.cell j4; clear hx; go_simp; try rfl)
        simp only [Act.put, List.setIfInBounds_toArray, List.set_cons_zero, List.set_cons_succ]
        refine hl_take_np 9 (by kernel_rfl) (by kernel_rfl) rfl (by kernel_rfl) hsD (v := ?_) ?_ ?_
        rotate_left
        · (rintro x hx; have k_d0 := hx.cell d0; have k_d1 := hx.cell d1; have k_d2 := hx.cell d2; have k_d3 := hx.cell d3; have k_d4 := hx.cell d4; have k_j0 := hx.cell j0; have k_j1 := hx.cell j1; have k_j2 := hx.cell j2; have k_j3 := hx.cell j3; have k_j4 := hx.cell j4; clear hx; go_simp; try rfl)
        simp only [Act.put, List.setIfInBounds_toArray, List.set_cons_zero, List.set_cons_succ]
        refine hl_take_np 10 (by kernel_rfl) (by kernel_rfl) rfl (by kernel_rfl) hsD (v := ?_) ?_ ?_
        rotate_left
        · (rintro x hx; have k_d0 := hx.cell d0; have k_d1 := hx.cell d1; have k_d2 := hx.cell d2; have k_d3 := hx.cell d3; have k_d4 := hx.cell d4; have k_j0 := hx.cell j0; have k_j1 := hx.cell j1; have k_j2 := hx.cell j2; have k_j3 := hx.cell j3; have k_j4 := hx.cell j4; clear hx; go_simp; try rfl)
        simp only [Act.put, List.setIfInBounds_toArray, List.set_cons_zero, List.set_cons_succ]
        refine hl_stepW 11 (by kernel_rfl) rfl (by kernel_rfl) ?_
        intro K hK
        go_simp
        refine (HCM2.out WD).mono ?_
        rintro e W2 ⟨rfl, hga⟩
        have hs2 : G WA W2 := hsD.trans hga
        refine hK _ _ (fun _ => hs2) ?_
        clear hK K hga j0 j1 j2 j3 j4 HCM2 d0 d1 d2 d3 d4
        simp only [Act.put, List.setIfInBounds_toArray, List.set_cons_zero, List.set_cons_succ]
        obtain ⟨bb2, hbb2⟩ : ∃ x : Bool, x = (r == 0) := ⟨_, rfl⟩
        have hrd : (r == 0) = bb2 := hbb2.symm
        have HB2 := Lib.hid (show (decide (i < n) && decide (ecmp (eat L i) E = 0)) = bb2 by rw [hbb2, HR.out]; simp [hin]; rfl)
        clear hbb2
        refine hl_take_np 12 (by kernel_rfl) (by kernel_rfl) rfl (by kernel_rfl) hs2 (v := ?_) ?_ ?_
        rotate_left
        · (rintro x hx; clear hx; go_simp; try rfl)
        simp only [Act.put, List.setIfInBounds_toArray, List.set_cons_zero, List.set_cons_succ]
        refine hl_take_np 13 (by kernel_rfl) (by kernel_rfl) rfl (by kernel_rfl) hs2 (v := ?_) ?_ ?_
        rotate_left
        · (rintro x hx; clear hx; go_simp; try rfl)
        simp only [Act.put, List.setIfInBounds_toArray, List.set_cons_zero, List.set_cons_succ]
        refine hl_take_np 14 (by kernel_rfl) (by kernel_rfl) rfl (by kernel_rfl) hs2 (v := ?_) ?_ ?_
        rotate_left
        · (rintro x hx; clear hx; go_simp; try rfl)
        simp only [Act.put, List.setIfInBounds_toArray, List.set_cons_zero, List.set_cons_succ]
        refine hl_take_np 15 (by kernel_rfl) (by kernel_rfl) rfl (by kernel_rfl) hs2 (v := ?_) ?_ ?_
        rotate_left
        · (rintro x hx; clear hx; go_simp; try rfl)
        simp only [Act.put, List.setIfInBounds_toArray, List.set_cons_zero, List.set_cons_succ]
        refine hl_done (by kernel_rfl) ?_ _
        refine NoPanic.normal (HQ0.out _ _ ?_)
        clear HQ0
        have hE2 := hgA.trans hs2
        clear hsD hs2
        go_wp2_with fail
        refine bodyPost_ret (v := .tuple #[.int .i64 i, .bool bb2]) ?_ rfl ⟨i, HSP.out, by rw [HB2.out], hE2⟩
        simp [results, Try.results61, go_sem, hrd]
      · have hinI : ¬ (i : Int) < (n : Int) := by omega
        have hdI : decide ((i : Int) < (n : Int)) = false := by simpa using hinI
        refine region_hlW (fun w' => G WA w') 99 16 (by kernel_rfl) rfl ?_
        intro Q0 HQ0
        simp only [List.replicate_succ, List.replicate_zero]
        rw [← hWD]
        clear hWD
        refine hl_take_np 0 (by kernel_rfl) (by kernel_rfl) rfl (by kernel_rfl) hsD (v := ?_) ?_ ?_
        rotate_left
        · (rintro x hx; clear hx; go_simp; try rfl)
        simp only [Act.put, List.setIfInBounds_toArray, List.set_cons_zero, List.set_cons_succ]
        refine hl_take_np 1 (by kernel_rfl) (by kernel_rfl) rfl (by kernel_rfl) hsD (v := ?_) ?_ ?_
        rotate_left
        · (rintro x hx; clear hx; go_simp; try rfl)
        simp only [Act.put, List.setIfInBounds_toArray, List.set_cons_zero, List.set_cons_succ]
        refine hl_take_np 2 (by kernel_rfl) (by kernel_rfl) rfl (by kernel_rfl) hsD (v := ?_) ?_ ?_
        rotate_left
        · (rintro x hx; clear hx; go_simp; try rfl)
        simp only [Act.put, List.setIfInBounds_toArray, List.set_cons_zero, List.set_cons_succ]
        refine hl_take_np 3 (by kernel_rfl) (by kernel_rfl) rfl (by kernel_rfl) hsD (v := ?_) ?_ ?_
        rotate_left
        · (rintro x hx; clear hx; go_simp; try rfl)
        simp only [Act.put, List.setIfInBounds_toArray, List.set_cons_zero, List.set_cons_succ]
        refine hl_take_np 4 (by kernel_rfl) (by kernel_rfl) rfl (by kernel_rfl) hsD (v := ?_) ?_ ?_
        rotate_left
        · (rintro x hx; clear hx; go_simp; try rfl)
        simp only [Act.put, List.setIfInBounds_toArray, List.set_cons_zero, List.set_cons_succ]
        refine hl_skip_np 5 (by kernel_rfl) (by kernel_rfl) rfl (by kernel_rfl) hsD ?_
        simp only [Act.put, List.setIfInBounds_toArray, List.set_cons_zero, List.set_cons_succ]
        refine hl_skip_np 6 (by kernel_rfl) (by kernel_rfl) rfl (by kernel_rfl) hsD ?_
        simp only [Act.put, List.setIfInBounds_toArray, List.set_cons_zero, List.set_cons_succ]
        refine hl_skip_np 7 (by kernel_rfl) (by kernel_rfl) rfl (by kernel_rfl) hsD ?_
        simp only [Act.put, List.setIfInBounds_toArray, List.set_cons_zero, List.set_cons_succ]
        refine hl_skip_np 8 (by kernel_rfl) (by kernel_rfl) rfl (by kernel_rfl) hsD ?_
        simp only [Act.put, List.setIfInBounds_toArray, List.set_cons_zero, List.set_cons_succ]
        refine hl_skip_np 9 (by kernel_rfl) (by kernel_rfl) rfl (by kernel_rfl) hsD ?_
        simp only [Act.put, List.setIfInBounds_toArray, List.set_cons_zero, List.set_cons_succ]
        refine hl_skip_np 10 (by kernel_rfl) (by kernel_rfl) rfl (by kernel_rfl) hsD ?_
        simp only [Act.put, List.setIfInBounds_toArray, List.set_cons_zero, List.set_cons_succ]
        refine hl_skip_np 11 (by kernel_rfl) (by kernel_rfl) rfl (by kernel_rfl) hsD ?_
        simp only [Act.put, List.setIfInBounds_toArray, List.set_cons_zero, List.set_cons_succ]
        refine hl_skip_np 12 (by kernel_rfl) (by kernel_rfl) rfl (by kernel_rfl) hsD ?_
        simp only [Act.put, List.setIfInBounds_toArray, List.set_cons_zero, List.set_cons_succ]
        refine hl_take_np 13 (by kernel_rfl) (by kernel_rfl) rfl (by kernel_rfl) hsD (v := ?_) ?_ ?_
        rotate_left
        · (rintro x hx; clear hx; go_simp; try rfl)
        simp only [Act.put, List.setIfInBounds_toArray, List.set_cons_zero, List.set_cons_succ]
        refine hl_take_np 14 (by kernel_rfl) (by kernel_rfl) rfl (by kernel_rfl) hsD (v := ?_) ?_ ?_
        rotate_left
        · (rintro x hx; clear hx; go_simp; try rfl)
        simp only [Act.put, List.setIfInBounds_toArray, List.set_cons_zero, List.set_cons_succ]
        refine hl_take_np 15 (by kernel_rfl) (by kernel_rfl) rfl (by kernel_rfl) hsD (v := ?_) ?_ ?_
        rotate_left
        · (rintro x hx; clear hx; go_simp; try rfl)
        simp only [Act.put, List.setIfInBounds_toArray, List.set_cons_zero, List.set_cons_succ]
        refine hl_done (by kernel_rfl) ?_ _
        refine NoPanic.normal (HQ0.out _ _ ?_)
        clear HQ0
        have hE2 := hgA.trans hsD
        have HB2 := Lib.hid (show (decide (i < n) && decide (ecmp (eat L i) E = 0)) = false by simp [hin])
        clear hsD
        go_wp2_with fail
        refine bodyPost_ret (v := .tuple #[.int .i64 i, .bool false]) ?_ rfl ⟨i, HSP.out, by rw [HB2.out], hE2⟩
        simp [results, Try.results61, go_sem]
end Go.Proofs.Ythhmmjpgefinmaa
