/- rows of edges: two runs in order are made one: the walk -/
import Derived.Test.YtfdajignnnhnmaaSortQ
import Derived.Test.YtfdajignnnhnmaaSortS
namespace Go.Proofs.Ytfdajignnnhnmaa
set_option linter.unusedVariables false
set_option linter.unusedSimpArgs false
open Go.RowKit Go.Shelf
attribute [local go_sem] Oper.semAt_some

/-- what a merge shows -/
def Merged (w : World) (g n c a b : Nat) (L : List Edg) (e : Ending) (w' : World) : Prop := (∃ u, e = .returned u) ∧ ∃ L', In w' g n c L' ∧ Stab a b L L' ∧ Srt a b L' ∧ Fr (fun q => q = g) w w'
theorem swap_cells {W : World} {g n c p q : Nat} {L : List Edg} (h : In W g n c L) (hp : p < n) (hq : q < n) : ∃ xf xt xl xm px nx cx yf yt yl ym py ny cy,
    (W.cell? ⟨g, p * 5, none⟩ = some (.string xf) ∧ W.cell? ⟨g, p * 5 + 1, none⟩ = some (.string xt) ∧ W.cell? ⟨g, p * 5 + 2, none⟩ = some (.string xl) ∧ W.cell? ⟨g, p * 5 + 3, none⟩ = some (.int .i64 xm) ∧ W.cell? ⟨g, p * 5 + 4, none⟩ = some (.slice px nx cx)) ∧
    (W.cell? ⟨g, q * 5, none⟩ = some (.string yf) ∧ W.cell? ⟨g, q * 5 + 1, none⟩ = some (.string yt) ∧ W.cell? ⟨g, q * 5 + 2, none⟩ = some (.string yl) ∧ W.cell? ⟨g, q * 5 + 3, none⟩ = some (.int .i64 ym) ∧ W.cell? ⟨g, q * 5 + 4, none⟩ = some (.slice py ny cy)) ∧
    ∀ W', G W W' → In (((((((((((W'.setCell ⟨g, p * 5, none⟩ (.string yf)).setCell ⟨g, p * 5 + 1, none⟩ (.string yt)).setCell ⟨g, p * 5 + 2, none⟩ (.string yl)).setCell ⟨g, p * 5 + 3, none⟩ (.int .i64 ym)).setCell ⟨g, p * 5 + 4, none⟩ (.slice py ny cy)).setCell ⟨g, q * 5, none⟩ (.string xf)).setCell ⟨g, q * 5 + 1, none⟩ (.string xt)).setCell ⟨g, q * 5 + 2, none⟩ (.string xl)).setCell ⟨g, q * 5 + 3, none⟩ (.int .i64 xm)).setCell ⟨g, q * 5 + 4, none⟩ (.slice px nx cx)).drew) g n c (eswp L p q) ∧
      Fr (fun k => k = g) W' (((((((((((W'.setCell ⟨g, p * 5, none⟩ (.string yf)).setCell ⟨g, p * 5 + 1, none⟩ (.string yt)).setCell ⟨g, p * 5 + 2, none⟩ (.string yl)).setCell ⟨g, p * 5 + 3, none⟩ (.int .i64 ym)).setCell ⟨g, p * 5 + 4, none⟩ (.slice py ny cy)).setCell ⟨g, q * 5, none⟩ (.string xf)).setCell ⟨g, q * 5 + 1, none⟩ (.string xt)).setCell ⟨g, q * 5 + 2, none⟩ (.string xl)).setCell ⟨g, q * 5 + 3, none⟩ (.int .i64 xm)).setCell ⟨g, q * 5 + 4, none⟩ (.slice px nx cx)).drew) := by
  have hat1 := h.at hp
  have hat2 := h.at hq
  obtain ⟨px, nx, cx, hxv⟩ := h.eIs hp
  obtain ⟨py, ny, cy, hyv⟩ := h.eIs hq
  have HS := fun W' (hW : G W W') => (h.g hW).swap hp hq
  unfold put5 at HS
  rw [hxv] at hat1
  rw [hyv] at hat2
  rw [hxv, hyv] at HS
  refine ⟨_, _, _, _, px, nx, cx, _, _, _, _, py, ny, cy, hat1, hat2, fun W' hW => ⟨(HS W' hW).g (G.drew (G.refl _)), ?_⟩⟩
  have := swap_fr W' g p q (eat L q) (eat L p)
  unfold put5 at this
  rw [hxv, hyv] at this
  exact this.drew
theorem eswp_comm (L : List Edg) (i j : Nat) : eswp L i j = eswp L j i := by
  by_cases h : i = j
  · rw [h]
  · unfold eswp; rw [List.set_comm _ _ h]
set_option maxRecDepth 20000 in
set_option maxHeartbeats 8000000 in
theorem symA_any (L : List Edg) (g n c a m b : Nat) (w : World) (h : In w g n c L) (hma : m = a + 1) (hmb : m < b) (hbn : b ≤ n) (hn : n ≤ 1000000) (h2 : Srt m b L) :
    Calls Try.prog 88 #[.slice (some ⟨g, 0, none⟩) n c, .int .i64 a, .int .i64 m, .int .i64 b, CMPF] w (Merged w g n c a b L) := by
  have HI0 := Lib.hid h
  have e1 : (m : Int) - (a : Int) = 1 := by omega
  have HMA := Lib.hid hma
  have H2 := Lib.hid h2
  have ham : a < m := by omega
  clear h hma h2
  go_enter Try.func88, Try.ntmps88
  go_wp2_with fail
  clear e1
  go_loopw [10, 11] (fun iv jv wr => ∃ i j : Nat, iv = .int .i64 i ∧ jv = .int .i64 j ∧ m ≤ i ∧ i ≤ j ∧ j ≤ b ∧ Hid ((∀ q, m ≤ q → q < i → eLt (eat L q) (eat L a)) ∧ (∀ q, j ≤ q → q < b → ¬ eLt (eat L q) (eat L a)) ∧ In wr g n c L) ∧ Fr (fun q => q = g) w wr) (fun iv jv _ => (intOf jv).toNat - (intOf iv).toNat)
  case atStart => exact ⟨m, b, rfl, rfl, by omega, by omega, by omega, Lib.hid ⟨fun q h1 h2 => by omega, fun q h1 h2 => by omega, HI0.out⟩, Fr.refl _ _⟩
  case round =>
    obtain ⟨i, j, rfl, rfl, hmi, hij, hjb, HL, hf⟩ := hrel
    by_cases hlt : i < j
    · have hltI : (i : Int) < (j : Int) := by omega
      obtain ⟨hh, hhd⟩ : ∃ h, h = (i + j) / 2 := ⟨_, rfl⟩
      have hhI : ((i : Int) + (j : Int)) / 2 = (hh : Int) := by omega
      have hh1 : i ≤ hh := by omega
      have hh2 : hh < j := by omega
      have hhn : hh < n := by omega
      have han : a < n := by omega
      clear hhd
      obtain ⟨j0, j1, j2, j3, j4⟩ := HL.out.2.2.at hhn
      obtain ⟨u0, u1, u2, u3, u4⟩ := HL.out.2.2.at han
      have HCMP := Lib.hid (fun X => ecmpV_any (eat L hh) (eat L a) X (HL.out.2.2.eIs hhn) (HL.out.2.2.eIs han))
      obtain ⟨px, nx, cx, hxv⟩ := HL.out.2.2.eIs hhn
      obtain ⟨py, ny, cy, hyv⟩ := HL.out.2.2.eIs han
      have HCM2 : Hid (∀ X, Calls Try.prog 24 #[.agg #[.string (eat L hh).f, .string (eat L hh).t, .string (eat L hh).l, .int .i64 (eat L hh).tm, .slice px nx cx], .agg #[.string (eat L a).f, .string (eat L a).t, .string (eat L a).l, .int .i64 (eat L a).tm, .slice py ny cy]] X fun e w' => e = .returned (.int .i64 (ecmp (eat L hh) (eat L a))) ∧ G X w') := Lib.hid (fun X => by
        obtain ⟨pa', na', ca', pb', nb', cb', h1, h2, h3⟩ := HCMP.out X
        rw [hxv] at h1; rw [hyv] at h2
        cases h1; cases h2
        exact h3)
      rw [hxv] at j4
      rw [hyv] at u4
      have HXV := Lib.hid hxv
      have HYV := Lib.hid hyv
      clear hxv hyv HCMP
      obtain ⟨r, hr⟩ : ∃ r, r = ecmp (eat L hh) (eat L a) := ⟨_, rfl⟩
      rw [← hr] at HCM2
      have HR := Lib.hid hr
      clear hr
      obtain ⟨xE, hx⟩ : ∃ x, x = eat L hh := ⟨_, rfl⟩
      obtain ⟨yE, hy⟩ : ∃ y, y = eat L a := ⟨_, rfl⟩
      rw [← hx] at j0 j1 j2 j3 HCM2 HXV
      rw [← hy] at u0 u1 u2 u3 HCM2 HYV
      have HX := Lib.hid hx
      have HY := Lib.hid hy
      clear hx hy
      obtain ⟨xf, xt, xl, xm, xv, xp⟩ := xE
      obtain ⟨yf, yt, yl, ym, yv, yp⟩ := yE
      simp only at j0 j1 j2 j3 u0 u1 u2 u3 HCM2 HXV HYV
      go_upto_region 5 with fail
      obtain ⟨WD, hWD⟩ : ∃ WD : World, WD = wr.drew := ⟨_, rfl⟩
      have hsD : G wr WD := by rw [hWD]; exact (G.refl wr).drew
      refine region_hlW (fun w' => G wr w') 99 11 (by kernel_rfl) rfl ?_
      intro Q0 HQ0
      simp only [List.replicate_succ, List.replicate_zero]
      rw [← hWD]
      clear hWD
      refine hl_take_np 0 (by kernel_rfl) (by kernel_rfl) rfl (by kernel_rfl) hsD (v := ?_) ?_ ?_
      rotate_left
      · (rintro x hx; have k0 := hx.cell j0; have l0 := hx.cell u0; have k1 := hx.cell j1; have l1 := hx.cell u1; have k2 := hx.cell j2; have l2 := hx.cell u2; have k3 := hx.cell j3; have l3 := hx.cell u3; have k4 := hx.cell j4; have l4 := hx.cell u4; clear hx; go_simp; try rfl)
      simp only [Act.put, List.setIfInBounds_toArray, List.set_cons_zero, List.set_cons_succ]
      refine hl_take_np 1 (by kernel_rfl) (by kernel_rfl) rfl (by kernel_rfl) hsD (v := ?_) ?_ ?_
      rotate_left
      · (rintro x hx; have k0 := hx.cell j0; have l0 := hx.cell u0; have k1 := hx.cell j1; have l1 := hx.cell u1; have k2 := hx.cell j2; have l2 := hx.cell u2; have k3 := hx.cell j3; have l3 := hx.cell u3; have k4 := hx.cell j4; have l4 := hx.cell u4; clear hx; go_simp; try rfl)
      simp only [Act.put, List.setIfInBounds_toArray, List.set_cons_zero, List.set_cons_succ]
      refine hl_take_np 2 (by kernel_rfl) (by kernel_rfl) rfl (by kernel_rfl) hsD (v := ?_) ?_ ?_
      rotate_left
      · (rintro x hx; have k0 := hx.cell j0; have l0 := hx.cell u0; have k1 := hx.cell j1; have l1 := hx.cell u1; have k2 := hx.cell j2; have l2 := hx.cell u2; have k3 := hx.cell j3; have l3 := hx.cell u3; have k4 := hx.cell j4; have l4 := hx.cell u4; clear hx; go_simp; try rfl)
      simp only [Act.put, List.setIfInBounds_toArray, List.set_cons_zero, List.set_cons_succ]
      refine hl_take_np 3 (by kernel_rfl) (by kernel_rfl) rfl (by kernel_rfl) hsD (v := ?_) ?_ ?_
      rotate_left
      · (rintro x hx; have k0 := hx.cell j0; have l0 := hx.cell u0; have k1 := hx.cell j1; have l1 := hx.cell u1; have k2 := hx.cell j2; have l2 := hx.cell u2; have k3 := hx.cell j3; have l3 := hx.cell u3; have k4 := hx.cell j4; have l4 := hx.cell u4; clear hx; go_simp; try rfl)
      simp only [Act.put, List.setIfInBounds_toArray, List.set_cons_zero, List.set_cons_succ]
      refine hl_take_np 4 (by kernel_rfl) (by kernel_rfl) rfl (by kernel_rfl) hsD (v := ?_) ?_ ?_
      rotate_left
      · (rintro x hx; have k0 := hx.cell j0; have l0 := hx.cell u0; have k1 := hx.cell j1; have l1 := hx.cell u1; have k2 := hx.cell j2; have l2 := hx.cell u2; have k3 := hx.cell j3; have l3 := hx.cell u3; have k4 := hx.cell j4; have l4 := hx.cell u4; clear hx; go_simp; try rfl)
      simp only [Act.put, List.setIfInBounds_toArray, List.set_cons_zero, List.set_cons_succ]
      refine hl_take_np 5 (by kernel_rfl) (by kernel_rfl) rfl (by kernel_rfl) hsD (v := ?_) ?_ ?_
      rotate_left
      · (rintro x hx; have k0 := hx.cell j0; have l0 := hx.cell u0; have k1 := hx.cell j1; have l1 := hx.cell u1; have k2 := hx.cell j2; have l2 := hx.cell u2; have k3 := hx.cell j3; have l3 := hx.cell u3; have k4 := hx.cell j4; have l4 := hx.cell u4; clear hx; go_simp; try rfl)
      simp only [Act.put, List.setIfInBounds_toArray, List.set_cons_zero, List.set_cons_succ]
      refine hl_take_np 6 (by kernel_rfl) (by kernel_rfl) rfl (by kernel_rfl) hsD (v := ?_) ?_ ?_
      rotate_left
      · (rintro x hx; have k0 := hx.cell j0; have l0 := hx.cell u0; have k1 := hx.cell j1; have l1 := hx.cell u1; have k2 := hx.cell j2; have l2 := hx.cell u2; have k3 := hx.cell j3; have l3 := hx.cell u3; have k4 := hx.cell j4; have l4 := hx.cell u4; clear hx; go_simp; try rfl)
      simp only [Act.put, List.setIfInBounds_toArray, List.set_cons_zero, List.set_cons_succ]
      refine hl_take_np 7 (by kernel_rfl) (by kernel_rfl) rfl (by kernel_rfl) hsD (v := ?_) ?_ ?_
      rotate_left
      · (rintro x hx; have k0 := hx.cell j0; have l0 := hx.cell u0; have k1 := hx.cell j1; have l1 := hx.cell u1; have k2 := hx.cell j2; have l2 := hx.cell u2; have k3 := hx.cell j3; have l3 := hx.cell u3; have k4 := hx.cell j4; have l4 := hx.cell u4; clear hx; go_simp; try rfl)
      simp only [Act.put, List.setIfInBounds_toArray, List.set_cons_zero, List.set_cons_succ]
      refine hl_take_np 8 (by kernel_rfl) (by kernel_rfl) rfl (by kernel_rfl) hsD (v := ?_) ?_ ?_
      rotate_left
      · (rintro x hx; have k0 := hx.cell j0; have l0 := hx.cell u0; have k1 := hx.cell j1; have l1 := hx.cell u1; have k2 := hx.cell j2; have l2 := hx.cell u2; have k3 := hx.cell j3; have l3 := hx.cell u3; have k4 := hx.cell j4; have l4 := hx.cell u4; clear hx; go_simp; try rfl)
      simp only [Act.put, List.setIfInBounds_toArray, List.set_cons_zero, List.set_cons_succ]
      refine hl_stepW 9 (by kernel_rfl) rfl (by kernel_rfl) ?_
      intro K hK
      go_simp
      refine (HCM2.out WD).mono ?_
      rintro e W2 ⟨rfl, hga⟩
      have hs2 : G wr W2 := hsD.trans hga
      refine hK _ _ (fun _ => hs2) ?_
      clear hK K hga j0 j1 j2 j3 j4 u0 u1 u2 u3 u4 HXV HYV HX HY HCM2
      simp only [Act.put, List.setIfInBounds_toArray, List.set_cons_zero, List.set_cons_succ]
      by_cases hr0 : r < 0
      · have hrd : decide (r < 0) = true := by simpa using hr0
        refine hl_take_np 10 (by kernel_rfl) (by kernel_rfl) rfl (by kernel_rfl) hs2 (v := ?_) ?_ ?_
        rotate_left
        · (rintro x hx; clear hx; go_simp; try rfl)
        simp only [Act.put, List.setIfInBounds_toArray, List.set_cons_zero, List.set_cons_succ]
        refine hl_done (by kernel_rfl) ?_ _
        refine NoPanic.normal (HQ0.out _ _ ?_)
        clear HQ0
        have HL2 := Lib.hid (show (∀ q, m ≤ q → q < hh + 1 → eLt (eat L q) (eat L a)) ∧ (∀ q, j ≤ q → q < b → ¬ eLt (eat L q) (eat L a)) ∧ In W2 g n c L from ⟨fun q h1 h2 => eLe_lt (H2.out.le (j := hh) h1 (by omega) (by omega)) (by unfold eLt; rw [← HR.out]; exact hr0), HL.out.2.1, HL.out.2.2.g hs2⟩)
        have hf2 := hf.trans (hs2.fr (fun q => q = g)) (fun _ _ h => h)
        clear hsD hs2 hf hrd
        go_wp2_with fail
        go_roundw
        case rel => exact ⟨hh + 1, j, by go_num, rfl, by omega, by omega, by omega, HL2, hf2⟩
        case measure => simp [intOf]; omega
      · have hrd : decide (r < 0) = false := by simpa using hr0
        refine hl_take_np 10 (by kernel_rfl) (by kernel_rfl) rfl (by kernel_rfl) hs2 (v := ?_) ?_ ?_
        rotate_left
        · (rintro x hx; clear hx; go_simp; try rfl)
        simp only [Act.put, List.setIfInBounds_toArray, List.set_cons_zero, List.set_cons_succ]
        refine hl_done (by kernel_rfl) ?_ _
        refine NoPanic.normal (HQ0.out _ _ ?_)
        clear HQ0
        have HL2 := Lib.hid (show (∀ q, m ≤ q → q < i → eLt (eat L q) (eat L a)) ∧ (∀ q, hh ≤ q → q < b → ¬ eLt (eat L q) (eat L a)) ∧ In W2 g n c L from ⟨HL.out.1, fun q h1 h2 h3 => hr0 (by rw [HR.out]; exact eLe_lt (H2.out.le (by omega) h1 h2) h3), HL.out.2.2.g hs2⟩)
        have hf2 := hf.trans (hs2.fr (fun q => q = g)) (fun _ _ h => h)
        clear hsD hs2 hf hrd
        go_wp2_with fail
        go_roundw
        case rel => exact ⟨i, hh, rfl, rfl, by omega, by omega, by omega, HL2, hf2⟩
        case measure => simp [intOf]; omega
    · obtain rfl : i = j := by omega
      obtain ⟨WA, rfl⟩ : ∃ WA : World, WA = wr := ⟨_, rfl⟩
      go_wp2_with fail
      go_loopw [13] (fun kv wr => ∃ (k : Nat) (N : List Edg), kv = .int .i64 k ∧ a ≤ k ∧ k + 1 ≤ i ∧ Hid (MovU a k L N ∧ Stab a b L N ∧ In wr g n c N) ∧ Fr (fun q => q = g) w wr) (fun kv _ => i - (intOf kv).toNat)
      case atStart => exact ⟨a, L, rfl, by omega, by omega, Lib.hid ⟨MovU.start a L, Stab.refl _ _ _, HL.out.2.2⟩, hf⟩
      case round =>
        obtain ⟨k, N, rfl, hak, hki, HK, hf⟩ := hrel
        have hil : (i : Int) - 1 ≤ n := by omega
        by_cases hk2 : k + 1 < i
        · have hkI : (k : Int) < (i : Int) - 1 := by omega
          obtain ⟨p, hp⟩ : ∃ p, p = k + 1 := ⟨_, rfl⟩
          have hpI : (k : Int) + 1 = (p : Int) := by omega
          have hpw : IntKind.i64.wrap (p : Int) = p := IntWalk.i64_in _ (by omega)
          have hkn : k < n := by omega
          have hpn : p < n := by omega
          have hnl := HK.out.2.2.len
          have HST := Lib.hid (show MovU a p L (eswp N k p) ∧ Stab a b L (eswp N k p) by
            subst hp
            refine ⟨HK.out.1.step hak (by rw [hnl]; exact hpn), HK.out.2.1.trans ?_⟩
            have hne : ekey (eat N k) ≠ ekey (eat N (k + 1)) := by
              rw [HK.out.1.at', HK.out.1.hi (k + 1) (by omega)]
              exact (eLt_key (HL.out.1 (k + 1) (by have := HMA.out; omega) hk2)).symm
            rw [eswp_comm]
            exact (Stab.swap (by rw [hnl]; exact hpn) hne).mono (by omega) (by omega))
          obtain ⟨xf, xt, xl, xm, px, nx, cx, yf, yt, yl, ym, py, ny, cy, ⟨j0, j1, j2, j3, j4⟩, ⟨u0, u1, u2, u3, u4⟩, hsw⟩ := swap_cells HK.out.2.2 hkn hpn
          have HSW := Lib.hid (hsw wr (G.refl wr))
          have fz := HK.out.2.2.froz
          have f0 := fz (k * 5)
          have f1 := fz (k * 5 + 1)
          have f2 := fz (k * 5 + 2)
          have f3 := fz (k * 5 + 3)
          have f4 := fz (k * 5 + 4)
          have g0 := fz (p * 5)
          have g1 := fz (p * 5 + 1)
          have g2 := fz (p * 5 + 2)
          have g3 := fz (p * 5 + 3)
          have g4 := fz (p * 5 + 4)
          have HP := Lib.hid hp
          clear hsw fz hnl hp
          go_wp2_with fail
          go_region
          go_wp2_with fail
          go_roundw
          case rel => exact ⟨p, eswp N k p, rfl, by omega, by have := HP.out; omega, Lib.hid ⟨HST.out.1, HST.out.2, HSW.out.1⟩, hf.trans HSW.out.2 (fun _ _ h => h)⟩
          case measure => simp [intOf]; have := HP.out; omega
        · have hkI : ¬ (k : Int) < (i : Int) - 1 := by omega
          have hfin := HK.out.1
          rw [show k = i - 1 by omega] at hfin
          have HF := Lib.hid (hfin.fin HMA.out H2.out hmi hjb HL.out.1 HL.out.2.1)
          clear hfin
          go_wp2_with fail
          go_returns
          exact ⟨⟨_, rfl⟩, N, HK.out.2.2, HK.out.2.1, HF.out, hf⟩
end Go.Proofs.Ytfdajignnnhnmaa
