/- two runs in order are made one: the cut -/
import Derived.Test.YtfdajignnnhnmaaSortT
namespace Go.Proofs.Ytfdajignnnhnmaa
set_option linter.unusedVariables false
set_option linter.unusedSimpArgs false
open Go.RowKit Go.Shelf
attribute [local go_sem] Oper.semAt_some

theorem rot_same {s m e : Nat} {L : List Edg} (h1 : s ≤ m) (h2 : m ≤ e) (h : s = m ∨ m = e) : rot s m e L = L := by
  conv => rhs; rw [rot_split (L := L) h1 h2]
  unfold rot
  rcases h with rfl | rfl
  · simp [seg]
  · simp [seg]
set_option maxRecDepth 20000 in
set_option maxHeartbeats 16000000 in
theorem symC_any (D : Nat) (L : List Edg) (g n c a m b : Nat) (w : World) (h : In w g n c L) (hma : a + 1 < m) (hmb1 : m + 1 < b) (hbn : b ≤ n) (hn : n ≤ 1000000) (h1 : Srt a m L) (h2 : Srt m b L) (hD : b - a ≤ D)
    (ih : ∀ (a m b : Nat) (L : List Edg) (w : World), b - a < D → a < m → m < b → b ≤ n → In w g n c L → Srt a m L → Srt m b L → Calls Try.prog 88 #[.slice (some ⟨g, 0, none⟩) n c, .int .i64 a, .int .i64 m, .int .i64 b, CMPF] w (Merged w g n c a b L)) :
    Calls Try.prog 88 #[.slice (some ⟨g, 0, none⟩) n c, .int .i64 a, .int .i64 m, .int .i64 b, CMPF] w (Merged w g n c a b L) := by
  have HI0 := Lib.hid h
  have e1 : ((m : Int) - (a : Int) == 1) = false := by simp; omega
  have e2 : ((b : Int) - (m : Int) == 1) = false := by simp; omega
  have H1 := Lib.hid h1
  have H2 := Lib.hid h2
  have ham : a < m := by omega
  have hmb : m < b := by omega
  obtain ⟨mid, hmid⟩ : ∃ x, x = (a + b) / 2 := ⟨_, rfl⟩
  have hmI : ((a : Int) + (b : Int)) / 2 = (mid : Int) := by omega
  have HMID := Lib.hid hmid
  obtain ⟨s, hs⟩ : ∃ s, s = mid + m := ⟨_, rfl⟩
  have hsI : (mid : Int) + (m : Int) = (s : Int) := by omega
  obtain ⟨p, hp⟩ : ∃ p, p = s - 1 := ⟨_, rfl⟩
  have hpI : (s : Int) - 1 = (p : Int) := by omega
  have hq1 : 2 * mid ≤ a + b := by omega
  have hq2 : a + b ≤ 2 * mid + 1 := by omega
  have hs2' : s ≤ mid + m := by omega
  have hs3' : mid + m ≤ s := by omega
  have hp2' : p + 1 ≤ s := by omega
  have hp3' : s ≤ p + 1 := by omega
  clear h h1 h2 hmid hs hp
  by_cases hmm : mid < m
  · have hmmI : (mid : Int) < (m : Int) := by omega
    obtain ⟨lo, hlod⟩ : ∃ x, x = s - b := ⟨_, rfl⟩
    have hloI : (s : Int) - (b : Int) = (lo : Int) := by omega
    have hb1 : a ≤ lo := by omega
    have hb2 : lo ≤ mid := by omega
    have hb5 : lo + b ≤ s := by omega
    have hb6 : s ≤ lo + b := by omega
    clear hlod
    go_enter Try.func88, Try.ntmps88
    go_wp2_with fail
    go_loopw [20, 21] (fun iv jv wr => ∃ st r : Nat, iv = .int .i64 st ∧ jv = .int .i64 r ∧ lo ≤ st ∧ st ≤ r ∧ r ≤ mid ∧ Hid ((∀ c, lo ≤ c → c < st → ¬ eLt (eat L (mid + m - 1 - c)) (eat L c)) ∧ (∀ c, r ≤ c → c < mid → eLt (eat L (mid + m - 1 - c)) (eat L c)) ∧ In wr g n c L) ∧ Fr (fun q => q = g) w wr) (fun iv jv _ => (intOf jv).toNat - (intOf iv).toNat)
    case atStart => exact ⟨lo, mid, rfl, rfl, by omega, by omega, by omega, Lib.hid ⟨fun q h1 h2 => by omega, fun q h1 h2 => by omega, HI0.out⟩, Fr.refl _ _⟩
    case round =>
      obtain ⟨st, r', rfl, rfl, hlo, hsr, hhi, HL, hf⟩ := hrel
      by_cases hlt : st < r'
      · have hltI : (st : Int) < (r' : Int) := by omega
        obtain ⟨cc, hcd⟩ : ∃ h, h = (st + r') / 2 := ⟨_, rfl⟩
        have hcI : ((st : Int) + (r' : Int)) / 2 = (cc : Int) := by omega
        have hc1 : st ≤ cc := by omega
        have hc2 : cc < r' := by omega
        obtain ⟨d, hdd⟩ : ∃ d, d = p - cc := ⟨_, rfl⟩
        have hdI : (p : Int) - (cc : Int) = (d : Int) := by omega
        have hdw : IntKind.i64.wrap (d : Int) = d := IntWalk.i64_in _ (by omega)
        have hcn : cc < n := by omega
        have hdn : d < n := by omega
        have HD := Lib.hid (show d = mid + m - 1 - cc by omega)
        have HR9 := Lib.hid (show lo ≤ cc ∧ cc < mid ∧ m ≤ d ∧ d < b ∧ cc < m ∧ a ≤ cc by omega)
        clear hcd hdd
        obtain ⟨j0, j1, j2, j3, j4⟩ := HL.out.2.2.at hdn
        obtain ⟨u0, u1, u2, u3, u4⟩ := HL.out.2.2.at hcn
        have HCMP := Lib.hid (fun X => ecmpV_any (eat L d) (eat L cc) X (HL.out.2.2.eIs hdn) (HL.out.2.2.eIs hcn))
        obtain ⟨px, nx, cx, hxv⟩ := HL.out.2.2.eIs hdn
        obtain ⟨py, ny, cy, hyv⟩ := HL.out.2.2.eIs hcn
        have HCM2 : Hid (∀ X, Calls Try.prog 24 #[.agg #[.string (eat L d).f, .string (eat L d).t, .string (eat L d).l, .int .i64 (eat L d).tm, .slice px nx cx], .agg #[.string (eat L cc).f, .string (eat L cc).t, .string (eat L cc).l, .int .i64 (eat L cc).tm, .slice py ny cy]] X fun e w' => e = .returned (.int .i64 (ecmp (eat L d) (eat L cc))) ∧ G X w') := Lib.hid (fun X => by
          obtain ⟨pa', na', ca', pb', nb', cb', h1, h2, h3⟩ := HCMP.out X
          rw [hxv] at h1; rw [hyv] at h2
          cases h1; cases h2
          exact h3)
        rw [hxv] at j4
        rw [hyv] at u4
        have HXV := Lib.hid hxv
        have HYV := Lib.hid hyv
        clear hxv hyv HCMP
        obtain ⟨r, hr⟩ : ∃ r, r = ecmp (eat L d) (eat L cc) := ⟨_, rfl⟩
        rw [← hr] at HCM2
        have HR := Lib.hid hr
        clear hr
        obtain ⟨xE, hx⟩ : ∃ x, x = eat L d := ⟨_, rfl⟩
        obtain ⟨yE, hy⟩ : ∃ y, y = eat L cc := ⟨_, rfl⟩
        rw [← hx] at j0 j1 j2 j3 HCM2 HXV
        rw [← hy] at u0 u1 u2 u3 HCM2 HYV
        have HX := Lib.hid hx
        have HY := Lib.hid hy
        clear hx hy
        obtain ⟨xf, xt, xl, xm, xv, xp⟩ := xE
        obtain ⟨yf, yt, yl, ym, yv, yp⟩ := yE
        simp only at j0 j1 j2 j3 u0 u1 u2 u3 HCM2 HXV HYV
        go_upto_region 35 with fail
        obtain ⟨WD, hWD⟩ : ∃ WD : World, WD = wr.drew := ⟨_, rfl⟩
        have hsD : G wr WD := by rw [hWD]; exact (G.refl wr).drew
        refine region_hlW (fun w' => G wr w') 99 14 (by kernel_rfl) rfl ?_
        intro Q0 HQ0
        simp only [List.replicate_succ, List.replicate_zero]
        rw [← hWD]
        clear hWD
        refine hl_take_np 0 (by kernel_rfl) (by kernel_rfl) rfl (by kernel_rfl) hsD (v := ?_) ?_ ?_
        rotate_left
        · (rintro x hx; have k0 := hx.cell j0; have l0 := hx.cell u0; have k1 := hx.cell j1; have l1 := hx.cell u1; have k2 := hx.cell j2; have l2 := hx.cell u2; have k3 := hx.cell j3; have l3 := hx.cell u3; have k4 := hx.cell j4; have l4 := hx.cell u4; clear hx; go_simp; try rfl)
        simp only [Act.put, List.setIfInBounds_toArray, List.set_cons_zero, List.set_cons_succ]
        refine hl_take_np 1 (by kernel_rfl) (by kernel_rfl) rfl (by kernel_rfl) hsD (v := ?_) ?_ ?_
        rotate_left
        · (rintro x hx; have k0 := hx.cell j0; have l0 := hx.cell u0; have k1 := hx.cell j1; have l1 := hx.cell u1; have k2 := hx.cell j2; have l2 := hx.cell u2; have k3 := hx.cell j3; have l3 := hx.cell u3; have k4 := hx.cell j4; have l4 := hx.cell u4; clear hx; go_simp; try rfl)
        simp only [Act.put, List.setIfInBounds_toArray, List.set_cons_zero, List.set_cons_succ]
        refine hl_take_np 2 (by kernel_rfl) (by kernel_rfl) rfl (by kernel_rfl) hsD (v := ?_) ?_ ?_
        rotate_left
        · (rintro x hx; have k0 := hx.cell j0; have l0 := hx.cell u0; have k1 := hx.cell j1; have l1 := hx.cell u1; have k2 := hx.cell j2; have l2 := hx.cell u2; have k3 := hx.cell j3; have l3 := hx.cell u3; have k4 := hx.cell j4; have l4 := hx.cell u4; clear hx; go_simp; try rfl)
        simp only [Act.put, List.setIfInBounds_toArray, List.set_cons_zero, List.set_cons_succ]
        refine hl_take_np 3 (by kernel_rfl) (by kernel_rfl) rfl (by kernel_rfl) hsD (v := ?_) ?_ ?_
        rotate_left
        · (rintro x hx; have k0 := hx.cell j0; have l0 := hx.cell u0; have k1 := hx.cell j1; have l1 := hx.cell u1; have k2 := hx.cell j2; have l2 := hx.cell u2; have k3 := hx.cell j3; have l3 := hx.cell u3; have k4 := hx.cell j4; have l4 := hx.cell u4; clear hx; go_simp; try rfl)
        simp only [Act.put, List.setIfInBounds_toArray, List.set_cons_zero, List.set_cons_succ]
        refine hl_take_np 4 (by kernel_rfl) (by kernel_rfl) rfl (by kernel_rfl) hsD (v := ?_) ?_ ?_
        rotate_left
        · (rintro x hx; have k0 := hx.cell j0; have l0 := hx.cell u0; have k1 := hx.cell j1; have l1 := hx.cell u1; have k2 := hx.cell j2; have l2 := hx.cell u2; have k3 := hx.cell j3; have l3 := hx.cell u3; have k4 := hx.cell j4; have l4 := hx.cell u4; clear hx; go_simp; try rfl)
        simp only [Act.put, List.setIfInBounds_toArray, List.set_cons_zero, List.set_cons_succ]
        refine hl_take_np 5 (by kernel_rfl) (by kernel_rfl) rfl (by kernel_rfl) hsD (v := ?_) ?_ ?_
        rotate_left
        · (rintro x hx; have k0 := hx.cell j0; have l0 := hx.cell u0; have k1 := hx.cell j1; have l1 := hx.cell u1; have k2 := hx.cell j2; have l2 := hx.cell u2; have k3 := hx.cell j3; have l3 := hx.cell u3; have k4 := hx.cell j4; have l4 := hx.cell u4; clear hx; go_simp; try rfl)
        simp only [Act.put, List.setIfInBounds_toArray, List.set_cons_zero, List.set_cons_succ]
        refine hl_take_np 6 (by kernel_rfl) (by kernel_rfl) rfl (by kernel_rfl) hsD (v := ?_) ?_ ?_
        rotate_left
        · (rintro x hx; have k0 := hx.cell j0; have l0 := hx.cell u0; have k1 := hx.cell j1; have l1 := hx.cell u1; have k2 := hx.cell j2; have l2 := hx.cell u2; have k3 := hx.cell j3; have l3 := hx.cell u3; have k4 := hx.cell j4; have l4 := hx.cell u4; clear hx; go_simp; try rfl)
        simp only [Act.put, List.setIfInBounds_toArray, List.set_cons_zero, List.set_cons_succ]
        refine hl_take_np 7 (by kernel_rfl) (by kernel_rfl) rfl (by kernel_rfl) hsD (v := ?_) ?_ ?_
        rotate_left
        · (rintro x hx; have k0 := hx.cell j0; have l0 := hx.cell u0; have k1 := hx.cell j1; have l1 := hx.cell u1; have k2 := hx.cell j2; have l2 := hx.cell u2; have k3 := hx.cell j3; have l3 := hx.cell u3; have k4 := hx.cell j4; have l4 := hx.cell u4; clear hx; go_simp; try rfl)
        simp only [Act.put, List.setIfInBounds_toArray, List.set_cons_zero, List.set_cons_succ]
        refine hl_take_np 8 (by kernel_rfl) (by kernel_rfl) rfl (by kernel_rfl) hsD (v := ?_) ?_ ?_
        rotate_left
        · (rintro x hx; have k0 := hx.cell j0; have l0 := hx.cell u0; have k1 := hx.cell j1; have l1 := hx.cell u1; have k2 := hx.cell j2; have l2 := hx.cell u2; have k3 := hx.cell j3; have l3 := hx.cell u3; have k4 := hx.cell j4; have l4 := hx.cell u4; clear hx; go_simp; try rfl)
        simp only [Act.put, List.setIfInBounds_toArray, List.set_cons_zero, List.set_cons_succ]
        refine hl_take_np 9 (by kernel_rfl) (by kernel_rfl) rfl (by kernel_rfl) hsD (v := ?_) ?_ ?_
        rotate_left
        · (rintro x hx; have k0 := hx.cell j0; have l0 := hx.cell u0; have k1 := hx.cell j1; have l1 := hx.cell u1; have k2 := hx.cell j2; have l2 := hx.cell u2; have k3 := hx.cell j3; have l3 := hx.cell u3; have k4 := hx.cell j4; have l4 := hx.cell u4; clear hx; go_simp; try rfl)
        simp only [Act.put, List.setIfInBounds_toArray, List.set_cons_zero, List.set_cons_succ]
        refine hl_take_np 10 (by kernel_rfl) (by kernel_rfl) rfl (by kernel_rfl) hsD (v := ?_) ?_ ?_
        rotate_left
        · (rintro x hx; have k0 := hx.cell j0; have l0 := hx.cell u0; have k1 := hx.cell j1; have l1 := hx.cell u1; have k2 := hx.cell j2; have l2 := hx.cell u2; have k3 := hx.cell j3; have l3 := hx.cell u3; have k4 := hx.cell j4; have l4 := hx.cell u4; clear hx; go_simp; try rfl)
        simp only [Act.put, List.setIfInBounds_toArray, List.set_cons_zero, List.set_cons_succ]
        refine hl_stepW 11 (by kernel_rfl) rfl (by kernel_rfl) ?_
        intro K hK
        go_simp
        refine (HCM2.out WD).mono ?_
        rintro e W2 ⟨rfl, hga⟩
        have hs2 : G wr W2 := hsD.trans hga
        refine hK _ _ (fun _ => hs2) ?_
        clear hK K hga j0 j1 j2 j3 j4 u0 u1 u2 u3 u4 HXV HYV HX HY HCM2
        simp only [Act.put, List.setIfInBounds_toArray, List.set_cons_zero, List.set_cons_succ]
        by_cases hr0 : r < 0
        · have hrd : decide (r < 0) = true := by simpa using hr0
          refine hl_take_np 12 (by kernel_rfl) (by kernel_rfl) rfl (by kernel_rfl) hs2 (v := ?_) ?_ ?_
          rotate_left
          · (rintro x hx; clear hx; go_simp; try rfl)
          simp only [Act.put, List.setIfInBounds_toArray, List.set_cons_zero, List.set_cons_succ]
          refine hl_take_np 13 (by kernel_rfl) (by kernel_rfl) rfl (by kernel_rfl) hs2 (v := ?_) ?_ ?_
          rotate_left
          · (rintro x hx; clear hx; go_simp; try rfl)
          simp only [Act.put, List.setIfInBounds_toArray, List.set_cons_zero, List.set_cons_succ]
          refine hl_done (by kernel_rfl) ?_ _
          refine NoPanic.normal (HQ0.out _ _ ?_)
          clear HQ0
          have HL2 := Lib.hid (show (∀ c, lo ≤ c → c < st → ¬ eLt (eat L (mid + m - 1 - c)) (eat L c)) ∧ (∀ c, cc ≤ c → c < mid → eLt (eat L (mid + m - 1 - c)) (eat L c)) ∧ In W2 g n c L from ⟨HL.out.1, fun q h1 h2 => cut_dn H1.out H2.out (h := cc) (by omega) h1 (by omega) (by omega) (by omega) (by rw [← HD.out]; unfold eLt; rw [← HR.out]; exact hr0), HL.out.2.2.g hs2⟩)
          have hf2 := hf.trans (hs2.fr (fun q => q = g)) (fun _ _ h => h)
          clear hsD hs2 hf hrd
          go_wp2_with fail
          go_roundw
          case rel => exact ⟨st, cc, rfl, rfl, by omega, by omega, by omega, HL2, hf2⟩
          case measure => simp [intOf]; omega
        · have hrd : decide (r < 0) = false := by simpa using hr0
          refine hl_take_np 12 (by kernel_rfl) (by kernel_rfl) rfl (by kernel_rfl) hs2 (v := ?_) ?_ ?_
          rotate_left
          · (rintro x hx; clear hx; go_simp; try rfl)
          simp only [Act.put, List.setIfInBounds_toArray, List.set_cons_zero, List.set_cons_succ]
          refine hl_take_np 13 (by kernel_rfl) (by kernel_rfl) rfl (by kernel_rfl) hs2 (v := ?_) ?_ ?_
          rotate_left
          · (rintro x hx; clear hx; go_simp; try rfl)
          simp only [Act.put, List.setIfInBounds_toArray, List.set_cons_zero, List.set_cons_succ]
          refine hl_done (by kernel_rfl) ?_ _
          refine NoPanic.normal (HQ0.out _ _ ?_)
          clear HQ0
          have HL2 := Lib.hid (show (∀ c, lo ≤ c → c < cc + 1 → ¬ eLt (eat L (mid + m - 1 - c)) (eat L c)) ∧ (∀ c, r' ≤ c → c < mid → eLt (eat L (mid + m - 1 - c)) (eat L c)) ∧ In W2 g n c L from ⟨fun q h1 h2 => cut_up H1.out H2.out (h := cc) (by omega) (by omega) (by omega) (by omega) (by omega) (by rw [← HD.out]; intro h3; exact hr0 (by rw [HR.out]; exact h3)), HL.out.2.1, HL.out.2.2.g hs2⟩)
          have hf2 := hf.trans (hs2.fr (fun q => q = g)) (fun _ _ h => h)
          clear hsD hs2 hf hrd
          go_wp2_with fail
          go_roundw
          case rel => exact ⟨cc + 1, r', by go_num, rfl, by omega, by omega, by omega, HL2, hf2⟩
          case measure => simp [intOf]; omega
      · obtain rfl : st = r' := by omega
        obtain ⟨ee, hee⟩ : ∃ e, e = s - st := ⟨_, rfl⟩
        have heI : (s : Int) - (st : Int) = (ee : Int) := by omega
        have hsm : st ≤ m := by omega
        have hme : m ≤ ee := by omega
        have heb : ee ≤ b := by omega
        have has : a ≤ st := by omega
        have HCUT := Lib.hid (cut_of H1.out H2.out ham hmb (by rw [HI0.out.len]; exact hbn) HMID.out hlo hhi (show ee = mid + m - st by omega) (by omega) HL.out.1 HL.out.2.1)
        obtain ⟨M, hM⟩ : ∃ M, M = rot st m ee L := ⟨_, rfl⟩
        rw [← hM] at HCUT
        have HM := Lib.hid hM
        have hmidb : mid < b ∧ a < mid := by omega
        have hln := HI0.out.len
        have HLN := Lib.hid hln
        clear hee hM hln
        by_cases h1 : st < m ∧ m < ee
        · obtain ⟨h1a, h1b⟩ := h1
          have HROT := Lib.hid (rotate_any (L.take st) (seg st m L) (seg m ee L) (L.drop ee) g n c st m ee wr (by rw [← rot_split hsm hme]; exact HL.out.2.2) (by rw [List.length_take, HLN.out]; omega) (by rw [List.length_take, seg_len (by rw [HLN.out]; omega), HLN.out]; omega) (by rw [List.length_take, seg_len (by rw [HLN.out]; omega), seg_len (by rw [HLN.out]; omega), HLN.out]; omega) (by rw [seg_len (by rw [HLN.out]; omega)]; omega) (by rw [seg_len (by rw [HLN.out]; omega)]; omega) hn)
          rw [show L.take st ++ (seg m ee L ++ (seg st m L ++ L.drop ee)) = M from HM.out.symm] at HROT
          go_wp2_with fail
          refine HROT.out.mono ?_
          rintro e w6 ⟨⟨u, rfl⟩, hin6, hf6⟩
          have HIN := Lib.hid hin6
          have hf9 := hf.trans hf6 (fun _ _ h => h)
          clear hin6 hf6 HROT hf
          by_cases h3 : a < st ∧ st < mid
          · obtain ⟨h3a, h3b⟩ := h3
            have HIH1 := Lib.hid (ih a st mid M w6 (by omega) h3a h3b (by omega) HIN.out HCUT.out.s1 HCUT.out.s2)
            go_wp2_with fail
            refine HIH1.out.mono ?_
            rintro e w7 ⟨⟨u, rfl⟩, N1, hin1, hst1, hsr1, hf1⟩
            have HIN1 := Lib.hid hin1
            have HS1 := Lib.hid (And.intro hst1 hsr1)
            have hf7 := hf9.trans hf1 (fun _ _ h => h)
            clear hin1 hst1 hsr1 hf1 HIH1
            have HT1 := Lib.hid (show Srt mid ee N1 ∧ Srt ee b N1 from ⟨HCUT.out.s3.of (fun q h1 h2 => HS1.out.1.at (.inr h1)), HCUT.out.s4.of (fun q h1 h2 => HS1.out.1.at (.inr (by omega)))⟩)
            by_cases h5 : mid < ee ∧ ee < b
            · obtain ⟨h5a, h5b⟩ := h5
              have HIH := Lib.hid (ih mid ee b N1 w7 (by omega) h5a h5b hbn HIN1.out HT1.out.1 HT1.out.2)
              go_wp2_with fail
              refine HIH.out.mono ?_
              rintro e w8 ⟨⟨u, rfl⟩, N2, hin2, hst2, hsr2, hf2⟩
              have HF9 := Lib.hid (show Merged w g n c a b L (.returned (.tuple #[])) w8 from ⟨⟨_, rfl⟩, N2, hin2, (HCUT.out.stab.trans (HS1.out.1.mono (Nat.le_refl _) (by omega))).trans (hst2.mono (by omega) (Nat.le_refl _)), join_of (by omega) (by omega) (by rw [HCUT.out.stab.len, HLN.out]; exact hbn) HCUT.out.cross HS1.out.1 hst2 HS1.out.2 hsr2, hf7.trans hf2 (fun _ _ h => h)⟩)
              clear hin2 hst2 hsr2 hf2
              go_wp2_with fail
              go_returns
              exact ⟨⟨_, rfl⟩, HF9.out.2⟩
            · have HSX := Lib.hid (show Srt mid b N1 by
                by_cases h6 : mid < ee
                · have : ee = b := by omega
                  rw [← this]; exact HT1.out.1
                · exact HT1.out.2.sub (by omega) (Nat.le_refl _))
              have HF9 := Lib.hid (show ∃ L', In w7 g n c L' ∧ Stab a b L L' ∧ Srt a b L' ∧ Fr (fun q => q = g) w w7 from ⟨N1, HIN1.out, HCUT.out.stab.trans (HS1.out.1.mono (Nat.le_refl _) (by omega)), join_of (by omega) (by omega) (by rw [HCUT.out.stab.len, HLN.out]; exact hbn) HCUT.out.cross HS1.out.1 (Stab.refl _ _ _) HS1.out.2 HSX.out, hf7⟩)
              by_cases h6 : mid < ee
              · have h6I : (mid : Int) < (ee : Int) := by omega
                have h7I : ¬ (ee : Int) < (b : Int) := by omega
                have h7d : decide (ee < b) = false := by simp; omega
                clear h5
                go_wp2_with fail
                go_returns
                exact ⟨⟨_, rfl⟩, HF9.out⟩
              · have h6I : ¬ (mid : Int) < (ee : Int) := by omega
                have h6d : decide (mid < ee) = false := by simpa using h6
                clear h5
                go_wp2_with fail
                go_returns
                exact ⟨⟨_, rfl⟩, HF9.out⟩
          · have HIN1 := HIN
            have HS1 := Lib.hid (show Stab a mid M M ∧ Srt a mid M from ⟨Stab.refl _ _ _, by
              by_cases h4 : a < st
              · exact HCUT.out.s1.sub (Nat.le_refl _) (by omega)
              · have : st = a := by omega
                have h := HCUT.out.s2
                rwa [this] at h⟩)
            by_cases h4 : a < st
            · have h4I : (a : Int) < (st : Int) := by omega
              have h4J : ¬ (st : Int) < (mid : Int) := by omega
              have h4d : decide (st < mid) = false := by simp; omega
              clear h3
              have HT1 := Lib.hid (show Srt mid ee M ∧ Srt ee b M from ⟨HCUT.out.s3.of (fun q h1 h2 => HS1.out.1.at (.inr h1)), HCUT.out.s4.of (fun q h1 h2 => HS1.out.1.at (.inr (by omega)))⟩)
              by_cases h5 : mid < ee ∧ ee < b
              · obtain ⟨h5a, h5b⟩ := h5
                have HIH := Lib.hid (ih mid ee b M w6 (by omega) h5a h5b hbn HIN1.out HT1.out.1 HT1.out.2)
                go_wp2_with fail
                refine HIH.out.mono ?_
                rintro e w8 ⟨⟨u, rfl⟩, N2, hin2, hst2, hsr2, hf2⟩
                have HF9 := Lib.hid (show Merged w g n c a b L (.returned (.tuple #[])) w8 from ⟨⟨_, rfl⟩, N2, hin2, (HCUT.out.stab.trans (HS1.out.1.mono (Nat.le_refl _) (by omega))).trans (hst2.mono (by omega) (Nat.le_refl _)), join_of (by omega) (by omega) (by rw [HCUT.out.stab.len, HLN.out]; exact hbn) HCUT.out.cross HS1.out.1 hst2 HS1.out.2 hsr2, hf9.trans hf2 (fun _ _ h => h)⟩)
                clear hin2 hst2 hsr2 hf2
                go_wp2_with fail
                go_returns
                exact ⟨⟨_, rfl⟩, HF9.out.2⟩
              · have HSX := Lib.hid (show Srt mid b M by
                  by_cases h6 : mid < ee
                  · have : ee = b := by omega
                    rw [← this]; exact HT1.out.1
                  · exact HT1.out.2.sub (by omega) (Nat.le_refl _))
                have HF9 := Lib.hid (show ∃ L', In w6 g n c L' ∧ Stab a b L L' ∧ Srt a b L' ∧ Fr (fun q => q = g) w w6 from ⟨M, HIN1.out, HCUT.out.stab.trans (HS1.out.1.mono (Nat.le_refl _) (by omega)), join_of (by omega) (by omega) (by rw [HCUT.out.stab.len, HLN.out]; exact hbn) HCUT.out.cross HS1.out.1 (Stab.refl _ _ _) HS1.out.2 HSX.out, hf9⟩)
                by_cases h6 : mid < ee
                · have h6I : (mid : Int) < (ee : Int) := by omega
                  have h7I : ¬ (ee : Int) < (b : Int) := by omega
                  have h7d : decide (ee < b) = false := by simp; omega
                  clear h5
                  go_wp2_with fail
                  go_returns
                  exact ⟨⟨_, rfl⟩, HF9.out⟩
                · have h6I : ¬ (mid : Int) < (ee : Int) := by omega
                  have h6d : decide (mid < ee) = false := by simpa using h6
                  clear h5
                  go_wp2_with fail
                  go_returns
                  exact ⟨⟨_, rfl⟩, HF9.out⟩
            · have h4I : ¬ (a : Int) < (st : Int) := by omega
              have h4d : decide (a < st) = false := by simpa using h4
              clear h3
              have HT1 := Lib.hid (show Srt mid ee M ∧ Srt ee b M from ⟨HCUT.out.s3.of (fun q h1 h2 => HS1.out.1.at (.inr h1)), HCUT.out.s4.of (fun q h1 h2 => HS1.out.1.at (.inr (by omega)))⟩)
              by_cases h5 : mid < ee ∧ ee < b
              · obtain ⟨h5a, h5b⟩ := h5
                have HIH := Lib.hid (ih mid ee b M w6 (by omega) h5a h5b hbn HIN1.out HT1.out.1 HT1.out.2)
                go_wp2_with fail
                refine HIH.out.mono ?_
                rintro e w8 ⟨⟨u, rfl⟩, N2, hin2, hst2, hsr2, hf2⟩
                have HF9 := Lib.hid (show Merged w g n c a b L (.returned (.tuple #[])) w8 from ⟨⟨_, rfl⟩, N2, hin2, (HCUT.out.stab.trans (HS1.out.1.mono (Nat.le_refl _) (by omega))).trans (hst2.mono (by omega) (Nat.le_refl _)), join_of (by omega) (by omega) (by rw [HCUT.out.stab.len, HLN.out]; exact hbn) HCUT.out.cross HS1.out.1 hst2 HS1.out.2 hsr2, hf9.trans hf2 (fun _ _ h => h)⟩)
                clear hin2 hst2 hsr2 hf2
                go_wp2_with fail
                go_returns
                exact ⟨⟨_, rfl⟩, HF9.out.2⟩
              · have HSX := Lib.hid (show Srt mid b M by
                  by_cases h6 : mid < ee
                  · have : ee = b := by omega
                    rw [← this]; exact HT1.out.1
                  · exact HT1.out.2.sub (by omega) (Nat.le_refl _))
                have HF9 := Lib.hid (show ∃ L', In w6 g n c L' ∧ Stab a b L L' ∧ Srt a b L' ∧ Fr (fun q => q = g) w w6 from ⟨M, HIN1.out, HCUT.out.stab.trans (HS1.out.1.mono (Nat.le_refl _) (by omega)), join_of (by omega) (by omega) (by rw [HCUT.out.stab.len, HLN.out]; exact hbn) HCUT.out.cross HS1.out.1 (Stab.refl _ _ _) HS1.out.2 HSX.out, hf9⟩)
                by_cases h6 : mid < ee
                · have h6I : (mid : Int) < (ee : Int) := by omega
                  have h7I : ¬ (ee : Int) < (b : Int) := by omega
                  have h7d : decide (ee < b) = false := by simp; omega
                  clear h5
                  go_wp2_with fail
                  go_returns
                  exact ⟨⟨_, rfl⟩, HF9.out⟩
                · have h6I : ¬ (mid : Int) < (ee : Int) := by omega
                  have h6d : decide (mid < ee) = false := by simpa using h6
                  clear h5
                  go_wp2_with fail
                  go_returns
                  exact ⟨⟨_, rfl⟩, HF9.out⟩
        · have HIN := Lib.hid (show In wr g n c M by rw [HM.out, rot_same hsm hme (by omega)]; exact HL.out.2.2)
          by_cases h2 : st < m
          · have h2I : (st : Int) < (m : Int) := by omega
            have h2J : ¬ (m : Int) < (ee : Int) := by omega
            have h2d : decide (m < ee) = false := by simp; omega
            clear h1
            by_cases h3 : a < st ∧ st < mid
            · obtain ⟨h3a, h3b⟩ := h3
              have HIH1 := Lib.hid (ih a st mid M wr (by omega) h3a h3b (by omega) HIN.out HCUT.out.s1 HCUT.out.s2)
              go_wp2_with fail
              refine HIH1.out.mono ?_
              rintro e w7 ⟨⟨u, rfl⟩, N1, hin1, hst1, hsr1, hf1⟩
              have HIN1 := Lib.hid hin1
              have HS1 := Lib.hid (And.intro hst1 hsr1)
              have hf7 := hf.trans hf1 (fun _ _ h => h)
              clear hin1 hst1 hsr1 hf1 HIH1
              have HT1 := Lib.hid (show Srt mid ee N1 ∧ Srt ee b N1 from ⟨HCUT.out.s3.of (fun q h1 h2 => HS1.out.1.at (.inr h1)), HCUT.out.s4.of (fun q h1 h2 => HS1.out.1.at (.inr (by omega)))⟩)
              by_cases h5 : mid < ee ∧ ee < b
              · obtain ⟨h5a, h5b⟩ := h5
                have HIH := Lib.hid (ih mid ee b N1 w7 (by omega) h5a h5b hbn HIN1.out HT1.out.1 HT1.out.2)
                go_wp2_with fail
                refine HIH.out.mono ?_
                rintro e w8 ⟨⟨u, rfl⟩, N2, hin2, hst2, hsr2, hf2⟩
                have HF9 := Lib.hid (show Merged w g n c a b L (.returned (.tuple #[])) w8 from ⟨⟨_, rfl⟩, N2, hin2, (HCUT.out.stab.trans (HS1.out.1.mono (Nat.le_refl _) (by omega))).trans (hst2.mono (by omega) (Nat.le_refl _)), join_of (by omega) (by omega) (by rw [HCUT.out.stab.len, HLN.out]; exact hbn) HCUT.out.cross HS1.out.1 hst2 HS1.out.2 hsr2, hf7.trans hf2 (fun _ _ h => h)⟩)
                clear hin2 hst2 hsr2 hf2
                go_wp2_with fail
                go_returns
                exact ⟨⟨_, rfl⟩, HF9.out.2⟩
              · have HSX := Lib.hid (show Srt mid b N1 by
                  by_cases h6 : mid < ee
                  · have : ee = b := by omega
                    rw [← this]; exact HT1.out.1
                  · exact HT1.out.2.sub (by omega) (Nat.le_refl _))
                have HF9 := Lib.hid (show ∃ L', In w7 g n c L' ∧ Stab a b L L' ∧ Srt a b L' ∧ Fr (fun q => q = g) w w7 from ⟨N1, HIN1.out, HCUT.out.stab.trans (HS1.out.1.mono (Nat.le_refl _) (by omega)), join_of (by omega) (by omega) (by rw [HCUT.out.stab.len, HLN.out]; exact hbn) HCUT.out.cross HS1.out.1 (Stab.refl _ _ _) HS1.out.2 HSX.out, hf7⟩)
                by_cases h6 : mid < ee
                · have h6I : (mid : Int) < (ee : Int) := by omega
                  have h7I : ¬ (ee : Int) < (b : Int) := by omega
                  have h7d : decide (ee < b) = false := by simp; omega
                  clear h5
                  go_wp2_with fail
                  go_returns
                  exact ⟨⟨_, rfl⟩, HF9.out⟩
                · have h6I : ¬ (mid : Int) < (ee : Int) := by omega
                  have h6d : decide (mid < ee) = false := by simpa using h6
                  clear h5
                  go_wp2_with fail
                  go_returns
                  exact ⟨⟨_, rfl⟩, HF9.out⟩
            · have HIN1 := HIN
              have HS1 := Lib.hid (show Stab a mid M M ∧ Srt a mid M from ⟨Stab.refl _ _ _, by
                by_cases h4 : a < st
                · exact HCUT.out.s1.sub (Nat.le_refl _) (by omega)
                · have : st = a := by omega
                  have h := HCUT.out.s2
                  rwa [this] at h⟩)
              by_cases h4 : a < st
              · have h4I : (a : Int) < (st : Int) := by omega
                have h4J : ¬ (st : Int) < (mid : Int) := by omega
                have h4d : decide (st < mid) = false := by simp; omega
                clear h3
                have HT1 := Lib.hid (show Srt mid ee M ∧ Srt ee b M from ⟨HCUT.out.s3.of (fun q h1 h2 => HS1.out.1.at (.inr h1)), HCUT.out.s4.of (fun q h1 h2 => HS1.out.1.at (.inr (by omega)))⟩)
                by_cases h5 : mid < ee ∧ ee < b
                · obtain ⟨h5a, h5b⟩ := h5
                  have HIH := Lib.hid (ih mid ee b M wr (by omega) h5a h5b hbn HIN1.out HT1.out.1 HT1.out.2)
                  go_wp2_with fail
                  refine HIH.out.mono ?_
                  rintro e w8 ⟨⟨u, rfl⟩, N2, hin2, hst2, hsr2, hf2⟩
                  have HF9 := Lib.hid (show Merged w g n c a b L (.returned (.tuple #[])) w8 from ⟨⟨_, rfl⟩, N2, hin2, (HCUT.out.stab.trans (HS1.out.1.mono (Nat.le_refl _) (by omega))).trans (hst2.mono (by omega) (Nat.le_refl _)), join_of (by omega) (by omega) (by rw [HCUT.out.stab.len, HLN.out]; exact hbn) HCUT.out.cross HS1.out.1 hst2 HS1.out.2 hsr2, hf.trans hf2 (fun _ _ h => h)⟩)
                  clear hin2 hst2 hsr2 hf2
                  go_wp2_with fail
                  go_returns
                  exact ⟨⟨_, rfl⟩, HF9.out.2⟩
                · have HSX := Lib.hid (show Srt mid b M by
                    by_cases h6 : mid < ee
                    · have : ee = b := by omega
                      rw [← this]; exact HT1.out.1
                    · exact HT1.out.2.sub (by omega) (Nat.le_refl _))
                  have HF9 := Lib.hid (show ∃ L', In wr g n c L' ∧ Stab a b L L' ∧ Srt a b L' ∧ Fr (fun q => q = g) w wr from ⟨M, HIN1.out, HCUT.out.stab.trans (HS1.out.1.mono (Nat.le_refl _) (by omega)), join_of (by omega) (by omega) (by rw [HCUT.out.stab.len, HLN.out]; exact hbn) HCUT.out.cross HS1.out.1 (Stab.refl _ _ _) HS1.out.2 HSX.out, hf⟩)
                  by_cases h6 : mid < ee
                  · have h6I : (mid : Int) < (ee : Int) := by omega
                    have h7I : ¬ (ee : Int) < (b : Int) := by omega
                    have h7d : decide (ee < b) = false := by simp; omega
                    clear h5
                    go_wp2_with fail
                    go_returns
                    exact ⟨⟨_, rfl⟩, HF9.out⟩
                  · have h6I : ¬ (mid : Int) < (ee : Int) := by omega
                    have h6d : decide (mid < ee) = false := by simpa using h6
                    clear h5
                    go_wp2_with fail
                    go_returns
                    exact ⟨⟨_, rfl⟩, HF9.out⟩
              · have h4I : ¬ (a : Int) < (st : Int) := by omega
                have h4d : decide (a < st) = false := by simpa using h4
                clear h3
                have HT1 := Lib.hid (show Srt mid ee M ∧ Srt ee b M from ⟨HCUT.out.s3.of (fun q h1 h2 => HS1.out.1.at (.inr h1)), HCUT.out.s4.of (fun q h1 h2 => HS1.out.1.at (.inr (by omega)))⟩)
                by_cases h5 : mid < ee ∧ ee < b
                · obtain ⟨h5a, h5b⟩ := h5
                  have HIH := Lib.hid (ih mid ee b M wr (by omega) h5a h5b hbn HIN1.out HT1.out.1 HT1.out.2)
                  go_wp2_with fail
                  refine HIH.out.mono ?_
                  rintro e w8 ⟨⟨u, rfl⟩, N2, hin2, hst2, hsr2, hf2⟩
                  have HF9 := Lib.hid (show Merged w g n c a b L (.returned (.tuple #[])) w8 from ⟨⟨_, rfl⟩, N2, hin2, (HCUT.out.stab.trans (HS1.out.1.mono (Nat.le_refl _) (by omega))).trans (hst2.mono (by omega) (Nat.le_refl _)), join_of (by omega) (by omega) (by rw [HCUT.out.stab.len, HLN.out]; exact hbn) HCUT.out.cross HS1.out.1 hst2 HS1.out.2 hsr2, hf.trans hf2 (fun _ _ h => h)⟩)
                  clear hin2 hst2 hsr2 hf2
                  go_wp2_with fail
                  go_returns
                  exact ⟨⟨_, rfl⟩, HF9.out.2⟩
                · have HSX := Lib.hid (show Srt mid b M by
                    by_cases h6 : mid < ee
                    · have : ee = b := by omega
                      rw [← this]; exact HT1.out.1
                    · exact HT1.out.2.sub (by omega) (Nat.le_refl _))
                  have HF9 := Lib.hid (show ∃ L', In wr g n c L' ∧ Stab a b L L' ∧ Srt a b L' ∧ Fr (fun q => q = g) w wr from ⟨M, HIN1.out, HCUT.out.stab.trans (HS1.out.1.mono (Nat.le_refl _) (by omega)), join_of (by omega) (by omega) (by rw [HCUT.out.stab.len, HLN.out]; exact hbn) HCUT.out.cross HS1.out.1 (Stab.refl _ _ _) HS1.out.2 HSX.out, hf⟩)
                  by_cases h6 : mid < ee
                  · have h6I : (mid : Int) < (ee : Int) := by omega
                    have h7I : ¬ (ee : Int) < (b : Int) := by omega
                    have h7d : decide (ee < b) = false := by simp; omega
                    clear h5
                    go_wp2_with fail
                    go_returns
                    exact ⟨⟨_, rfl⟩, HF9.out⟩
                  · have h6I : ¬ (mid : Int) < (ee : Int) := by omega
                    have h6d : decide (mid < ee) = false := by simpa using h6
                    clear h5
                    go_wp2_with fail
                    go_returns
                    exact ⟨⟨_, rfl⟩, HF9.out⟩
          · have h2I : ¬ (st : Int) < (m : Int) := by omega
            have h2d : decide (st < m) = false := by simpa using h2
            clear h1
            by_cases h3 : a < st ∧ st < mid
            · obtain ⟨h3a, h3b⟩ := h3
              have HIH1 := Lib.hid (ih a st mid M wr (by omega) h3a h3b (by omega) HIN.out HCUT.out.s1 HCUT.out.s2)
              go_wp2_with fail
              refine HIH1.out.mono ?_
              rintro e w7 ⟨⟨u, rfl⟩, N1, hin1, hst1, hsr1, hf1⟩
              have HIN1 := Lib.hid hin1
              have HS1 := Lib.hid (And.intro hst1 hsr1)
              have hf7 := hf.trans hf1 (fun _ _ h => h)
              clear hin1 hst1 hsr1 hf1 HIH1
              have HT1 := Lib.hid (show Srt mid ee N1 ∧ Srt ee b N1 from ⟨HCUT.out.s3.of (fun q h1 h2 => HS1.out.1.at (.inr h1)), HCUT.out.s4.of (fun q h1 h2 => HS1.out.1.at (.inr (by omega)))⟩)
              by_cases h5 : mid < ee ∧ ee < b
              · obtain ⟨h5a, h5b⟩ := h5
                have HIH := Lib.hid (ih mid ee b N1 w7 (by omega) h5a h5b hbn HIN1.out HT1.out.1 HT1.out.2)
                go_wp2_with fail
                refine HIH.out.mono ?_
                rintro e w8 ⟨⟨u, rfl⟩, N2, hin2, hst2, hsr2, hf2⟩
                have HF9 := Lib.hid (show Merged w g n c a b L (.returned (.tuple #[])) w8 from ⟨⟨_, rfl⟩, N2, hin2, (HCUT.out.stab.trans (HS1.out.1.mono (Nat.le_refl _) (by omega))).trans (hst2.mono (by omega) (Nat.le_refl _)), join_of (by omega) (by omega) (by rw [HCUT.out.stab.len, HLN.out]; exact hbn) HCUT.out.cross HS1.out.1 hst2 HS1.out.2 hsr2, hf7.trans hf2 (fun _ _ h => h)⟩)
                clear hin2 hst2 hsr2 hf2
                go_wp2_with fail
                go_returns
                exact ⟨⟨_, rfl⟩, HF9.out.2⟩
              · have HSX := Lib.hid (show Srt mid b N1 by
                  by_cases h6 : mid < ee
                  · have : ee = b := by omega
                    rw [← this]; exact HT1.out.1
                  · exact HT1.out.2.sub (by omega) (Nat.le_refl _))
                have HF9 := Lib.hid (show ∃ L', In w7 g n c L' ∧ Stab a b L L' ∧ Srt a b L' ∧ Fr (fun q => q = g) w w7 from ⟨N1, HIN1.out, HCUT.out.stab.trans (HS1.out.1.mono (Nat.le_refl _) (by omega)), join_of (by omega) (by omega) (by rw [HCUT.out.stab.len, HLN.out]; exact hbn) HCUT.out.cross HS1.out.1 (Stab.refl _ _ _) HS1.out.2 HSX.out, hf7⟩)
                by_cases h6 : mid < ee
                · have h6I : (mid : Int) < (ee : Int) := by omega
                  have h7I : ¬ (ee : Int) < (b : Int) := by omega
                  have h7d : decide (ee < b) = false := by simp; omega
                  clear h5
                  go_wp2_with fail
                  go_returns
                  exact ⟨⟨_, rfl⟩, HF9.out⟩
                · have h6I : ¬ (mid : Int) < (ee : Int) := by omega
                  have h6d : decide (mid < ee) = false := by simpa using h6
                  clear h5
                  go_wp2_with fail
                  go_returns
                  exact ⟨⟨_, rfl⟩, HF9.out⟩
            · have HIN1 := HIN
              have HS1 := Lib.hid (show Stab a mid M M ∧ Srt a mid M from ⟨Stab.refl _ _ _, by
                by_cases h4 : a < st
                · exact HCUT.out.s1.sub (Nat.le_refl _) (by omega)
                · have : st = a := by omega
                  have h := HCUT.out.s2
                  rwa [this] at h⟩)
              by_cases h4 : a < st
              · have h4I : (a : Int) < (st : Int) := by omega
                have h4J : ¬ (st : Int) < (mid : Int) := by omega
                have h4d : decide (st < mid) = false := by simp; omega
                clear h3
                have HT1 := Lib.hid (show Srt mid ee M ∧ Srt ee b M from ⟨HCUT.out.s3.of (fun q h1 h2 => HS1.out.1.at (.inr h1)), HCUT.out.s4.of (fun q h1 h2 => HS1.out.1.at (.inr (by omega)))⟩)
                by_cases h5 : mid < ee ∧ ee < b
                · obtain ⟨h5a, h5b⟩ := h5
                  have HIH := Lib.hid (ih mid ee b M wr (by omega) h5a h5b hbn HIN1.out HT1.out.1 HT1.out.2)
                  go_wp2_with fail
                  refine HIH.out.mono ?_
                  rintro e w8 ⟨⟨u, rfl⟩, N2, hin2, hst2, hsr2, hf2⟩
                  have HF9 := Lib.hid (show Merged w g n c a b L (.returned (.tuple #[])) w8 from ⟨⟨_, rfl⟩, N2, hin2, (HCUT.out.stab.trans (HS1.out.1.mono (Nat.le_refl _) (by omega))).trans (hst2.mono (by omega) (Nat.le_refl _)), join_of (by omega) (by omega) (by rw [HCUT.out.stab.len, HLN.out]; exact hbn) HCUT.out.cross HS1.out.1 hst2 HS1.out.2 hsr2, hf.trans hf2 (fun _ _ h => h)⟩)
                  clear hin2 hst2 hsr2 hf2
                  go_wp2_with fail
                  go_returns
                  exact ⟨⟨_, rfl⟩, HF9.out.2⟩
                · have HSX := Lib.hid (show Srt mid b M by
                    by_cases h6 : mid < ee
                    · have : ee = b := by omega
                      rw [← this]; exact HT1.out.1
                    · exact HT1.out.2.sub (by omega) (Nat.le_refl _))
                  have HF9 := Lib.hid (show ∃ L', In wr g n c L' ∧ Stab a b L L' ∧ Srt a b L' ∧ Fr (fun q => q = g) w wr from ⟨M, HIN1.out, HCUT.out.stab.trans (HS1.out.1.mono (Nat.le_refl _) (by omega)), join_of (by omega) (by omega) (by rw [HCUT.out.stab.len, HLN.out]; exact hbn) HCUT.out.cross HS1.out.1 (Stab.refl _ _ _) HS1.out.2 HSX.out, hf⟩)
                  by_cases h6 : mid < ee
                  · have h6I : (mid : Int) < (ee : Int) := by omega
                    have h7I : ¬ (ee : Int) < (b : Int) := by omega
                    have h7d : decide (ee < b) = false := by simp; omega
                    clear h5
                    go_wp2_with fail
                    go_returns
                    exact ⟨⟨_, rfl⟩, HF9.out⟩
                  · have h6I : ¬ (mid : Int) < (ee : Int) := by omega
                    have h6d : decide (mid < ee) = false := by simpa using h6
                    clear h5
                    go_wp2_with fail
                    go_returns
                    exact ⟨⟨_, rfl⟩, HF9.out⟩
              · have h4I : ¬ (a : Int) < (st : Int) := by omega
                have h4d : decide (a < st) = false := by simpa using h4
                clear h3
                have HT1 := Lib.hid (show Srt mid ee M ∧ Srt ee b M from ⟨HCUT.out.s3.of (fun q h1 h2 => HS1.out.1.at (.inr h1)), HCUT.out.s4.of (fun q h1 h2 => HS1.out.1.at (.inr (by omega)))⟩)
                by_cases h5 : mid < ee ∧ ee < b
                · obtain ⟨h5a, h5b⟩ := h5
                  have HIH := Lib.hid (ih mid ee b M wr (by omega) h5a h5b hbn HIN1.out HT1.out.1 HT1.out.2)
                  go_wp2_with fail
                  refine HIH.out.mono ?_
                  rintro e w8 ⟨⟨u, rfl⟩, N2, hin2, hst2, hsr2, hf2⟩
                  have HF9 := Lib.hid (show Merged w g n c a b L (.returned (.tuple #[])) w8 from ⟨⟨_, rfl⟩, N2, hin2, (HCUT.out.stab.trans (HS1.out.1.mono (Nat.le_refl _) (by omega))).trans (hst2.mono (by omega) (Nat.le_refl _)), join_of (by omega) (by omega) (by rw [HCUT.out.stab.len, HLN.out]; exact hbn) HCUT.out.cross HS1.out.1 hst2 HS1.out.2 hsr2, hf.trans hf2 (fun _ _ h => h)⟩)
                  clear hin2 hst2 hsr2 hf2
                  go_wp2_with fail
                  go_returns
                  exact ⟨⟨_, rfl⟩, HF9.out.2⟩
                · have HSX := Lib.hid (show Srt mid b M by
                    by_cases h6 : mid < ee
                    · have : ee = b := by omega
                      rw [← this]; exact HT1.out.1
                    · exact HT1.out.2.sub (by omega) (Nat.le_refl _))
                  have HF9 := Lib.hid (show ∃ L', In wr g n c L' ∧ Stab a b L L' ∧ Srt a b L' ∧ Fr (fun q => q = g) w wr from ⟨M, HIN1.out, HCUT.out.stab.trans (HS1.out.1.mono (Nat.le_refl _) (by omega)), join_of (by omega) (by omega) (by rw [HCUT.out.stab.len, HLN.out]; exact hbn) HCUT.out.cross HS1.out.1 (Stab.refl _ _ _) HS1.out.2 HSX.out, hf⟩)
                  by_cases h6 : mid < ee
                  · have h6I : (mid : Int) < (ee : Int) := by omega
                    have h7I : ¬ (ee : Int) < (b : Int) := by omega
                    have h7d : decide (ee < b) = false := by simp; omega
                    clear h5
                    go_wp2_with fail
                    go_returns
                    exact ⟨⟨_, rfl⟩, HF9.out⟩
                  · have h6I : ¬ (mid : Int) < (ee : Int) := by omega
                    have h6d : decide (mid < ee) = false := by simpa using h6
                    clear h5
                    go_wp2_with fail
                    go_returns
                    exact ⟨⟨_, rfl⟩, HF9.out⟩
  · have hmmI : ¬ (mid : Int) < (m : Int) := by omega
    have hb6 : m ≤ mid := by omega
    go_enter Try.func88, Try.ntmps88
    go_wp2_with fail
    go_loopw [20, 21] (fun iv jv wr => ∃ st r : Nat, iv = .int .i64 st ∧ jv = .int .i64 r ∧ a ≤ st ∧ st ≤ r ∧ r ≤ m ∧ Hid ((∀ c, a ≤ c → c < st → ¬ eLt (eat L (mid + m - 1 - c)) (eat L c)) ∧ (∀ c, r ≤ c → c < m → eLt (eat L (mid + m - 1 - c)) (eat L c)) ∧ In wr g n c L) ∧ Fr (fun q => q = g) w wr) (fun iv jv _ => (intOf jv).toNat - (intOf iv).toNat)
    case atStart => exact ⟨a, m, rfl, rfl, by omega, by omega, by omega, Lib.hid ⟨fun q h1 h2 => by omega, fun q h1 h2 => by omega, HI0.out⟩, Fr.refl _ _⟩
    case round =>
      obtain ⟨st, r', rfl, rfl, hlo, hsr, hhi, HL, hf⟩ := hrel
      by_cases hlt : st < r'
      · have hltI : (st : Int) < (r' : Int) := by omega
        obtain ⟨cc, hcd⟩ : ∃ h, h = (st + r') / 2 := ⟨_, rfl⟩
        have hcI : ((st : Int) + (r' : Int)) / 2 = (cc : Int) := by omega
        have hc1 : st ≤ cc := by omega
        have hc2 : cc < r' := by omega
        obtain ⟨d, hdd⟩ : ∃ d, d = p - cc := ⟨_, rfl⟩
        have hdI : (p : Int) - (cc : Int) = (d : Int) := by omega
        have hdw : IntKind.i64.wrap (d : Int) = d := IntWalk.i64_in _ (by omega)
        have hcn : cc < n := by omega
        have hdn : d < n := by omega
        have HD := Lib.hid (show d = mid + m - 1 - cc by omega)
        have HR9 := Lib.hid (show a ≤ cc ∧ cc < m ∧ m ≤ d ∧ d < b ∧ cc < m ∧ a ≤ cc by omega)
        clear hcd hdd
        obtain ⟨j0, j1, j2, j3, j4⟩ := HL.out.2.2.at hdn
        obtain ⟨u0, u1, u2, u3, u4⟩ := HL.out.2.2.at hcn
        have HCMP := Lib.hid (fun X => ecmpV_any (eat L d) (eat L cc) X (HL.out.2.2.eIs hdn) (HL.out.2.2.eIs hcn))
        obtain ⟨px, nx, cx, hxv⟩ := HL.out.2.2.eIs hdn
        obtain ⟨py, ny, cy, hyv⟩ := HL.out.2.2.eIs hcn
        have HCM2 : Hid (∀ X, Calls Try.prog 24 #[.agg #[.string (eat L d).f, .string (eat L d).t, .string (eat L d).l, .int .i64 (eat L d).tm, .slice px nx cx], .agg #[.string (eat L cc).f, .string (eat L cc).t, .string (eat L cc).l, .int .i64 (eat L cc).tm, .slice py ny cy]] X fun e w' => e = .returned (.int .i64 (ecmp (eat L d) (eat L cc))) ∧ G X w') := Lib.hid (fun X => by
          obtain ⟨pa', na', ca', pb', nb', cb', h1, h2, h3⟩ := HCMP.out X
          rw [hxv] at h1; rw [hyv] at h2
          cases h1; cases h2
          exact h3)
        rw [hxv] at j4
        rw [hyv] at u4
        have HXV := Lib.hid hxv
        have HYV := Lib.hid hyv
        clear hxv hyv HCMP
        obtain ⟨r, hr⟩ : ∃ r, r = ecmp (eat L d) (eat L cc) := ⟨_, rfl⟩
        rw [← hr] at HCM2
        have HR := Lib.hid hr
        clear hr
        obtain ⟨xE, hx⟩ : ∃ x, x = eat L d := ⟨_, rfl⟩
        obtain ⟨yE, hy⟩ : ∃ y, y = eat L cc := ⟨_, rfl⟩
        rw [← hx] at j0 j1 j2 j3 HCM2 HXV
        rw [← hy] at u0 u1 u2 u3 HCM2 HYV
        have HX := Lib.hid hx
        have HY := Lib.hid hy
        clear hx hy
        obtain ⟨xf, xt, xl, xm, xv, xp⟩ := xE
        obtain ⟨yf, yt, yl, ym, yv, yp⟩ := yE
        simp only at j0 j1 j2 j3 u0 u1 u2 u3 HCM2 HXV HYV
        go_upto_region 35 with fail
        obtain ⟨WD, hWD⟩ : ∃ WD : World, WD = wr.drew := ⟨_, rfl⟩
        have hsD : G wr WD := by rw [hWD]; exact (G.refl wr).drew
        refine region_hlW (fun w' => G wr w') 99 14 (by kernel_rfl) rfl ?_
        intro Q0 HQ0
        simp only [List.replicate_succ, List.replicate_zero]
        rw [← hWD]
        clear hWD
        refine hl_take_np 0 (by kernel_rfl) (by kernel_rfl) rfl (by kernel_rfl) hsD (v := ?_) ?_ ?_
        rotate_left
        · (rintro x hx; have k0 := hx.cell j0; have l0 := hx.cell u0; have k1 := hx.cell j1; have l1 := hx.cell u1; have k2 := hx.cell j2; have l2 := hx.cell u2; have k3 := hx.cell j3; have l3 := hx.cell u3; have k4 := hx.cell j4; have l4 := hx.cell u4; clear hx; go_simp; try rfl)
        simp only [Act.put, List.setIfInBounds_toArray, List.set_cons_zero, List.set_cons_succ]
        refine hl_take_np 1 (by kernel_rfl) (by kernel_rfl) rfl (by kernel_rfl) hsD (v := ?_) ?_ ?_
        rotate_left
        · (rintro x hx; have k0 := hx.cell j0; have l0 := hx.cell u0; have k1 := hx.cell j1; have l1 := hx.cell u1; have k2 := hx.cell j2; have l2 := hx.cell u2; have k3 := hx.cell j3; have l3 := hx.cell u3; have k4 := hx.cell j4; have l4 := hx.cell u4; clear hx; go_simp; try rfl)
        simp only [Act.put, List.setIfInBounds_toArray, List.set_cons_zero, List.set_cons_succ]
        refine hl_take_np 2 (by kernel_rfl) (by kernel_rfl) rfl (by kernel_rfl) hsD (v := ?_) ?_ ?_
        rotate_left
        · (rintro x hx; have k0 := hx.cell j0; have l0 := hx.cell u0; have k1 := hx.cell j1; have l1 := hx.cell u1; have k2 := hx.cell j2; have l2 := hx.cell u2; have k3 := hx.cell j3; have l3 := hx.cell u3; have k4 := hx.cell j4; have l4 := hx.cell u4; clear hx; go_simp; try rfl)
        simp only [Act.put, List.setIfInBounds_toArray, List.set_cons_zero, List.set_cons_succ]
        refine hl_take_np 3 (by kernel_rfl) (by kernel_rfl) rfl (by kernel_rfl) hsD (v := ?_) ?_ ?_
        rotate_left
        · (rintro x hx; have k0 := hx.cell j0; have l0 := hx.cell u0; have k1 := hx.cell j1; have l1 := hx.cell u1; have k2 := hx.cell j2; have l2 := hx.cell u2; have k3 := hx.cell j3; have l3 := hx.cell u3; have k4 := hx.cell j4; have l4 := hx.cell u4; clear hx; go_simp; try rfl)
        simp only [Act.put, List.setIfInBounds_toArray, List.set_cons_zero, List.set_cons_succ]
        refine hl_take_np 4 (by kernel_rfl) (by kernel_rfl) rfl (by kernel_rfl) hsD (v := ?_) ?_ ?_
        rotate_left
        · (rintro x hx; have k0 := hx.cell j0; have l0 := hx.cell u0; have k1 := hx.cell j1; have l1 := hx.cell u1; have k2 := hx.cell j2; have l2 := hx.cell u2; have k3 := hx.cell j3; have l3 := hx.cell u3; have k4 := hx.cell j4; have l4 := hx.cell u4; clear hx; go_simp; try rfl)
        simp only [Act.put, List.setIfInBounds_toArray, List.set_cons_zero, List.set_cons_succ]
        refine hl_take_np 5 (by kernel_rfl) (by kernel_rfl) rfl (by kernel_rfl) hsD (v := ?_) ?_ ?_
        rotate_left
        · (rintro x hx; have k0 := hx.cell j0; have l0 := hx.cell u0; have k1 := hx.cell j1; have l1 := hx.cell u1; have k2 := hx.cell j2; have l2 := hx.cell u2; have k3 := hx.cell j3; have l3 := hx.cell u3; have k4 := hx.cell j4; have l4 := hx.cell u4; clear hx; go_simp; try rfl)
        simp only [Act.put, List.setIfInBounds_toArray, List.set_cons_zero, List.set_cons_succ]
        refine hl_take_np 6 (by kernel_rfl) (by kernel_rfl) rfl (by kernel_rfl) hsD (v := ?_) ?_ ?_
        rotate_left
        · (rintro x hx; have k0 := hx.cell j0; have l0 := hx.cell u0; have k1 := hx.cell j1; have l1 := hx.cell u1; have k2 := hx.cell j2; have l2 := hx.cell u2; have k3 := hx.cell j3; have l3 := hx.cell u3; have k4 := hx.cell j4; have l4 := hx.cell u4; clear hx; go_simp; try rfl)
        simp only [Act.put, List.setIfInBounds_toArray, List.set_cons_zero, List.set_cons_succ]
        refine hl_take_np 7 (by kernel_rfl) (by kernel_rfl) rfl (by kernel_rfl) hsD (v := ?_) ?_ ?_
        rotate_left
        · (rintro x hx; have k0 := hx.cell j0; have l0 := hx.cell u0; have k1 := hx.cell j1; have l1 := hx.cell u1; have k2 := hx.cell j2; have l2 := hx.cell u2; have k3 := hx.cell j3; have l3 := hx.cell u3; have k4 := hx.cell j4; have l4 := hx.cell u4; clear hx; go_simp; try rfl)
        simp only [Act.put, List.setIfInBounds_toArray, List.set_cons_zero, List.set_cons_succ]
        refine hl_take_np 8 (by kernel_rfl) (by kernel_rfl) rfl (by kernel_rfl) hsD (v := ?_) ?_ ?_
        rotate_left
        · (rintro x hx; have k0 := hx.cell j0; have l0 := hx.cell u0; have k1 := hx.cell j1; have l1 := hx.cell u1; have k2 := hx.cell j2; have l2 := hx.cell u2; have k3 := hx.cell j3; have l3 := hx.cell u3; have k4 := hx.cell j4; have l4 := hx.cell u4; clear hx; go_simp; try rfl)
        simp only [Act.put, List.setIfInBounds_toArray, List.set_cons_zero, List.set_cons_succ]
        refine hl_take_np 9 (by kernel_rfl) (by kernel_rfl) rfl (by kernel_rfl) hsD (v := ?_) ?_ ?_
        rotate_left
        · (rintro x hx; have k0 := hx.cell j0; have l0 := hx.cell u0; have k1 := hx.cell j1; have l1 := hx.cell u1; have k2 := hx.cell j2; have l2 := hx.cell u2; have k3 := hx.cell j3; have l3 := hx.cell u3; have k4 := hx.cell j4; have l4 := hx.cell u4; clear hx; go_simp; try rfl)
        simp only [Act.put, List.setIfInBounds_toArray, List.set_cons_zero, List.set_cons_succ]
        refine hl_take_np 10 (by kernel_rfl) (by kernel_rfl) rfl (by kernel_rfl) hsD (v := ?_) ?_ ?_
        rotate_left
        · (rintro x hx; have k0 := hx.cell j0; have l0 := hx.cell u0; have k1 := hx.cell j1; have l1 := hx.cell u1; have k2 := hx.cell j2; have l2 := hx.cell u2; have k3 := hx.cell j3; have l3 := hx.cell u3; have k4 := hx.cell j4; have l4 := hx.cell u4; clear hx; go_simp; try rfl)
        simp only [Act.put, List.setIfInBounds_toArray, List.set_cons_zero, List.set_cons_succ]
        refine hl_stepW 11 (by kernel_rfl) rfl (by kernel_rfl) ?_
        intro K hK
        go_simp
        refine (HCM2.out WD).mono ?_
        rintro e W2 ⟨rfl, hga⟩
        have hs2 : G wr W2 := hsD.trans hga
        refine hK _ _ (fun _ => hs2) ?_
        clear hK K hga j0 j1 j2 j3 j4 u0 u1 u2 u3 u4 HXV HYV HX HY HCM2
        simp only [Act.put, List.setIfInBounds_toArray, List.set_cons_zero, List.set_cons_succ]
        by_cases hr0 : r < 0
        · have hrd : decide (r < 0) = true := by simpa using hr0
          refine hl_take_np 12 (by kernel_rfl) (by kernel_rfl) rfl (by kernel_rfl) hs2 (v := ?_) ?_ ?_
          rotate_left
          · (rintro x hx; clear hx; go_simp; try rfl)
          simp only [Act.put, List.setIfInBounds_toArray, List.set_cons_zero, List.set_cons_succ]
          refine hl_take_np 13 (by kernel_rfl) (by kernel_rfl) rfl (by kernel_rfl) hs2 (v := ?_) ?_ ?_
          rotate_left
          · (rintro x hx; clear hx; go_simp; try rfl)
          simp only [Act.put, List.setIfInBounds_toArray, List.set_cons_zero, List.set_cons_succ]
          refine hl_done (by kernel_rfl) ?_ _
          refine NoPanic.normal (HQ0.out _ _ ?_)
          clear HQ0
          have HL2 := Lib.hid (show (∀ c, a ≤ c → c < st → ¬ eLt (eat L (mid + m - 1 - c)) (eat L c)) ∧ (∀ c, cc ≤ c → c < m → eLt (eat L (mid + m - 1 - c)) (eat L c)) ∧ In W2 g n c L from ⟨HL.out.1, fun q h1 h2 => cut_dn H1.out H2.out (h := cc) (by omega) h1 (by omega) (by omega) (by omega) (by rw [← HD.out]; unfold eLt; rw [← HR.out]; exact hr0), HL.out.2.2.g hs2⟩)
          have hf2 := hf.trans (hs2.fr (fun q => q = g)) (fun _ _ h => h)
          clear hsD hs2 hf hrd
          go_wp2_with fail
          go_roundw
          case rel => exact ⟨st, cc, rfl, rfl, by omega, by omega, by omega, HL2, hf2⟩
          case measure => simp [intOf]; omega
        · have hrd : decide (r < 0) = false := by simpa using hr0
          refine hl_take_np 12 (by kernel_rfl) (by kernel_rfl) rfl (by kernel_rfl) hs2 (v := ?_) ?_ ?_
          rotate_left
          · (rintro x hx; clear hx; go_simp; try rfl)
          simp only [Act.put, List.setIfInBounds_toArray, List.set_cons_zero, List.set_cons_succ]
          refine hl_take_np 13 (by kernel_rfl) (by kernel_rfl) rfl (by kernel_rfl) hs2 (v := ?_) ?_ ?_
          rotate_left
          · (rintro x hx; clear hx; go_simp; try rfl)
          simp only [Act.put, List.setIfInBounds_toArray, List.set_cons_zero, List.set_cons_succ]
          refine hl_done (by kernel_rfl) ?_ _
          refine NoPanic.normal (HQ0.out _ _ ?_)
          clear HQ0
          have HL2 := Lib.hid (show (∀ c, a ≤ c → c < cc + 1 → ¬ eLt (eat L (mid + m - 1 - c)) (eat L c)) ∧ (∀ c, r' ≤ c → c < m → eLt (eat L (mid + m - 1 - c)) (eat L c)) ∧ In W2 g n c L from ⟨fun q h1 h2 => cut_up H1.out H2.out (h := cc) (by omega) (by omega) (by omega) (by omega) (by omega) (by rw [← HD.out]; intro h3; exact hr0 (by rw [HR.out]; exact h3)), HL.out.2.1, HL.out.2.2.g hs2⟩)
          have hf2 := hf.trans (hs2.fr (fun q => q = g)) (fun _ _ h => h)
          clear hsD hs2 hf hrd
          go_wp2_with fail
          go_roundw
          case rel => exact ⟨cc + 1, r', by go_num, rfl, by omega, by omega, by omega, HL2, hf2⟩
          case measure => simp [intOf]; omega
      · obtain rfl : st = r' := by omega
        obtain ⟨ee, hee⟩ : ∃ e, e = s - st := ⟨_, rfl⟩
        have heI : (s : Int) - (st : Int) = (ee : Int) := by omega
        have hsm : st ≤ m := by omega
        have hme : m ≤ ee := by omega
        have heb : ee ≤ b := by omega
        have has : a ≤ st := by omega
        have HCUT := Lib.hid (cut_of H1.out H2.out ham hmb (by rw [HI0.out.len]; exact hbn) HMID.out hlo hhi (show ee = mid + m - st by omega) (by omega) HL.out.1 HL.out.2.1)
        obtain ⟨M, hM⟩ : ∃ M, M = rot st m ee L := ⟨_, rfl⟩
        rw [← hM] at HCUT
        have HM := Lib.hid hM
        have hmidb : mid < b ∧ a < mid := by omega
        have hln := HI0.out.len
        have HLN := Lib.hid hln
        clear hee hM hln
        by_cases h1 : st < m ∧ m < ee
        · obtain ⟨h1a, h1b⟩ := h1
          have HROT := Lib.hid (rotate_any (L.take st) (seg st m L) (seg m ee L) (L.drop ee) g n c st m ee wr (by rw [← rot_split hsm hme]; exact HL.out.2.2) (by rw [List.length_take, HLN.out]; omega) (by rw [List.length_take, seg_len (by rw [HLN.out]; omega), HLN.out]; omega) (by rw [List.length_take, seg_len (by rw [HLN.out]; omega), seg_len (by rw [HLN.out]; omega), HLN.out]; omega) (by rw [seg_len (by rw [HLN.out]; omega)]; omega) (by rw [seg_len (by rw [HLN.out]; omega)]; omega) hn)
          rw [show L.take st ++ (seg m ee L ++ (seg st m L ++ L.drop ee)) = M from HM.out.symm] at HROT
          go_wp2_with fail
          refine HROT.out.mono ?_
          rintro e w6 ⟨⟨u, rfl⟩, hin6, hf6⟩
          have HIN := Lib.hid hin6
          have hf9 := hf.trans hf6 (fun _ _ h => h)
          clear hin6 hf6 HROT hf
          by_cases h3 : a < st ∧ st < mid
          · obtain ⟨h3a, h3b⟩ := h3
            have HIH1 := Lib.hid (ih a st mid M w6 (by omega) h3a h3b (by omega) HIN.out HCUT.out.s1 HCUT.out.s2)
            go_wp2_with fail
            refine HIH1.out.mono ?_
            rintro e w7 ⟨⟨u, rfl⟩, N1, hin1, hst1, hsr1, hf1⟩
            have HIN1 := Lib.hid hin1
            have HS1 := Lib.hid (And.intro hst1 hsr1)
            have hf7 := hf9.trans hf1 (fun _ _ h => h)
            clear hin1 hst1 hsr1 hf1 HIH1
            have HT1 := Lib.hid (show Srt mid ee N1 ∧ Srt ee b N1 from ⟨HCUT.out.s3.of (fun q h1 h2 => HS1.out.1.at (.inr h1)), HCUT.out.s4.of (fun q h1 h2 => HS1.out.1.at (.inr (by omega)))⟩)
            by_cases h5 : mid < ee ∧ ee < b
            · obtain ⟨h5a, h5b⟩ := h5
              have HIH := Lib.hid (ih mid ee b N1 w7 (by omega) h5a h5b hbn HIN1.out HT1.out.1 HT1.out.2)
              go_wp2_with fail
              refine HIH.out.mono ?_
              rintro e w8 ⟨⟨u, rfl⟩, N2, hin2, hst2, hsr2, hf2⟩
              have HF9 := Lib.hid (show Merged w g n c a b L (.returned (.tuple #[])) w8 from ⟨⟨_, rfl⟩, N2, hin2, (HCUT.out.stab.trans (HS1.out.1.mono (Nat.le_refl _) (by omega))).trans (hst2.mono (by omega) (Nat.le_refl _)), join_of (by omega) (by omega) (by rw [HCUT.out.stab.len, HLN.out]; exact hbn) HCUT.out.cross HS1.out.1 hst2 HS1.out.2 hsr2, hf7.trans hf2 (fun _ _ h => h)⟩)
              clear hin2 hst2 hsr2 hf2
              go_wp2_with fail
              go_returns
              exact ⟨⟨_, rfl⟩, HF9.out.2⟩
            · have HSX := Lib.hid (show Srt mid b N1 by
                by_cases h6 : mid < ee
                · have : ee = b := by omega
                  rw [← this]; exact HT1.out.1
                · exact HT1.out.2.sub (by omega) (Nat.le_refl _))
              have HF9 := Lib.hid (show ∃ L', In w7 g n c L' ∧ Stab a b L L' ∧ Srt a b L' ∧ Fr (fun q => q = g) w w7 from ⟨N1, HIN1.out, HCUT.out.stab.trans (HS1.out.1.mono (Nat.le_refl _) (by omega)), join_of (by omega) (by omega) (by rw [HCUT.out.stab.len, HLN.out]; exact hbn) HCUT.out.cross HS1.out.1 (Stab.refl _ _ _) HS1.out.2 HSX.out, hf7⟩)
              by_cases h6 : mid < ee
              · have h6I : (mid : Int) < (ee : Int) := by omega
                have h7I : ¬ (ee : Int) < (b : Int) := by omega
                have h7d : decide (ee < b) = false := by simp; omega
                clear h5
                go_wp2_with fail
                go_returns
                exact ⟨⟨_, rfl⟩, HF9.out⟩
              · have h6I : ¬ (mid : Int) < (ee : Int) := by omega
                have h6d : decide (mid < ee) = false := by simpa using h6
                clear h5
                go_wp2_with fail
                go_returns
                exact ⟨⟨_, rfl⟩, HF9.out⟩
          · have HIN1 := HIN
            have HS1 := Lib.hid (show Stab a mid M M ∧ Srt a mid M from ⟨Stab.refl _ _ _, by
              by_cases h4 : a < st
              · exact HCUT.out.s1.sub (Nat.le_refl _) (by omega)
              · have : st = a := by omega
                have h := HCUT.out.s2
                rwa [this] at h⟩)
            by_cases h4 : a < st
            · have h4I : (a : Int) < (st : Int) := by omega
              have h4J : ¬ (st : Int) < (mid : Int) := by omega
              have h4d : decide (st < mid) = false := by simp; omega
              clear h3
              have HT1 := Lib.hid (show Srt mid ee M ∧ Srt ee b M from ⟨HCUT.out.s3.of (fun q h1 h2 => HS1.out.1.at (.inr h1)), HCUT.out.s4.of (fun q h1 h2 => HS1.out.1.at (.inr (by omega)))⟩)
              by_cases h5 : mid < ee ∧ ee < b
              · obtain ⟨h5a, h5b⟩ := h5
                have HIH := Lib.hid (ih mid ee b M w6 (by omega) h5a h5b hbn HIN1.out HT1.out.1 HT1.out.2)
                go_wp2_with fail
                refine HIH.out.mono ?_
                rintro e w8 ⟨⟨u, rfl⟩, N2, hin2, hst2, hsr2, hf2⟩
                have HF9 := Lib.hid (show Merged w g n c a b L (.returned (.tuple #[])) w8 from ⟨⟨_, rfl⟩, N2, hin2, (HCUT.out.stab.trans (HS1.out.1.mono (Nat.le_refl _) (by omega))).trans (hst2.mono (by omega) (Nat.le_refl _)), join_of (by omega) (by omega) (by rw [HCUT.out.stab.len, HLN.out]; exact hbn) HCUT.out.cross HS1.out.1 hst2 HS1.out.2 hsr2, hf9.trans hf2 (fun _ _ h => h)⟩)
                clear hin2 hst2 hsr2 hf2
                go_wp2_with fail
                go_returns
                exact ⟨⟨_, rfl⟩, HF9.out.2⟩
              · have HSX := Lib.hid (show Srt mid b M by
                  by_cases h6 : mid < ee
                  · have : ee = b := by omega
                    rw [← this]; exact HT1.out.1
                  · exact HT1.out.2.sub (by omega) (Nat.le_refl _))
                have HF9 := Lib.hid (show ∃ L', In w6 g n c L' ∧ Stab a b L L' ∧ Srt a b L' ∧ Fr (fun q => q = g) w w6 from ⟨M, HIN1.out, HCUT.out.stab.trans (HS1.out.1.mono (Nat.le_refl _) (by omega)), join_of (by omega) (by omega) (by rw [HCUT.out.stab.len, HLN.out]; exact hbn) HCUT.out.cross HS1.out.1 (Stab.refl _ _ _) HS1.out.2 HSX.out, hf9⟩)
                by_cases h6 : mid < ee
                · have h6I : (mid : Int) < (ee : Int) := by omega
                  have h7I : ¬ (ee : Int) < (b : Int) := by omega
                  have h7d : decide (ee < b) = false := by simp; omega
                  clear h5
                  go_wp2_with fail
                  go_returns
                  exact ⟨⟨_, rfl⟩, HF9.out⟩
                · have h6I : ¬ (mid : Int) < (ee : Int) := by omega
                  have h6d : decide (mid < ee) = false := by simpa using h6
                  clear h5
                  go_wp2_with fail
                  go_returns
                  exact ⟨⟨_, rfl⟩, HF9.out⟩
            · have h4I : ¬ (a : Int) < (st : Int) := by omega
              have h4d : decide (a < st) = false := by simpa using h4
              clear h3
              have HT1 := Lib.hid (show Srt mid ee M ∧ Srt ee b M from ⟨HCUT.out.s3.of (fun q h1 h2 => HS1.out.1.at (.inr h1)), HCUT.out.s4.of (fun q h1 h2 => HS1.out.1.at (.inr (by omega)))⟩)
              by_cases h5 : mid < ee ∧ ee < b
              · obtain ⟨h5a, h5b⟩ := h5
                have HIH := Lib.hid (ih mid ee b M w6 (by omega) h5a h5b hbn HIN1.out HT1.out.1 HT1.out.2)
                go_wp2_with fail
                refine HIH.out.mono ?_
                rintro e w8 ⟨⟨u, rfl⟩, N2, hin2, hst2, hsr2, hf2⟩
                have HF9 := Lib.hid (show Merged w g n c a b L (.returned (.tuple #[])) w8 from ⟨⟨_, rfl⟩, N2, hin2, (HCUT.out.stab.trans (HS1.out.1.mono (Nat.le_refl _) (by omega))).trans (hst2.mono (by omega) (Nat.le_refl _)), join_of (by omega) (by omega) (by rw [HCUT.out.stab.len, HLN.out]; exact hbn) HCUT.out.cross HS1.out.1 hst2 HS1.out.2 hsr2, hf9.trans hf2 (fun _ _ h => h)⟩)
                clear hin2 hst2 hsr2 hf2
                go_wp2_with fail
                go_returns
                exact ⟨⟨_, rfl⟩, HF9.out.2⟩
              · have HSX := Lib.hid (show Srt mid b M by
                  by_cases h6 : mid < ee
                  · have : ee = b := by omega
                    rw [← this]; exact HT1.out.1
                  · exact HT1.out.2.sub (by omega) (Nat.le_refl _))
                have HF9 := Lib.hid (show ∃ L', In w6 g n c L' ∧ Stab a b L L' ∧ Srt a b L' ∧ Fr (fun q => q = g) w w6 from ⟨M, HIN1.out, HCUT.out.stab.trans (HS1.out.1.mono (Nat.le_refl _) (by omega)), join_of (by omega) (by omega) (by rw [HCUT.out.stab.len, HLN.out]; exact hbn) HCUT.out.cross HS1.out.1 (Stab.refl _ _ _) HS1.out.2 HSX.out, hf9⟩)
                by_cases h6 : mid < ee
                · have h6I : (mid : Int) < (ee : Int) := by omega
                  have h7I : ¬ (ee : Int) < (b : Int) := by omega
                  have h7d : decide (ee < b) = false := by simp; omega
                  clear h5
                  go_wp2_with fail
                  go_returns
                  exact ⟨⟨_, rfl⟩, HF9.out⟩
                · have h6I : ¬ (mid : Int) < (ee : Int) := by omega
                  have h6d : decide (mid < ee) = false := by simpa using h6
                  clear h5
                  go_wp2_with fail
                  go_returns
                  exact ⟨⟨_, rfl⟩, HF9.out⟩
        · have HIN := Lib.hid (show In wr g n c M by rw [HM.out, rot_same hsm hme (by omega)]; exact HL.out.2.2)
          by_cases h2 : st < m
          · have h2I : (st : Int) < (m : Int) := by omega
            have h2J : ¬ (m : Int) < (ee : Int) := by omega
            have h2d : decide (m < ee) = false := by simp; omega
            clear h1
            by_cases h3 : a < st ∧ st < mid
            · obtain ⟨h3a, h3b⟩ := h3
              have HIH1 := Lib.hid (ih a st mid M wr (by omega) h3a h3b (by omega) HIN.out HCUT.out.s1 HCUT.out.s2)
              go_wp2_with fail
              refine HIH1.out.mono ?_
              rintro e w7 ⟨⟨u, rfl⟩, N1, hin1, hst1, hsr1, hf1⟩
              have HIN1 := Lib.hid hin1
              have HS1 := Lib.hid (And.intro hst1 hsr1)
              have hf7 := hf.trans hf1 (fun _ _ h => h)
              clear hin1 hst1 hsr1 hf1 HIH1
              have HT1 := Lib.hid (show Srt mid ee N1 ∧ Srt ee b N1 from ⟨HCUT.out.s3.of (fun q h1 h2 => HS1.out.1.at (.inr h1)), HCUT.out.s4.of (fun q h1 h2 => HS1.out.1.at (.inr (by omega)))⟩)
              by_cases h5 : mid < ee ∧ ee < b
              · obtain ⟨h5a, h5b⟩ := h5
                have HIH := Lib.hid (ih mid ee b N1 w7 (by omega) h5a h5b hbn HIN1.out HT1.out.1 HT1.out.2)
                go_wp2_with fail
                refine HIH.out.mono ?_
                rintro e w8 ⟨⟨u, rfl⟩, N2, hin2, hst2, hsr2, hf2⟩
                have HF9 := Lib.hid (show Merged w g n c a b L (.returned (.tuple #[])) w8 from ⟨⟨_, rfl⟩, N2, hin2, (HCUT.out.stab.trans (HS1.out.1.mono (Nat.le_refl _) (by omega))).trans (hst2.mono (by omega) (Nat.le_refl _)), join_of (by omega) (by omega) (by rw [HCUT.out.stab.len, HLN.out]; exact hbn) HCUT.out.cross HS1.out.1 hst2 HS1.out.2 hsr2, hf7.trans hf2 (fun _ _ h => h)⟩)
                clear hin2 hst2 hsr2 hf2
                go_wp2_with fail
                go_returns
                exact ⟨⟨_, rfl⟩, HF9.out.2⟩
              · have HSX := Lib.hid (show Srt mid b N1 by
                  by_cases h6 : mid < ee
                  · have : ee = b := by omega
                    rw [← this]; exact HT1.out.1
                  · exact HT1.out.2.sub (by omega) (Nat.le_refl _))
                have HF9 := Lib.hid (show ∃ L', In w7 g n c L' ∧ Stab a b L L' ∧ Srt a b L' ∧ Fr (fun q => q = g) w w7 from ⟨N1, HIN1.out, HCUT.out.stab.trans (HS1.out.1.mono (Nat.le_refl _) (by omega)), join_of (by omega) (by omega) (by rw [HCUT.out.stab.len, HLN.out]; exact hbn) HCUT.out.cross HS1.out.1 (Stab.refl _ _ _) HS1.out.2 HSX.out, hf7⟩)
                by_cases h6 : mid < ee
                · have h6I : (mid : Int) < (ee : Int) := by omega
                  have h7I : ¬ (ee : Int) < (b : Int) := by omega
                  have h7d : decide (ee < b) = false := by simp; omega
                  clear h5
                  go_wp2_with fail
                  go_returns
                  exact ⟨⟨_, rfl⟩, HF9.out⟩
                · have h6I : ¬ (mid : Int) < (ee : Int) := by omega
                  have h6d : decide (mid < ee) = false := by simpa using h6
                  clear h5
                  go_wp2_with fail
                  go_returns
                  exact ⟨⟨_, rfl⟩, HF9.out⟩
            · have HIN1 := HIN
              have HS1 := Lib.hid (show Stab a mid M M ∧ Srt a mid M from ⟨Stab.refl _ _ _, by
                by_cases h4 : a < st
                · exact HCUT.out.s1.sub (Nat.le_refl _) (by omega)
                · have : st = a := by omega
                  have h := HCUT.out.s2
                  rwa [this] at h⟩)
              by_cases h4 : a < st
              · have h4I : (a : Int) < (st : Int) := by omega
                have h4J : ¬ (st : Int) < (mid : Int) := by omega
                have h4d : decide (st < mid) = false := by simp; omega
                clear h3
                have HT1 := Lib.hid (show Srt mid ee M ∧ Srt ee b M from ⟨HCUT.out.s3.of (fun q h1 h2 => HS1.out.1.at (.inr h1)), HCUT.out.s4.of (fun q h1 h2 => HS1.out.1.at (.inr (by omega)))⟩)
                by_cases h5 : mid < ee ∧ ee < b
                · obtain ⟨h5a, h5b⟩ := h5
                  have HIH := Lib.hid (ih mid ee b M wr (by omega) h5a h5b hbn HIN1.out HT1.out.1 HT1.out.2)
                  go_wp2_with fail
                  refine HIH.out.mono ?_
                  rintro e w8 ⟨⟨u, rfl⟩, N2, hin2, hst2, hsr2, hf2⟩
                  have HF9 := Lib.hid (show Merged w g n c a b L (.returned (.tuple #[])) w8 from ⟨⟨_, rfl⟩, N2, hin2, (HCUT.out.stab.trans (HS1.out.1.mono (Nat.le_refl _) (by omega))).trans (hst2.mono (by omega) (Nat.le_refl _)), join_of (by omega) (by omega) (by rw [HCUT.out.stab.len, HLN.out]; exact hbn) HCUT.out.cross HS1.out.1 hst2 HS1.out.2 hsr2, hf.trans hf2 (fun _ _ h => h)⟩)
                  clear hin2 hst2 hsr2 hf2
                  go_wp2_with fail
                  go_returns
                  exact ⟨⟨_, rfl⟩, HF9.out.2⟩
                · have HSX := Lib.hid (show Srt mid b M by
                    by_cases h6 : mid < ee
                    · have : ee = b := by omega
                      rw [← this]; exact HT1.out.1
                    · exact HT1.out.2.sub (by omega) (Nat.le_refl _))
                  have HF9 := Lib.hid (show ∃ L', In wr g n c L' ∧ Stab a b L L' ∧ Srt a b L' ∧ Fr (fun q => q = g) w wr from ⟨M, HIN1.out, HCUT.out.stab.trans (HS1.out.1.mono (Nat.le_refl _) (by omega)), join_of (by omega) (by omega) (by rw [HCUT.out.stab.len, HLN.out]; exact hbn) HCUT.out.cross HS1.out.1 (Stab.refl _ _ _) HS1.out.2 HSX.out, hf⟩)
                  by_cases h6 : mid < ee
                  · have h6I : (mid : Int) < (ee : Int) := by omega
                    have h7I : ¬ (ee : Int) < (b : Int) := by omega
                    have h7d : decide (ee < b) = false := by simp; omega
                    clear h5
                    go_wp2_with fail
                    go_returns
                    exact ⟨⟨_, rfl⟩, HF9.out⟩
                  · have h6I : ¬ (mid : Int) < (ee : Int) := by omega
                    have h6d : decide (mid < ee) = false := by simpa using h6
                    clear h5
                    go_wp2_with fail
                    go_returns
                    exact ⟨⟨_, rfl⟩, HF9.out⟩
              · have h4I : ¬ (a : Int) < (st : Int) := by omega
                have h4d : decide (a < st) = false := by simpa using h4
                clear h3
                have HT1 := Lib.hid (show Srt mid ee M ∧ Srt ee b M from ⟨HCUT.out.s3.of (fun q h1 h2 => HS1.out.1.at (.inr h1)), HCUT.out.s4.of (fun q h1 h2 => HS1.out.1.at (.inr (by omega)))⟩)
                by_cases h5 : mid < ee ∧ ee < b
                · obtain ⟨h5a, h5b⟩ := h5
                  have HIH := Lib.hid (ih mid ee b M wr (by omega) h5a h5b hbn HIN1.out HT1.out.1 HT1.out.2)
                  go_wp2_with fail
                  refine HIH.out.mono ?_
                  rintro e w8 ⟨⟨u, rfl⟩, N2, hin2, hst2, hsr2, hf2⟩
                  have HF9 := Lib.hid (show Merged w g n c a b L (.returned (.tuple #[])) w8 from ⟨⟨_, rfl⟩, N2, hin2, (HCUT.out.stab.trans (HS1.out.1.mono (Nat.le_refl _) (by omega))).trans (hst2.mono (by omega) (Nat.le_refl _)), join_of (by omega) (by omega) (by rw [HCUT.out.stab.len, HLN.out]; exact hbn) HCUT.out.cross HS1.out.1 hst2 HS1.out.2 hsr2, hf.trans hf2 (fun _ _ h => h)⟩)
                  clear hin2 hst2 hsr2 hf2
                  go_wp2_with fail
                  go_returns
                  exact ⟨⟨_, rfl⟩, HF9.out.2⟩
                · have HSX := Lib.hid (show Srt mid b M by
                    by_cases h6 : mid < ee
                    · have : ee = b := by omega
                      rw [← this]; exact HT1.out.1
                    · exact HT1.out.2.sub (by omega) (Nat.le_refl _))
                  have HF9 := Lib.hid (show ∃ L', In wr g n c L' ∧ Stab a b L L' ∧ Srt a b L' ∧ Fr (fun q => q = g) w wr from ⟨M, HIN1.out, HCUT.out.stab.trans (HS1.out.1.mono (Nat.le_refl _) (by omega)), join_of (by omega) (by omega) (by rw [HCUT.out.stab.len, HLN.out]; exact hbn) HCUT.out.cross HS1.out.1 (Stab.refl _ _ _) HS1.out.2 HSX.out, hf⟩)
                  by_cases h6 : mid < ee
                  · have h6I : (mid : Int) < (ee : Int) := by omega
                    have h7I : ¬ (ee : Int) < (b : Int) := by omega
                    have h7d : decide (ee < b) = false := by simp; omega
                    clear h5
                    go_wp2_with fail
                    go_returns
                    exact ⟨⟨_, rfl⟩, HF9.out⟩
                  · have h6I : ¬ (mid : Int) < (ee : Int) := by omega
                    have h6d : decide (mid < ee) = false := by simpa using h6
                    clear h5
                    go_wp2_with fail
                    go_returns
                    exact ⟨⟨_, rfl⟩, HF9.out⟩
          · have h2I : ¬ (st : Int) < (m : Int) := by omega
            have h2d : decide (st < m) = false := by simpa using h2
            clear h1
            by_cases h3 : a < st ∧ st < mid
            · obtain ⟨h3a, h3b⟩ := h3
              have HIH1 := Lib.hid (ih a st mid M wr (by omega) h3a h3b (by omega) HIN.out HCUT.out.s1 HCUT.out.s2)
              go_wp2_with fail
              refine HIH1.out.mono ?_
              rintro e w7 ⟨⟨u, rfl⟩, N1, hin1, hst1, hsr1, hf1⟩
              have HIN1 := Lib.hid hin1
              have HS1 := Lib.hid (And.intro hst1 hsr1)
              have hf7 := hf.trans hf1 (fun _ _ h => h)
              clear hin1 hst1 hsr1 hf1 HIH1
              have HT1 := Lib.hid (show Srt mid ee N1 ∧ Srt ee b N1 from ⟨HCUT.out.s3.of (fun q h1 h2 => HS1.out.1.at (.inr h1)), HCUT.out.s4.of (fun q h1 h2 => HS1.out.1.at (.inr (by omega)))⟩)
              by_cases h5 : mid < ee ∧ ee < b
              · obtain ⟨h5a, h5b⟩ := h5
                have HIH := Lib.hid (ih mid ee b N1 w7 (by omega) h5a h5b hbn HIN1.out HT1.out.1 HT1.out.2)
                go_wp2_with fail
                refine HIH.out.mono ?_
                rintro e w8 ⟨⟨u, rfl⟩, N2, hin2, hst2, hsr2, hf2⟩
                have HF9 := Lib.hid (show Merged w g n c a b L (.returned (.tuple #[])) w8 from ⟨⟨_, rfl⟩, N2, hin2, (HCUT.out.stab.trans (HS1.out.1.mono (Nat.le_refl _) (by omega))).trans (hst2.mono (by omega) (Nat.le_refl _)), join_of (by omega) (by omega) (by rw [HCUT.out.stab.len, HLN.out]; exact hbn) HCUT.out.cross HS1.out.1 hst2 HS1.out.2 hsr2, hf7.trans hf2 (fun _ _ h => h)⟩)
                clear hin2 hst2 hsr2 hf2
                go_wp2_with fail
                go_returns
                exact ⟨⟨_, rfl⟩, HF9.out.2⟩
              · have HSX := Lib.hid (show Srt mid b N1 by
                  by_cases h6 : mid < ee
                  · have : ee = b := by omega
                    rw [← this]; exact HT1.out.1
                  · exact HT1.out.2.sub (by omega) (Nat.le_refl _))
                have HF9 := Lib.hid (show ∃ L', In w7 g n c L' ∧ Stab a b L L' ∧ Srt a b L' ∧ Fr (fun q => q = g) w w7 from ⟨N1, HIN1.out, HCUT.out.stab.trans (HS1.out.1.mono (Nat.le_refl _) (by omega)), join_of (by omega) (by omega) (by rw [HCUT.out.stab.len, HLN.out]; exact hbn) HCUT.out.cross HS1.out.1 (Stab.refl _ _ _) HS1.out.2 HSX.out, hf7⟩)
                by_cases h6 : mid < ee
                · have h6I : (mid : Int) < (ee : Int) := by omega
                  have h7I : ¬ (ee : Int) < (b : Int) := by omega
                  have h7d : decide (ee < b) = false := by simp; omega
                  clear h5
                  go_wp2_with fail
                  go_returns
                  exact ⟨⟨_, rfl⟩, HF9.out⟩
                · have h6I : ¬ (mid : Int) < (ee : Int) := by omega
                  have h6d : decide (mid < ee) = false := by simpa using h6
                  clear h5
                  go_wp2_with fail
                  go_returns
                  exact ⟨⟨_, rfl⟩, HF9.out⟩
            · have HIN1 := HIN
              have HS1 := Lib.hid (show Stab a mid M M ∧ Srt a mid M from ⟨Stab.refl _ _ _, by
                by_cases h4 : a < st
                · exact HCUT.out.s1.sub (Nat.le_refl _) (by omega)
                · have : st = a := by omega
                  have h := HCUT.out.s2
                  rwa [this] at h⟩)
              by_cases h4 : a < st
              · have h4I : (a : Int) < (st : Int) := by omega
                have h4J : ¬ (st : Int) < (mid : Int) := by omega
                have h4d : decide (st < mid) = false := by simp; omega
                clear h3
                have HT1 := Lib.hid (show Srt mid ee M ∧ Srt ee b M from ⟨HCUT.out.s3.of (fun q h1 h2 => HS1.out.1.at (.inr h1)), HCUT.out.s4.of (fun q h1 h2 => HS1.out.1.at (.inr (by omega)))⟩)
                by_cases h5 : mid < ee ∧ ee < b
                · obtain ⟨h5a, h5b⟩ := h5
                  have HIH := Lib.hid (ih mid ee b M wr (by omega) h5a h5b hbn HIN1.out HT1.out.1 HT1.out.2)
                  go_wp2_with fail
                  refine HIH.out.mono ?_
                  rintro e w8 ⟨⟨u, rfl⟩, N2, hin2, hst2, hsr2, hf2⟩
                  have HF9 := Lib.hid (show Merged w g n c a b L (.returned (.tuple #[])) w8 from ⟨⟨_, rfl⟩, N2, hin2, (HCUT.out.stab.trans (HS1.out.1.mono (Nat.le_refl _) (by omega))).trans (hst2.mono (by omega) (Nat.le_refl _)), join_of (by omega) (by omega) (by rw [HCUT.out.stab.len, HLN.out]; exact hbn) HCUT.out.cross HS1.out.1 hst2 HS1.out.2 hsr2, hf.trans hf2 (fun _ _ h => h)⟩)
                  clear hin2 hst2 hsr2 hf2
                  go_wp2_with fail
                  go_returns
                  exact ⟨⟨_, rfl⟩, HF9.out.2⟩
                · have HSX := Lib.hid (show Srt mid b M by
                    by_cases h6 : mid < ee
                    · have : ee = b := by omega
                      rw [← this]; exact HT1.out.1
                    · exact HT1.out.2.sub (by omega) (Nat.le_refl _))
                  have HF9 := Lib.hid (show ∃ L', In wr g n c L' ∧ Stab a b L L' ∧ Srt a b L' ∧ Fr (fun q => q = g) w wr from ⟨M, HIN1.out, HCUT.out.stab.trans (HS1.out.1.mono (Nat.le_refl _) (by omega)), join_of (by omega) (by omega) (by rw [HCUT.out.stab.len, HLN.out]; exact hbn) HCUT.out.cross HS1.out.1 (Stab.refl _ _ _) HS1.out.2 HSX.out, hf⟩)
                  by_cases h6 : mid < ee
                  · have h6I : (mid : Int) < (ee : Int) := by omega
                    have h7I : ¬ (ee : Int) < (b : Int) := by omega
                    have h7d : decide (ee < b) = false := by simp; omega
                    clear h5
                    go_wp2_with fail
                    go_returns
                    exact ⟨⟨_, rfl⟩, HF9.out⟩
                  · have h6I : ¬ (mid : Int) < (ee : Int) := by omega
                    have h6d : decide (mid < ee) = false := by simpa using h6
                    clear h5
                    go_wp2_with fail
                    go_returns
                    exact ⟨⟨_, rfl⟩, HF9.out⟩
              · have h4I : ¬ (a : Int) < (st : Int) := by omega
                have h4d : decide (a < st) = false := by simpa using h4
                clear h3
                have HT1 := Lib.hid (show Srt mid ee M ∧ Srt ee b M from ⟨HCUT.out.s3.of (fun q h1 h2 => HS1.out.1.at (.inr h1)), HCUT.out.s4.of (fun q h1 h2 => HS1.out.1.at (.inr (by omega)))⟩)
                by_cases h5 : mid < ee ∧ ee < b
                · obtain ⟨h5a, h5b⟩ := h5
                  have HIH := Lib.hid (ih mid ee b M wr (by omega) h5a h5b hbn HIN1.out HT1.out.1 HT1.out.2)
                  go_wp2_with fail
                  refine HIH.out.mono ?_
                  rintro e w8 ⟨⟨u, rfl⟩, N2, hin2, hst2, hsr2, hf2⟩
                  have HF9 := Lib.hid (show Merged w g n c a b L (.returned (.tuple #[])) w8 from ⟨⟨_, rfl⟩, N2, hin2, (HCUT.out.stab.trans (HS1.out.1.mono (Nat.le_refl _) (by omega))).trans (hst2.mono (by omega) (Nat.le_refl _)), join_of (by omega) (by omega) (by rw [HCUT.out.stab.len, HLN.out]; exact hbn) HCUT.out.cross HS1.out.1 hst2 HS1.out.2 hsr2, hf.trans hf2 (fun _ _ h => h)⟩)
                  clear hin2 hst2 hsr2 hf2
                  go_wp2_with fail
                  go_returns
                  exact ⟨⟨_, rfl⟩, HF9.out.2⟩
                · have HSX := Lib.hid (show Srt mid b M by
                    by_cases h6 : mid < ee
                    · have : ee = b := by omega
                      rw [← this]; exact HT1.out.1
                    · exact HT1.out.2.sub (by omega) (Nat.le_refl _))
                  have HF9 := Lib.hid (show ∃ L', In wr g n c L' ∧ Stab a b L L' ∧ Srt a b L' ∧ Fr (fun q => q = g) w wr from ⟨M, HIN1.out, HCUT.out.stab.trans (HS1.out.1.mono (Nat.le_refl _) (by omega)), join_of (by omega) (by omega) (by rw [HCUT.out.stab.len, HLN.out]; exact hbn) HCUT.out.cross HS1.out.1 (Stab.refl _ _ _) HS1.out.2 HSX.out, hf⟩)
                  by_cases h6 : mid < ee
                  · have h6I : (mid : Int) < (ee : Int) := by omega
                    have h7I : ¬ (ee : Int) < (b : Int) := by omega
                    have h7d : decide (ee < b) = false := by simp; omega
                    clear h5
                    go_wp2_with fail
                    go_returns
                    exact ⟨⟨_, rfl⟩, HF9.out⟩
                  · have h6I : ¬ (mid : Int) < (ee : Int) := by omega
                    have h6d : decide (mid < ee) = false := by simpa using h6
                    clear h5
                    go_wp2_with fail
                    go_returns
                    exact ⟨⟨_, rfl⟩, HF9.out⟩
end Go.Proofs.Ytfdajignnnhnmaa
